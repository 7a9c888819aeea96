/- The program of this seat: what the evaluator asks of its text, and its functions without a Go body. -/
import Derived.Test.YtoabjjimjldcfaaGreatDoorAbMemo
import Derived.Test.YtoabjjimjldcfaaGreatDoorAbLaw
import Derived.Test.YtoabjjimjldcfaaGreatDoorProg
namespace Go.Proofs.YtoabjjimjldcfaaGreatDoor
open Go Go.Ab
theorem draws_0 : ((Tryz.prog.funcs.toList.take 40).all fun f => funcDraws f) = true := by kernel_rfl
theorem draws_1 : (((Tryz.prog.funcs.toList.drop 40).take 40).all fun f => funcDraws f) = true := by kernel_rfl
theorem draws_2 : (((Tryz.prog.funcs.toList.drop 80).take 40).all fun f => funcDraws f) = true := by kernel_rfl
theorem draws_3 : (((Tryz.prog.funcs.toList.drop 120).take 40).all fun f => funcDraws f) = true := by kernel_rfl
theorem draws_4 : ((Tryz.prog.funcs.toList.drop 160).all fun f => funcDraws f) = true := by kernel_rfl
theorem draws_all (fn : Func) (h : fn ∈ Tryz.prog.funcs.toList) : funcDraws fn = true := by
  rw [← List.take_append_drop 40 Tryz.prog.funcs.toList] at h
  rcases List.mem_append.1 h with h | h
  · exact List.all_eq_true.1 draws_0 fn h
  rw [← List.take_append_drop 40 (Tryz.prog.funcs.toList.drop 40), List.drop_drop] at h
  rcases List.mem_append.1 h with h | h
  · exact List.all_eq_true.1 draws_1 fn h
  rw [← List.take_append_drop 40 (Tryz.prog.funcs.toList.drop (40 + 40)), List.drop_drop] at h
  rcases List.mem_append.1 h with h | h
  · exact List.all_eq_true.1 draws_2 fn h
  rw [← List.take_append_drop 40 (Tryz.prog.funcs.toList.drop (40 + 40 + 40)), List.drop_drop] at h
  rcases List.mem_append.1 h with h | h
  · exact List.all_eq_true.1 draws_3 fn h
  · exact List.all_eq_true.1 draws_4 fn h
theorem names_all : (Tryz.prog.funcs.toList.all fun f => !(f.name == "runtime.NumGoroutine")) = true := by kernel_rfl
theorem mem_funcs {f : FuncId} {fn : Func} (h : Tryz.prog.funcs[f]? = some fn) : fn ∈ Tryz.prog.funcs.toList := by
  rw [← Array.getElem?_toList] at h
  exact List.mem_of_getElem? h
theorem names_ok : NamesOk Tryz.prog := fun _ fn h => by
  have := List.all_eq_true.1 names_all fn (mem_funcs h)
  simpa using this
theorem draws_ok {gl : Nat → Bool} : AllDraws Tryz.prog gl := allDraws_of names_ok fun _ fn h => draws_all fn (mem_funcs h)
theorem noEscape_prim {gl : Nat → Bool} : PrimOk Tryz.prog gl 194 sNoEscape :=
  noEscape_ok (fn := (Tryz.prog.funcs[194]?).getD default) (by kernel_rfl) (by kernel_rfl) (by kernel_rfl) (by kernel_rfl) (by kernel_rfl)
theorem indexByte_prim {gl : Nat → Bool} : PrimOk Tryz.prog gl 196 sIndexByte :=
  indexByte_ok (fn := (Tryz.prog.funcs[196]?).getD default) (by kernel_rfl) (by kernel_rfl) (by kernel_rfl) (by kernel_rfl) (by kernel_rfl)
noncomputable def pr (f : FuncId) : Option Prim := cnd (Nat.beq f 194) (some sNoEscape) (cnd (Nat.beq f 196) (some sIndexByte) none)
noncomputable def pf (f : FuncId) : Option (PrimF Bool) := cnd (Nat.beq f 194) (some (fNoEscape false)) (cnd (Nat.beq f 196) (some (fIndexByte false)) none)
theorem prims_ref : PrimsRef false pf pr := fun f => by
  unfold pf pr
  cases h1 : Nat.beq f 194 with
  | true => exact .inr ⟨_, _, rfl, rfl, fun cf cr _ args h K => fNoEscape_ref false cf cr args h K⟩
  | false =>
    cases h2 : Nat.beq f 196 with
    | true => exact .inr ⟨_, _, rfl, rfl, fun cf cr _ args h K => fIndexByte_ref false cf cr args h K⟩
    | false => exact .inl ⟨rfl, rfl⟩
theorem prims_ok {gl : Nat → Bool} : PrimsOk Tryz.prog gl pr := fun f p h => by
  unfold pr at h
  cases h1 : Nat.beq f 194 with
  | true =>
    rw [h1] at h
    obtain rfl := Option.some.inj h
    obtain rfl : f = 194 := by simpa [Nat.beq_eq] using h1
    exact noEscape_prim
  | false =>
    rw [h1] at h
    cases h2 : Nat.beq f 196 with
    | true =>
      rw [h2] at h
      obtain rfl := Option.some.inj h
      obtain rfl : f = 196 := by simpa [Nat.beq_eq] using h2
      exact indexByte_prim
    | false => rw [h2] at h; cases h
theorem run_ok {gl : Nat → Bool} (n : Nat) : CfOk Tryz.prog gl (callRun Tryz.prog gl pr n) := call_ok names_ok prims_ok draws_ok (drawsText_of names_ok) n
end Go.Proofs.YtoabjjimjldcfaaGreatDoor
