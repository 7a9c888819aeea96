/- The program of this seat: what is closed about its text, and the laws of its functions without a Go body. -/
import Derived.Test.YtcngigfjdlgfbaaGreatDoorAbIdle
import Derived.Test.YtcngigfjdlgfbaaGreatDoorProg
namespace Go.Proofs.YtcngigfjdlgfbaaGreatDoor
open Go Go.Ab Go.RowKit
theorem draws_0 : (((Tryz.prog.funcs.toList.drop 0).take 40).all fun f => funcDraws f) = true := by kernel_rfl
theorem draws_1 : (((Tryz.prog.funcs.toList.drop 40).take 40).all fun f => funcDraws f) = true := by kernel_rfl
theorem draws_2 : (((Tryz.prog.funcs.toList.drop 80).take 40).all fun f => funcDraws f) = true := by kernel_rfl
theorem draws_3 : (((Tryz.prog.funcs.toList.drop 120).take 40).all fun f => funcDraws f) = true := by kernel_rfl
theorem draws_4 : (((Tryz.prog.funcs.toList.drop 160).take 40).all fun f => funcDraws f) = true := by kernel_rfl
theorem draws_5 : (((Tryz.prog.funcs.toList.drop 200).take 40).all fun f => funcDraws f) = true := by kernel_rfl
theorem funcs_len : Tryz.prog.funcs.toList.length = 233 := by kernel_rfl
theorem draws_at (i : Nat) (fn : Func) (h : Tryz.prog.funcs.toList[i]? = some fn) : funcDraws fn = true := by
  have key : ∀ a, ((Tryz.prog.funcs.toList.drop a).take 40).all (fun f => funcDraws f) = true → a ≤ i → i < a + 40 → funcDraws fn = true := fun a ha h1 h2 => by
    refine List.all_eq_true.1 ha fn (List.mem_of_getElem? (i := i - a) ?_)
    rw [List.getElem?_take, if_pos (by omega), List.getElem?_drop, show a + (i - a) = i by omega]
    exact h
  have hlt : i < 233 := by
    have := (List.getElem?_eq_some_iff.1 h).1
    rw [funcs_len] at this; exact this
  by_cases h0 : i < 40
  · exact key 0 draws_0 (by omega) (by omega)
  by_cases h1 : i < 80
  · exact key 40 draws_1 (by omega) (by omega)
  by_cases h2 : i < 120
  · exact key 80 draws_2 (by omega) (by omega)
  by_cases h3 : i < 160
  · exact key 120 draws_3 (by omega) (by omega)
  by_cases h4 : i < 200
  · exact key 160 draws_4 (by omega) (by omega)
  exact key 200 draws_5 (by omega) (by omega)
theorem names_all : (Tryz.prog.funcs.toList.all fun f => !(f.name == "runtime.NumGoroutine")) = true := by kernel_rfl
theorem text_ok : TextOk Tryz.prog := {
  names := fun _ fn h => by
    have hm : fn ∈ Tryz.prog.funcs.toList := by
      rw [← Array.getElem?_toList] at h
      exact List.mem_of_getElem? h
    have := List.all_eq_true.1 names_all fn hm
    simpa using this
  draws := fun f fn h => draws_at f fn (by rw [Array.getElem?_toList]; exact h) }
theorem noEscape_prim : PrimOk Tryz.prog noGl 196 sNoEscape := noEscape_ok (fn := (Tryz.prog.funcs[196]?).getD default) (by kernel_rfl) (by kernel_rfl) (by kernel_rfl) (by kernel_rfl) (by kernel_rfl)
theorem indexByte_prim : PrimOk Tryz.prog noGl 200 sIndexByte := indexByte_ok (fn := (Tryz.prog.funcs[200]?).getD default) (by kernel_rfl) (by kernel_rfl) (by kernel_rfl) (by kernel_rfl) (by kernel_rfl)
def seqL : Code → Code
  | .seq a _ => a
  | c => c
def seqR : Code → Code
  | .seq _ b => b
  | c => c
noncomputable def bodyW : Code := (Tryz.f108.body).getD .skip
theorem idle_closure (args : Array Value) (w : World) (h : args.size = 2) : CallsDIn Fence.wide 0 Tryz.prog 137 args .returning w fun e u' w' => (∃ v, e = .returned v) ∧ u' = .returning ∧ Below w.heap.size w w' :=
  idle_ok (n := 2) Tryz.func137 rfl rfl (by kernel_rfl) args w h
theorem written_prim : PrimOk Tryz.prog noGl 108 (sDefer Tryz.prog noGl Tryz.f108 (seqL bodyW) (seqR (seqR bodyW)) 5) :=
  defer_ok text_ok.names Tryz.func108 rfl rfl rfl rfl rfl rfl rfl Tryz.func137 rfl idle_closure (by kernel_rfl) (by kernel_rfl)
noncomputable def lst0 : PList := [(196, .noEsc), (200, .idxByte), (108, .defer Tryz.f108 (seqL bodyW) (seqR (seqR bodyW)) 5)]
theorem lst0_ok : AllOk Tryz.prog noGl lst0 := allOk_cons noEscape_prim (allOk_cons indexByte_prim (allOk_cons written_prim (allOk_nil)))
end Go.Proofs.YtcngigfjdlgfbaaGreatDoor
