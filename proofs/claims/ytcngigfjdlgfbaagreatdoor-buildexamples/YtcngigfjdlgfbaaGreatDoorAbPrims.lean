/- Functions without a Go body, told by laws of their own; and from the evaluator's answer to the call. -/
import Derived.Test.YtcngigfjdlgfbaaGreatDoorAbFastOk6
import Derived.Laws.Externs
import Derived.Below
namespace Go.Ab
open Go
variable {β : Inj} {P : Program} {gl : Nat → Bool}

theorem primOk_extern {f : FuncId} {fn : Func} {e : Array Value → Sem Value} {p : Prim} (hf : P.funcs[f]? = some fn) (hname : (fn.name == "runtime.NumGoroutine") = false) (hb : fn.body.isNone = true) (hn : Extern.findNext fn = none) (he : Extern.find fn = some e)
    (h : ∀ cf args h v h', p cf args h = some (v, h') → ∀ β w (args' : Array Value), Sim β h w → LRel β args args'.toList → ∃ v' w' β', (e args').run P w = .ok v' w' ∧ Step β h w β' h' w' ∧ VRel β' v v') : PrimOk P gl f p := by
  intro cf _ args hh v h' hp β w args' hs _ ha
  obtain ⟨v', w', β', h1, h2, h3⟩ := h cf args hh v h' hp β w args' hs ha
  refine ⟨fn, hf, .inr ⟨v', w', β', ?_, h2, h3⟩⟩
  rw [run_callFunc_extern hf hname hb hn he, h1]
  rfl

/-- abi.NoEscape. -/
def sNoEscape : Prim := fun _ args h => match args with
  | [v] => some (v, h)
  | _ => none
theorem noEscape_ok {f : FuncId} {fn : Func} (hf : P.funcs[f]? = some fn) (hname : (fn.name == "runtime.NumGoroutine") = false) (hb : fn.body.isNone = true) (hn : Extern.findNext fn = none) (he : Extern.find fn = some Extern.AbiNoEscape.same) : PrimOk P gl f sNoEscape := by
  refine primOk_extern hf hname hb hn he fun cf args h v h' hp β w args' hs ha => ?_
  unfold sNoEscape at hp
  split at hp
  · next u =>
    simp only [Option.some.injEq, Prod.mk.injEq] at hp
    obtain ⟨rfl, rfl⟩ := hp
    obtain ⟨u', r, hr, hv, hn⟩ := ha.inv_cons
    obtain rfl := hn.inv_nil
    obtain rfl : args' = #[u'] := by
      have := congrArg List.toArray hr
      simpa using this
    exact ⟨u', w, β, rfl, Step.refl hs, hv⟩
  · cases hp

/-- The first place of a byte in a list, or -1. -/
noncomputable def findAt (c : Nat) : List UInt8 → Nat → Int
  | [], _ => -1
  | b :: l, i => if b.toNat = c then i else findAt c l (i + 1)
/-- bytealg.IndexByteString. -/
noncomputable def sIndexByte : Prim := fun _ args h => match args with
  | [.string s, .int .u8 c] => if 0 ≤ c ∧ c < 256 then some (.int .i64 (findAt c.toNat s.data.toList 0), h) else none
  | _ => none

theorem findAt_eq (s : ByteArray) (c : Nat) (hc : c < 256) : findAt c s.data.toList 0 = firstIdx s c.toUInt8 := by
  have key : ∀ (l : List UInt8) (i : Nat), s.data.toList.drop i = l → findAt c l i = match (List.range' i l.length).find? fun j => s[j]! == c.toUInt8 with | some j => (j : Int) | none => -1 := by
    intro l
    induction l with
    | nil => intro i _; rfl
    | cons b l ih =>
      intro i hi
      have hlt : i < s.data.toList.length := by
        rcases Nat.lt_or_ge i s.data.toList.length with h | h
        · exact h
        · rw [List.drop_eq_nil_of_le h] at hi; cases hi
      have hb : s[i]! = b := by
        have h0 : s.data.toList[i]? = some b := by
          have : (s.data.toList.drop i)[0]? = some b := by rw [hi]; rfl
          rw [List.getElem?_drop] at this; simpa using this
        have hsz : i < s.size := by simpa using hlt
        rw [getElem!_pos s i hsz]
        have : s.data[i]? = some b := by rw [← Array.getElem?_toList]; exact h0
        rw [Array.getElem?_eq_getElem (by simpa using hlt)] at this
        exact Option.some.inj this
      have hd : s.data.toList.drop (i + 1) = l := by rw [← List.drop_drop, hi]; rfl
      simp only [findAt, List.length_cons, List.range'_succ, List.find?_cons, hb]
      by_cases hbc : b.toNat = c
      · have : (b == c.toUInt8) = true := by
          rw [beq_iff_eq, ← UInt8.toNat_inj]; simp [hbc]; omega
        rw [if_pos hbc, this]
      · have : (b == c.toUInt8) = false := by
          rw [beq_eq_false_iff_ne]; rintro rfl; apply hbc; simp; omega
        rw [if_neg hbc, this]
        exact ih (i + 1) hd
  rw [key s.data.toList 0 rfl]
  unfold firstIdx
  rw [List.range_eq_range', show s.data.toList.length = s.size by simp]
  generalize List.find? (fun i => s[i]! == c.toUInt8) (List.range' 0 s.size) = x
  cases x <;> rfl

theorem indexByte_ok {f : FuncId} {fn : Func} (hf : P.funcs[f]? = some fn) (hname : (fn.name == "runtime.NumGoroutine") = false) (hb : fn.body.isNone = true) (hn : Extern.findNext fn = none) (he : Extern.find fn = some Extern.BytealgIndexByte.indexByte) : PrimOk P gl f sIndexByte := by
  refine primOk_extern hf hname hb hn he fun cf args h v h' hp β w args' hs ha => ?_
  unfold sIndexByte at hp
  split at hp
  · next s c =>
    split at hp
    · next hc =>
      simp only [Option.some.injEq, Prod.mk.injEq] at hp
      obtain ⟨rfl, rfl⟩ := hp
      obtain ⟨u', r, hr, hv, hn⟩ := ha.inv_cons
      obtain ⟨x', r', rfl, hx, hn'⟩ := hn.inv_cons
      obtain rfl := hn'.inv_nil
      obtain rfl := hv.inv_string
      obtain rfl := hx.inv_int
      obtain rfl : args' = #[.string s, .int .u8 c] := by
        have := congrArg List.toArray hr
        simpa using this
      refine ⟨_, w, β, run_indexByte_string s c w, Step.refl hs, ?_⟩
      rw [findAt_eq s c.toNat (by omega)]
      exact .int _ _
    · cases hp
  · cases hp

/-! ### The same for the fast evaluator -/
section
noncomputable def fNoEscape (bad : Bool) : PrimF := fun _ args h K => List.rec (motive := fun _ => Bool) bad (fun v r _ => List.rec (motive := fun _ => Bool) (K v h) (fun _ _ _ => bad) r) args
theorem fNoEscape_ref (bad : Bool) (cf : FuncId → List Value → Heap → (Value → Heap → Bool) → Bool) (cr : CallF) (args : List Value) (h : Heap) (K : Value → Heap → Bool) : Ref bad (fNoEscape bad cf args h K) (sNoEscape cr args h) fun r => K r.1 r.2 := by
  match args with
  | [] => exact .inl rfl
  | [v] => exact .of rfl rfl
  | v :: u :: r => exact .inl rfl
noncomputable def findB (c : Nat) (l : List UInt8) : Nat → (Int → Bool) → Bool := List.rec (motive := fun _ => Nat → (Int → Bool) → Bool) (fun _ K => K (-1)) (fun b _ ih i K => fNat i fun i => cnd (Nat.beq b.toNat c) (K (.ofNat i)) (ih (i + 1) K)) l
theorem findB_eq (c : Nat) : ∀ (l : List UInt8) (i : Nat) (K : Int → Bool), findB c l i K = K (findAt c l i)
  | [], _, _ => rfl
  | b :: l, i, K => by
    show fNat i (fun i => cnd (Nat.beq b.toNat c) (K (.ofNat i)) (findB c l (i + 1) K)) = _
    rw [fNat_eq, findB_eq c l]
    simp only [findAt]
    by_cases hb : b.toNat = c
    · rw [if_pos hb, show Nat.beq b.toNat c = true by simpa [Nat.beq_eq] using hb]; rfl
    · rw [if_neg hb]
      have : Nat.beq b.toNat c = false := by
        rw [Bool.eq_false_iff]; intro hh; exact hb (by simpa [Nat.beq_eq] using hh)
      rw [this]; rfl
noncomputable def fIndexByte (bad : Bool) : PrimF := fun _ args h K => match args with
  | [.string s, .int .u8 (.ofNat c)] => cnd (Nat.blt c 256) (findB c s.data.toList 0 fun i => K (.int .i64 i) h) bad
  | _ => bad
theorem fIndexByte_ref (bad : Bool) (cf : FuncId → List Value → Heap → (Value → Heap → Bool) → Bool) (cr : CallF) (args : List Value) (h : Heap) (K : Value → Heap → Bool) : Ref bad (fIndexByte bad cf args h K) (sIndexByte cr args h) fun r => K r.1 r.2 := by
  unfold fIndexByte
  split
  · next s c =>
    refine cnd_ref (fun hc => ?_) (fun _ => .bad)
    have hc : c < 256 := by simpa [Nat.blt_eq] using hc
    rw [findB_eq]
    refine .of (r := (.int .i64 (findAt c s.data.toList 0), h)) ?_ rfl
    simp only [sIndexByte]
    rw [if_pos ⟨by simp, by simp; omega⟩]
    rfl
  · exact .bad
end

/-! ### From the evaluator's answer to the call -/
/-- No memory of one's own yet. -/
def β0 : Inj := fun _ => none
def noGl : Nat → Bool := fun _ => false
theorem Heap.get_nil (n k : Nat) : (⟨n, .nil⟩ : Heap).get k = none := HT.get_nil _
theorem sim_nil (n : Nat) (w : World) : Sim β0 ⟨n, .nil⟩ w :=
  { lt := fun k sl h => nomatch h
    blk := fun k B sl h => by rw [Heap.get_nil] at h; cases h
    own := fun k k' B B' sl sl' _ h => by rw [Heap.get_nil] at h; cases h
    wf := fun k B h => by rw [Heap.get_nil] at h; cases h }
theorem gl_nil : Gl noGl β0 := fun g h => by cases h

open Go.RowKit in
theorem below_of_step {n : Nat} {w w' : World} {β' : Inj} {h' : Heap} (s : Step β0 ⟨n, .nil⟩ w β' h' w') : Below w.heap.size w w' :=
  ⟨s.os, s.tape, s.output, s.size, fun k hk => s.kept k hk fun ⟨k, B, sl, h1, _⟩ => by rw [Heap.get_nil] at h1; cases h1⟩

open Go.RowKit in
/-- A closed call. -/
theorem closed_call {cf : CallF} (hcf : CfOk P noGl cf) {f : FuncId} {fn : Func} {n : Nat} {v : Value} {h' : Heap} (hr : cf f [] ⟨n, .nil⟩ = some (v, h')) (hv : bare v = true) (hY : f < YB) (hf : P.funcs[f]? = some fn) (hb : fn.body.isSome = true) (hN : NamesOk P) (w : World) :
    Calls P f #[] w fun e w' => e = .returned v ∧ Below w.heap.size w w' := by
  obtain ⟨fn', hfn, h⟩ := hcf.fn f [] _ v h' hY hr β0 w #[] (sim_nil n w) gl_nil (.nil _)
  rw [hf] at hfn
  obtain rfl := Option.some.inj hfn
  rcases h with ⟨_, h⟩ | ⟨v', w', β', h1, _, _⟩
  · refine h.mono ?_
    rintro e w' ⟨v', β', rfl, h2, h3⟩
    refine ⟨?_, below_of_step h2⟩
    cases h3 <;> first | rfl | (simp [bare] at hv)
  · rw [run_callFunc_enter hN hf hb] at h1
    cases h1

/-- The fast evaluator's word for a closed call that is to be true. -/
noncomputable def isTrue (v : Value) : Bool := boolF v false fun b => b
theorem of_fast {gl : Nat → Bool} {pf : FuncId → Option (PrimF)} {pr : FuncId → Option Prim} (hp : PrimsRef false pf pr) {n : Nat} {f : FuncId} {args : List Value} {h : Heap} (hr : callF P gl pf false n f args h (fun v _ => isTrue v) = true) :
    ∃ h', callRun P gl pr n f args h = some (.bool true, h') := by
  rcases callF_ref (P := P) (gl := gl) hp n f args h (fun v _ => isTrue v) with h1 | ⟨⟨v, h'⟩, h1, h2⟩
  · rw [hr] at h1; cases h1
  · rw [hr] at h2
    refine ⟨h', ?_⟩
    rw [h1]
    have h2 : isTrue v = true := h2.symm
    unfold isTrue at h2
    rcases boolF_eq v false (fun b => b) with ⟨h3, _⟩ | ⟨b, h3, h4⟩
    · rw [h3] at h2; cases h2
    · rw [h4] at h2; rw [h3, h2]
end Go.Ab
