/- The functions that have a law of their own, as a list. -/
import Derived.Test.YtcngigfjdlgfbaaGreatDoorAbKeep
namespace Go.Ab
open Go Go.RowKit
variable {P : Program} {gl : Nat → Bool}

/-- A law of a function's own. -/
inductive PEntry where
  | memo (tab : List (List Value × Value))
  | noEsc
  | idxByte
  | defer (fn : Func) (r0 rest : Code) (d : Tmp)
  | keep (rows : List KRow)

noncomputable def PEntry.slow (P : Program) (gl : Nat → Bool) (e : PEntry) : Prim := PEntry.rec (motive := fun _ => Prim) (fun tab => sMemo tab) sNoEscape sIndexByte (fun fn r0 rest d => sDefer P gl fn r0 rest d) (fun rows => sKeep rows) e
noncomputable def PEntry.fast (P : Program) (gl : Nat → Bool) (bad : Bool) (e : PEntry) : PrimF := PEntry.rec (motive := fun _ => PrimF) (fun tab => fMemo bad tab) (fNoEscape bad) (fIndexByte bad) (fun fn r0 rest d => fDefer P gl bad fn r0 rest d) (fun rows => fKeep bad rows) e
abbrev PList := List (FuncId × PEntry)
noncomputable def cndO {α : Type} (b : Bool) (x y : Option α) : Option α := Bool.rec (motive := fun _ => Option α) y x b
noncomputable def prOf (P : Program) (gl : Nat → Bool) (l : PList) (f : FuncId) : Option Prim := List.rec (motive := fun _ => Option Prim) none (fun x _ ih => cndO (Nat.beq f x.1) (some (x.2.slow P gl)) ih) l
noncomputable def pfOf (P : Program) (gl : Nat → Bool) (bad : Bool) (l : PList) (f : FuncId) : Option (PrimF) := List.rec (motive := fun _ => Option (PrimF)) none (fun x _ ih => cndO (Nat.beq f x.1) (some (x.2.fast P gl bad)) ih) l

theorem pfOf_ref (bad : Bool) (l : PList) : PrimsRef bad (pfOf P gl bad l) (prOf P gl l) := fun f => by
  induction l with
  | nil => exact .inl ⟨rfl, rfl⟩
  | cons x l ih =>
    show (cndO (Nat.beq f x.1) (some (x.2.fast P gl bad)) (pfOf P gl bad l f) = none ∧ cndO (Nat.beq f x.1) (some (x.2.slow P gl)) (prOf P gl l f) = none) ∨ _
    cases hx : Nat.beq f x.1 with
    | false =>
      rcases ih with ⟨h1, h2⟩ | ⟨p, q, h1, h2, h3⟩
      · exact .inl ⟨h1, h2⟩
      · refine .inr ⟨p, q, ?_, ?_, h3⟩
        · show cndO (Nat.beq f x.1) (some (x.2.fast P gl bad)) (pfOf P gl bad l f) = _
          rw [hx]; exact h1
        · show cndO (Nat.beq f x.1) (some (x.2.slow P gl)) (prOf P gl l f) = _
          rw [hx]; exact h2
    | true =>
      refine .inr ⟨x.2.fast P gl bad, x.2.slow P gl, ?_, ?_, fun cf cr hcf args h K => ?_⟩
      · show cndO (Nat.beq f x.1) (some (x.2.fast P gl bad)) (pfOf P gl bad l f) = _
        rw [hx]; rfl
      · show cndO (Nat.beq f x.1) (some (x.2.slow P gl)) (prOf P gl l f) = _
        rw [hx]; rfl
      · obtain ⟨k, e⟩ := x
        cases e with
        | memo tab => exact fMemo_ref bad tab cf cr args h K
        | noEsc => exact fNoEscape_ref bad cf cr args h K
        | idxByte => exact fIndexByte_ref bad cf cr args h K
        | defer fn r0 rest d => exact fDefer_ref bad fn r0 rest d cf cr hcf args h K
        | keep rows => exact fKeep_ref bad rows cf cr args h K

def AllOk (P : Program) (gl : Nat → Bool) (l : PList) : Prop := ∀ x ∈ l, PrimOk P gl x.1 (x.2.slow P gl)
theorem prOf_ok {l : PList} (h : AllOk P gl l) : PrimsOk P gl (prOf P gl l) := fun f p hp => by
  induction l with
  | nil => cases hp
  | cons x l ih =>
    have hp : cndO (Nat.beq f x.1) (some (x.2.slow P gl)) (prOf P gl l f) = some p := hp
    cases hx : Nat.beq f x.1 with
    | false => rw [hx] at hp; exact ih (fun y hy => h y (by simp [hy])) hp
    | true =>
      rw [hx] at hp
      obtain rfl := Option.some.inj hp
      obtain rfl : f = x.1 := by simpa [Nat.beq_eq] using hx
      exact h x (by simp)
theorem allOk_nil : AllOk P gl [] := fun _ h => by cases h
theorem allOk_cons {x : FuncId × PEntry} {l : PList} (h : PrimOk P gl x.1 (x.2.slow P gl)) (hl : AllOk P gl l) : AllOk P gl (x :: l) := fun y hy => by
  rcases List.mem_cons.1 hy with rfl | hy
  · exact h
  · exact hl y hy
theorem allOk_memo {f : FuncId} {tab : List (List Value × Value)} {l : PList} (h : TabOk P f tab) (hl : AllOk P gl l) : AllOk P gl ((f, .memo tab) :: l) := allOk_cons (memo_ok h) hl

theorem allOk_keep {f : FuncId} {rows : List KRow} {l : PList} (h : KTabOk P f rows) (hl : AllOk P gl l) : AllOk P gl ((f, .keep rows) :: l) := allOk_cons (keep_ok h) hl

/-- What is closed about a program's text. -/
structure TextOk (P : Program) : Prop where
  names : NamesOk P
  draws : ∀ (f : FuncId) (fn : Func), P.funcs[f]? = some fn → funcDraws fn = true
theorem TextOk.run (h : TextOk P) {l : PList} (hl : AllOk P gl l) (n : Nat) : CfOk P gl (callRun P gl (prOf P gl l) n) := call_ok h.names (prOf_ok hl) (allDraws_of h.names h.draws) (drawsText_of h.names) n

/-- A row: the fast evaluator's word. -/
theorem row_known (ht : TextOk P) {l : PList} (hl : AllOk P noGl l) {n : Nat} {f : FuncId} {args : List Value} {v : Value} (hr : callF P noGl (pfOf P noGl false l) false n f args ⟨0, .nil⟩ (fun u _ => ansEq v u) = true)
    (hc : (args.all bare && plain v && Nat.blt f YB && bodied P f) = true) : Known P f args v :=
  known_row ht.names (pfOf_ref false l) (ht.run hl n) hr hc
/-- A row of a call that reads blocks and makes new ones: the fast evaluator's word. -/
theorem row_kept (ht : TextOk P) {l : PList} (hl : AllOk P noGl l) {n : Nat} {f : FuncId} {r : KRow} {t : HT} (hr : callF P noGl (pfOf P noGl false l) false n f r.args ⟨r.next, t⟩ (fun u h => rowEnd r u h) = true) (htr : t = laid r.old .nil) (hY : Nat.blt f YB = true) : KRowOk P f r := by
  subst htr
  rcases callF_ref (P := P) (gl := noGl) (pfOf_ref false l) n f r.args ⟨r.next, laid r.old .nil⟩ (fun u h => rowEnd r u h) with h1 | ⟨⟨u, h'⟩, h1, h2⟩
  · rw [hr] at h1; cases h1
  · rw [hr] at h2
    have h2 : rowEnd r u h' = true := h2.symm
    unfold rowEnd at h2
    simp only [Bool.and_eq_true, Nat.ble_eq] at h2
    obtain ⟨⟨h3, h4⟩, h5⟩ := h2
    obtain rfl := vEq_sound 4 _ _ h3
    exact ⟨_, h', ht.run hl n, h1, h4, by simpa [Nat.blt_eq] using hY, fun p hp => newFit_inv (List.all_eq_true.1 h5 p hp)⟩
theorem ktab_nil {f : FuncId} : KTabOk P f [] := fun _ h => by cases h
theorem ktab_cons {f : FuncId} {r : KRow} {rows : List KRow} (h : KRowOk P f r) (ht : KTabOk P f rows) : KTabOk P f (r :: rows) := fun x hx => by
  rcases List.mem_cons.1 hx with rfl | hx
  · exact h
  · exact ht x hx
end Go.Ab
