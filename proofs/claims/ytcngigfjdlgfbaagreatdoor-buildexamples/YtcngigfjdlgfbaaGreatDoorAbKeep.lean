/- Answers that are known of calls that read blocks and make new ones: a call's answer at such blocks, used within other runs. -/
import Derived.Test.YtcngigfjdlgfbaaGreatDoorAbDefer
namespace Go.Ab
open Go Go.RowKit
variable {β : Inj} {P : Program} {gl : Nat → Bool}

/-- Blocks laid one over another. -/
noncomputable def laid (l : List (Nat × Blk)) (t : HT) : HT := List.rec (motive := fun _ => HT) t (fun p _ ih => HT.set (some p.2) (pathOf p.1) ih) l
theorem laid_nil (t : HT) : laid [] t = t := rfl
theorem laid_cons (p : Nat × Blk) (l : List (Nat × Blk)) (t : HT) : laid (p :: l) t = HT.set (some p.2) (pathOf p.1) (laid l t) := rfl
theorem get_laid (n k : Nat) : ∀ (l : List (Nat × Blk)) (t : HT), (∃ B, (k, B) ∈ l ∧ (⟨n, laid l t⟩ : Heap).get k = some B) ∨ ((⟨n, laid l t⟩ : Heap).get k = (⟨n, t⟩ : Heap).get k ∧ ∀ B, (k, B) ∉ l)
  | [], t => .inr ⟨rfl, by simp⟩
  | (j, B) :: l, t => by
    by_cases hj : k = j
    · subst hj
      exact .inl ⟨B, by simp, HT.get_set_same _ _ _⟩
    · have h1 : (⟨n, laid ((j, B) :: l) t⟩ : Heap).get k = (⟨n, laid l t⟩ : Heap).get k := HT.get_set_ne _ _ _ _ (pathOf_ne hj)
      rcases get_laid n k l t with ⟨B', hm, hg⟩ | ⟨hg, hm⟩
      · exact .inl ⟨B', by simp [hm], h1.trans hg⟩
      · refine .inr ⟨h1.trans hg, fun B' h => ?_⟩
        rcases List.mem_cons.1 h with e | h
        · exact hj (by injection e)
        · exact hm B' h

/-- A call that reads old blocks and makes new ones. -/
structure KRow where
  args : List Value
  old : List (Nat × Blk)
  next : Nat
  v : Value
  new : List (Nat × Blk)
  next' : Nat

def cellsEq (B C : Blk) : Bool := match B, C with
  | .cells cs t sz _, .cells cs' t' sz' _ => eqL (vEq 4) cs cs' && Nat.beq t t' && Nat.beq sz sz'
  | _, _ => false
def roCells : Blk → Bool
  | .cells _ _ _ wr => !wr
  | _ => false
noncomputable def oldFit (h : Heap) (p : Nat × Blk) : Bool := roCells p.2 && (match h.get p.1 with | some C => cellsEq p.2 C | none => false)
noncomputable def fits (h : Heap) (args : List Value) (r : KRow) : Bool := eqL (vEq 4) r.args args && Nat.ble h.next r.next && r.old.all (oldFit h)
noncomputable def keepH (r : KRow) (h : Heap) : Heap := ⟨r.next', laid r.new h.t⟩
noncomputable def lookK (h : Heap) (args : List Value) : List KRow → Option KRow
  | [] => none
  | r :: l => if fits h args r then some r else lookK h args l
noncomputable def sKeep (rows : List KRow) : Prim := fun _ args h => (lookK h args rows).map fun r => (r.v, keepH r h)

/-- What is known of such a call: an evaluator that tells the truth has answered it. -/
def KRowOk (P : Program) (f : FuncId) (r : KRow) : Prop :=
  ∃ cf h'', CfOk P noGl cf ∧ cf f r.args ⟨r.next, laid r.old .nil⟩ = some (r.v, h'') ∧ h''.next ≤ r.next' ∧ f < YB ∧ ∀ p ∈ r.new, h''.get p.1 = some p.2 ∧ r.next ≤ p.1 ∧ p.1 < r.next'
def KTabOk (P : Program) (f : FuncId) (rows : List KRow) : Prop := ∀ r ∈ rows, KRowOk P f r
theorem lookK_mem {h : Heap} {args : List Value} : ∀ {rows : List KRow} {r : KRow}, lookK h args rows = some r → r ∈ rows ∧ fits h args r = true
  | [], _, h => nomatch h
  | a :: l, r, h => by
    simp only [lookK] at h
    split at h
    · next hf => obtain rfl := Option.some.inj h; exact ⟨by simp, hf⟩
    · obtain ⟨h1, h2⟩ := lookK_mem h; exact ⟨by simp [h1], h2⟩
theorem cellsEq_inv {B C : Blk} (h : cellsEq B C = true) : ∃ cs t sz wr wr', B = .cells cs t sz wr ∧ C = .cells cs t sz wr' := by
  unfold cellsEq at h
  split at h
  · simp only [Bool.and_eq_true, Nat.beq_eq] at h
    obtain ⟨⟨h1, rfl⟩, rfl⟩ := h
    obtain rfl := eqL_sound (vEq_sound 4) h1
    exact ⟨_, _, _, _, _, rfl, rfl⟩
  · cases h

theorem keep_ok {f : FuncId} {rows : List KRow} (ht : KTabOk P f rows) : PrimOk P gl f (sKeep rows) := by
  intro cf0 _ args h v h' hp β w args' hs _ ha
  unfold sKeep at hp
  obtain ⟨r, hr, he⟩ := Option.map_eq_some_iff.1 hp
  simp only [Prod.mk.injEq] at he
  obtain ⟨rfl, rfl⟩ := he
  obtain ⟨hm, hf⟩ := lookK_mem hr
  obtain ⟨cf, h'', hcf, hrun, hn'', hY, hnew⟩ := ht r hm
  unfold fits at hf
  simp only [Bool.and_eq_true, Nat.ble_eq] at hf
  obtain ⟨⟨hargs, hnx⟩, hold⟩ := hf
  obtain rfl : r.args = args := eqL_sound (vEq_sound 4) hargs
  have hin : ∀ k B, (⟨r.next, laid r.old .nil⟩ : Heap).get k = some B → ∃ cs t sz wr', B = .cells cs t sz false ∧ h.get k = some (.cells cs t sz wr') := by
    intro k B hk
    rcases get_laid r.next k r.old .nil with ⟨B', hm, hg⟩ | ⟨hg, _⟩
    · rw [hg] at hk
      obtain rfl := Option.some.inj hk
      have h1 := List.all_eq_true.1 hold _ hm
      unfold oldFit at h1
      simp only [Bool.and_eq_true] at h1
      obtain ⟨h2, h3⟩ := h1
      cases hg2 : h.get k with
      | none => rw [hg2] at h3; cases h3
      | some C =>
        rw [hg2] at h3
        obtain ⟨cs, t, sz, wr, wr', rfl, rfl⟩ := cellsEq_inv h3
        have : wr = false := by simpa [roCells] using h2
        subst this
        exact ⟨cs, t, sz, wr', rfl, rfl⟩
    · rw [hg, Heap.get_nil] at hk; cases hk
  have hnw : ∀ b, ¬ Wr β ⟨r.next, laid r.old .nil⟩ b := by
    rintro b ⟨k, B, sl, h1, h2, _⟩
    obtain ⟨cs, t, sz, wr', rfl, _⟩ := hin k B h1
    cases h2
  have hsim : Sim β ⟨r.next, laid r.old .nil⟩ w :=
    { lt := fun k sl hk => ⟨Nat.lt_of_lt_of_le (hs.lt k sl hk).1 hnx, (hs.lt k sl hk).2⟩
      blk := fun k B sl h1 h2 => by
        obtain ⟨cs, t, sz, wr', rfl, h3⟩ := hin k B h1
        obtain ⟨b1, b2, b3, cs', fr, b4, b5, b6, _⟩ := hs.blk k _ sl h3 h2
        exact ⟨b1, b2, b3, cs', fr, b4, b5, b6, fun e => by cases e⟩
      own := fun k k' B B' sl sl' hne h1 _ _ _ hw => by
        obtain ⟨cs, t, sz, wr', rfl, _⟩ := hin k B h1
        cases hw
      wf := fun k B h1 => by
        obtain ⟨cs, t, sz, wr', rfl, h3⟩ := hin k B h1
        exact Nat.lt_of_lt_of_le (hs.wf k _ h3) hnx }
  obtain ⟨fn, hfn, hc⟩ := hcf.fn f r.args _ r.v h'' hY hrun β w args' hsim (fun g h => by cases h) ha
  have key : ∀ {w' : World} {β' : Inj}, Step β ⟨r.next, laid r.old .nil⟩ w β' h'' w' → Step β h w β' (keepH r h) w' := by
    intro w' β' st
    have hgk : ∀ k B, (keepH r h).get k = some B → (r.next ≤ k ∧ k < r.next' ∧ h''.get k = some B) ∨ (k < h.next ∧ h.get k = some B) := by
      intro k B hk
      rcases get_laid r.next' k r.new h.t with ⟨B', hm, hg⟩ | ⟨hg, _⟩
      · obtain ⟨g1, g2, g3⟩ := hnew _ hm
        have : (keepH r h).get k = some B' := hg
        rw [this] at hk
        obtain rfl := Option.some.inj hk
        exact .inl ⟨g2, g3, g1⟩
      · have e : (keepH r h).get k = h.get k := hg
        rw [e] at hk
        exact .inr ⟨hs.wf k B hk, hk⟩
    have hfr : ∀ k sl, β' k = some sl → β k = some sl ∨ (r.next ≤ k ∧ w.heap.size ≤ sl.b) := by
      intro k sl hk
      rcases st.fresh k sl hk with h1 | ⟨h1, h2 | h2⟩
      · exact .inl h1
      · exact .inr ⟨h1, h2⟩
      · exact absurd h2 (hnw _)
    have hold : ∀ k sl, k < h.next → β' k = some sl → β k = some sl := by
      intro k sl hk hb
      rcases hfr k sl hb with h1 | ⟨h1, _⟩
      · exact h1
      · omega
    have hnewb : ∀ k sl, r.next ≤ k → β' k = some sl → w.heap.size ≤ sl.b := by
      intro k sl hk hb
      rcases hfr k sl hb with h1 | ⟨_, h1⟩
      · have := (hs.lt k sl h1).1; omega
      · exact h1
    exact
      { le := st.le
        next := by
          have h1 := st.next
          have h2 : r.next ≤ h''.next := h1
          show h.next ≤ r.next'
          omega
        sim :=
          { lt := fun k sl hk => ⟨Nat.lt_of_lt_of_le (st.sim.lt k sl hk).1 hn'', (st.sim.lt k sl hk).2⟩
            blk := fun k B sl h1 h2 => by
              rcases hgk k B h1 with ⟨_, _, h3⟩ | ⟨h3, h4⟩
              · exact st.sim.blk k B sl h3 h2
              · have h5 := hold k sl h3 h2
                exact ((hs.blk k B sl h4 h5).mono st.le).of_heap (st.kept _ (hs.lt k sl h5).2 (hnw _))
            own := fun k k' B B' sl sl' hne h1 h2 h3 h4 hw => by
              rcases hgk k B h1 with ⟨g1, _, g3⟩ | ⟨g3, g4⟩
              · rcases hgk k' B' h2 with ⟨q1, _, q3⟩ | ⟨q3, q4⟩
                · exact st.sim.own k k' B B' sl sl' hne g3 q3 h3 h4 hw
                · have e1 := hnewb k sl g1 h3
                  have e2 := (hs.lt k' sl' (hold k' sl' q3 h4)).2
                  omega
              · rcases hgk k' B' h2 with ⟨q1, _, q3⟩ | ⟨q3, q4⟩
                · have e1 := hnewb k' sl' q1 h4
                  have e2 := (hs.lt k sl (hold k sl g3 h3)).2
                  omega
                · exact hs.own k k' B B' sl sl' hne g4 q4 (hold k sl g3 h3) (hold k' sl' q3 h4) hw
            wf := fun k B h1 => by
              rcases hgk k B h1 with ⟨_, h2, _⟩ | ⟨h2, _⟩
              · exact h2
              · have h3 := st.next
                have h4 : r.next ≤ h''.next := h3
                show k < r.next'
                omega }
        size := st.size, os := st.os, tape := st.tape, output := st.output
        kept := fun b hb _ => st.kept b hb (hnw b)
        back := fun b hb hw => by
          obtain ⟨k, B, sl, h1, h2, h3, h4⟩ := hw
          rcases hgk k B h1 with ⟨g1, _, _⟩ | ⟨g3, g4⟩
          · have := hnewb k sl g1 h3; omega
          · exact ⟨k, B, sl, g4, h2, hold k sl g3 h3, h4⟩
        fresh := fun k sl hk => by
          rcases hfr k sl hk with h1 | ⟨h1, h2⟩
          · exact .inl h1
          · exact .inr ⟨Nat.le_trans hnx h1, .inl h2⟩
        keys := fun k B h1 hk => by
          rcases hgk k B h1 with ⟨g1, _, _⟩ | ⟨_, g4⟩
          · omega
          · exact ⟨B, g4⟩ }
  refine ⟨fn, hfn, ?_⟩
  rcases hc with ⟨hb, hc⟩ | ⟨v', w', β', h1, h2, h3⟩
  · refine .inl ⟨hb, hc.mono ?_⟩
    rintro e w' ⟨v', β', he, h2, h3⟩
    exact ⟨v', β', he, key h2, h3⟩
  · exact .inr ⟨v', w', β', h1, key h2, h3⟩

/-! ### The same for the fast evaluator -/
noncomputable def laidK (l : List (Nat × Blk)) (t : HT) (K : HT → Bool) : Bool := List.rec (motive := fun _ => (HT → Bool) → Bool) (fun K => K t) (fun p _ ih K => ih fun t => HT.setK (some p.2) (pathOf p.1) t K) l K
theorem laidK_eq (t : HT) : ∀ (l : List (Nat × Blk)) (K : HT → Bool), laidK l t K = K (laid l t)
  | [], _ => rfl
  | p :: l, K => by
    show laidK l t (fun t => HT.setK (some p.2) (pathOf p.1) t K) = _
    rw [laidK_eq t l, HT.setK_eq, laid_cons]
noncomputable def fKeep (bad : Bool) (rows : List KRow) : PrimF := fun _ args h K => List.rec (motive := fun _ => Bool) bad (fun r _ ih => cnd (fits h args r) (laidK r.new h.t fun t => fVal r.v fun v => K v ⟨r.next', t⟩) ih) rows
theorem fKeep_ref (bad : Bool) (rows : List KRow) (cf : FuncId → List Value → Heap → (Value → Heap → Bool) → Bool) (cr : CallF) (args : List Value) (h : Heap) (K : Value → Heap → Bool) : Ref bad (fKeep bad rows cf args h K) (sKeep rows cr args h) fun r => K r.1 r.2 := by
  unfold sKeep
  induction rows with
  | nil => exact .inl rfl
  | cons r rows ih =>
    show Ref bad (cnd (fits h args r) (laidK r.new h.t fun t => fVal r.v fun v => K v ⟨r.next', t⟩) (fKeep bad rows cf args h K)) _ _
    simp only [lookK]
    refine cnd_ref (fun hb => ?_) (fun hb => ?_)
    · rw [laidK_eq, fVal_eq, if_pos hb]; exact .of rfl rfl
    · rw [if_neg (by rw [hb]; simp)]; exact ih

/-- What the end of such a call's run is asked. -/
noncomputable def newFit (r : KRow) (h : Heap) (p : Nat × Blk) : Bool := (match h.get p.1, p.2 with
  | some (.cells cs t sz true), .cells cs' t' sz' true => eqL (vEq 4) cs cs' && Nat.beq t t' && Nat.beq sz sz'
  | _, _ => false) && Nat.ble r.next p.1 && Nat.blt p.1 r.next'
noncomputable def rowEnd (r : KRow) (u : Value) (h : Heap) : Bool := vEq 4 r.v u && Nat.ble h.next r.next' && r.new.all (newFit r h)
theorem newFit_inv {r : KRow} {h : Heap} {p : Nat × Blk} (hf : newFit r h p = true) : h.get p.1 = some p.2 ∧ r.next ≤ p.1 ∧ p.1 < r.next' := by
  unfold newFit at hf
  simp only [Bool.and_eq_true, Nat.ble_eq, Nat.blt_eq] at hf
  obtain ⟨⟨h1, h2⟩, h3⟩ := hf
  refine ⟨?_, h2, h3⟩
  split at h1
  · next e1 e2 =>
    simp only [Bool.and_eq_true, Nat.beq_eq] at h1
    obtain ⟨⟨h4, rfl⟩, rfl⟩ := h1
    rw [e1, e2, eqL_sound (vEq_sound 4) h4]
  · cases h1
end Go.Ab
