/- The evaluator of small memories: a part (AbFrame). -/
import Derived.Test.YtcngigfjdlgfbaaGreatDoorAbCall
namespace Go.Ab
open Go
variable {β : Inj} {P : Program}

/-- Two small memories that hold the same. -/
structure Same (h h' : Heap) : Prop where
  next : h.next = h'.next
  get : ∀ k, h.get k = h'.get k
theorem Same.refl (h : Heap) : Same h h := ⟨rfl, fun _ => rfl⟩
theorem Same.symm {h h' : Heap} (e : Same h h') : Same h' h := ⟨e.next.symm, fun k => (e.get k).symm⟩

theorem Sim.same {h h' : Heap} {w : World} (e : Same h h') (hs : Sim β h w) : Sim β h' w :=
  ⟨fun k sl hk => by rw [← e.next]; exact hs.lt k sl hk, fun k B sl h1 h2 => hs.blk k B sl (by rw [e.get]; exact h1) h2,
    fun k k' B B' sl sl' hne h1 h2 h3 h4 h5 => hs.own k k' B B' sl sl' hne (by rw [e.get]; exact h1) (by rw [e.get]; exact h2) h3 h4 h5,
    fun k B hk => by rw [← e.next]; exact hs.wf k B (by rw [e.get]; exact hk)⟩
theorem Wr.same {h h' : Heap} (e : Same h h') {b : Nat} : Wr β h b → Wr β h' b := fun ⟨k, B, sl, h1, h2⟩ => ⟨k, B, sl, by rw [← e.get]; exact h1, h2⟩
theorem Step.same {h h₂ h' h₂' : Heap} {β' : Inj} {w w' : World} (e : Same h h₂) (e' : Same h' h₂') (s : Step β h w β' h' w') : Step β h₂ w β' h₂' w' :=
  ⟨s.le, by rw [← e.next, ← e'.next]; exact s.next, s.sim.same e', s.size, s.os, s.tape, s.output, fun b hb hn => s.kept b hb fun hw => hn (hw.same e), fun b hb hw => (s.back b hb (hw.same e'.symm)).same e,
    fun k sl hk => (s.fresh k sl hk).imp id fun ⟨h1, h2⟩ => ⟨by rw [← e.next]; exact h1, h2.imp id fun hw => hw.same e⟩,
    fun k B hk hlt => let ⟨B₀, h0⟩ := s.keys k B (by rw [e'.get]; exact hk) (by rw [e.next]; exact hlt); ⟨B₀, by rw [← e.get]; exact h0⟩⟩

/-- Of a part of a small memory. -/
theorem Sim.sub {V G : Heap} {w : World} (hs : Sim β V w) (hn : G.next = V.next) (hg : ∀ k B, G.get k = some B → V.get k = some B) : Sim β G w :=
  ⟨fun k sl hk => by rw [hn]; exact hs.lt k sl hk, fun k B sl h1 h2 => hs.blk k B sl (hg k B h1) h2, fun k k' B B' sl sl' hne h1 h2 h3 h4 h5 => hs.own k k' B B' sl sl' hne (hg k B h1) (hg k' B' h2) h3 h4 h5,
    fun k B hk => by rw [hn]; exact hs.wf k B (hg k B hk)⟩

/-- What a step leaves aside stays. -/
theorem Step.frame {G G' V V' : Heap} {β' : Inj} {w w' : World} (s : Step β G w β' G' w') (hv : Sim β V w) (hn : V.next = G.next) (hn' : V'.next = G'.next) (R : Nat → Blk → Prop)
    (hR : ∀ k B, R k B → k < G.next ∧ G.get k = none) (eV : ∀ k B, V.get k = some B ↔ G.get k = some B ∨ R k B) (eV' : ∀ k B, V'.get k = some B ↔ G'.get k = some B ∨ R k B) : Step β V w β' V' w' := by
  have hold : ∀ k sl, k < G.next → β' k = some sl → β k = some sl := fun k sl hk hb => by
    rcases s.fresh k sl hb with h | ⟨h, _⟩
    · exact h
    · omega
  have hnw : ∀ k B sl, R k B → β k = some sl → ¬ Wr β G sl.b := by
    rintro k B sl hr hb ⟨k2, B2, sl2, h1, h2, h3, h4⟩
    have hne : k2 ≠ k := by rintro rfl; rw [(hR _ _ hr).2] at h1; cases h1
    exact hv.own k2 k B2 B sl2 sl hne ((eV _ _).2 (.inl h1)) ((eV _ _).2 (.inr hr)) h3 hb h2 h4
  have hwr : ∀ b, Wr β G b → Wr β V b := fun b ⟨k, B, sl, h1, h2⟩ => ⟨k, B, sl, (eV _ _).2 (.inl h1), h2⟩
  refine ⟨s.le, by rw [hn, hn']; exact s.next, ⟨?_, ?_, ?_, ?_⟩, s.size, s.os, s.tape, s.output, fun b hb hw => s.kept b hb fun h => hw (hwr b h), ?_, ?_, ?_⟩
  · intro k sl hk
    rw [hn']
    exact s.sim.lt k sl hk
  · intro k B sl h1 h2
    rcases (eV' k B).1 h1 with h1 | h1
    · exact s.sim.blk k B sl h1 h2
    · have hb := hold k sl (hR _ _ h1).1 h2
      exact ((hv.blk k B sl ((eV _ _).2 (.inr h1)) hb).mono s.le).of_heap (s.kept _ (hv.lt k sl hb).2 (hnw k B sl h1 hb))
  · intro k k' B B' sl sl' hne h1 h2 h3 h4 h5
    rcases (eV' k B).1 h1 with h1 | h1
    · rcases (eV' k' B').1 h2 with h2 | h2
      · exact s.sim.own k k' B B' sl sl' hne h1 h2 h3 h4 h5
      · have hb := hold k' sl' (hR _ _ h2).1 h4
        intro he
        exact hnw k' B' sl' h2 hb (s.back _ (hv.lt k' sl' hb).2 ⟨k, B, sl, h1, h5, h3, he⟩)
    · have hb := hold k sl (hR _ _ h1).1 h3
      rcases (eV' k' B').1 h2 with h2 | h2
      · rcases s.fresh k' sl' h4 with h6 | ⟨_, h6 | h6⟩
        · have hlt := (hv.lt k' sl' h6).1
          obtain ⟨B₀, h7⟩ := s.keys k' B' h2 (by rw [← hn]; exact hlt)
          exact hv.own k k' B B₀ sl sl' hne ((eV _ _).2 (.inr h1)) ((eV _ _).2 (.inl h7)) hb h6 h5
        · have := (hv.lt k sl hb).2
          omega
        · intro he
          exact hnw k B sl h1 hb (by rw [he]; exact h6)
      · exact hv.own k k' B B' sl sl' hne ((eV _ _).2 (.inr h1)) ((eV _ _).2 (.inr h2)) hb (hold k' sl' (hR _ _ h2).1 h4) h5
  · intro k B hk
    rw [hn']
    rcases (eV' k B).1 hk with hk | hk
    · exact s.sim.wf k B hk
    · exact Nat.lt_of_lt_of_le (hR _ _ hk).1 s.next
  · rintro b hb ⟨k, B, sl, h1, h2, h3, h4⟩
    rcases (eV' k B).1 h1 with h1 | h1
    · exact hwr b (s.back b hb ⟨k, B, sl, h1, h2, h3, h4⟩)
    · exact ⟨k, B, sl, (eV _ _).2 (.inr h1), h2, hold k sl (hR _ _ h1).1 h3, h4⟩
  · intro k sl hk
    rcases s.fresh k sl hk with h | ⟨h1, h2⟩
    · exact .inl h
    · exact .inr ⟨by rw [hn]; exact h1, h2.imp id (hwr _)⟩
  · intro k B hk hlt
    rcases (eV' k B).1 hk with hk | hk
    · obtain ⟨B₀, h0⟩ := s.keys k B hk (by rw [← hn]; exact hlt)
      exact ⟨B₀, (eV _ _).2 (.inl h0)⟩
    · exact ⟨B, (eV _ _).2 (.inr hk)⟩

/-- A new block at a number that was kept free for it. -/
theorem Allocs.at_key {β₀ : Inj} {h₀ V : Heap} {w₀ w w' : World} (st : Step β₀ h₀ w₀ β V w) {B : Blk} {f : Nat → Value} {v' : Value} (ha : Allocs β w B f v' w') {k : Nat} (hk : β k = none) (h1 : h₀.next ≤ k) (h2 : k < V.next) :
    ∃ β', Step β₀ h₀ w₀ β' (V.set k B) w' ∧ VRel β' (f k) v' ∧ β.le β' ∧ ∀ j, j ≠ k → β' j = β j := by
  obtain ⟨sl, hb, hnew⟩ := ha.new
  have hs := st.sim
  have hle : β.le (β.ext k sl) := Inj.le_ext sl hk
  obtain ⟨hB, hv⟩ := hnew _ k hle (β.ext_same _ _)
  have hlt : ∀ k' sl', β k' = some sl' → sl'.b < w.heap.size := fun k' sl' hk => (hs.lt k' sl' hk).2
  have hsz := st.size
  refine ⟨β.ext k sl, ⟨Inj.le_trans st.le hle, st.next, ⟨?_, ?_, ?_, Heap.wf_set hs.wf B h2⟩, by rw [ha.size]; omega, ha.os.trans st.os, ha.tape.trans st.tape, ha.output.trans st.output,
    fun b hb' hn => (ha.kept b (by omega)).trans (st.kept b hb' hn), ?_, ?_, ?_⟩, hv, hle, fun j hj => β.ext_ne sl hj⟩
  · intro k' sl' hk'
    by_cases hkn : k' = k
    · subst hkn
      rw [β.ext_same] at hk'
      obtain rfl := Option.some.inj hk'
      exact ⟨h2, by rw [ha.size, hb]; omega⟩
    · rw [β.ext_ne sl hkn] at hk'
      have := hs.lt k' sl' hk'
      exact ⟨this.1, by rw [ha.size]; omega⟩
  · intro k' B' sl' e1 e2
    by_cases hkn : k' = k
    · subst hkn
      rw [β.ext_same] at e2
      obtain rfl := Option.some.inj e2
      rw [V.get_set_same] at e1
      obtain rfl := Option.some.inj e1
      exact hB
    · rw [V.get_set_ne k k' B hkn] at e1
      rw [β.ext_ne sl hkn] at e2
      exact ((hs.blk k' B' sl' e1 e2).mono hle).of_heap (ha.kept _ (hlt k' sl' e2))
  · intro k₁ k₂ B₁ B₂ sl₁ sl₂ hne e1 e2 e3 e4 e5
    by_cases hk1 : k₁ = k
    · subst hk1
      rw [β.ext_same] at e3
      obtain rfl := Option.some.inj e3
      rw [β.ext_ne sl (Ne.symm hne)] at e4
      have := hlt k₂ sl₂ e4
      omega
    · by_cases hk2 : k₂ = k
      · subst hk2
        rw [β.ext_same] at e4
        obtain rfl := Option.some.inj e4
        rw [β.ext_ne sl hne] at e3
        have := hlt k₁ sl₁ e3
        omega
      · rw [V.get_set_ne k k₁ B hk1] at e1
        rw [V.get_set_ne k k₂ B hk2] at e2
        rw [β.ext_ne sl hk1] at e3
        rw [β.ext_ne sl hk2] at e4
        exact hs.own k₁ k₂ B₁ B₂ sl₁ sl₂ hne e1 e2 e3 e4 e5
  · rintro b hb' ⟨k', B', sl', e1, e2, e3, e4⟩
    by_cases hkn : k' = k
    · subst hkn
      rw [β.ext_same] at e3
      obtain rfl := Option.some.inj e3
      omega
    · rw [V.get_set_ne k k' B hkn] at e1
      rw [β.ext_ne sl hkn] at e3
      exact st.back b hb' ⟨k', B', sl', e1, e2, e3, e4⟩
  · intro k' sl' hk'
    by_cases hkn : k' = k
    · subst hkn
      rw [β.ext_same] at hk'
      obtain rfl := Option.some.inj hk'
      exact .inr ⟨h1, .inl (by omega)⟩
    · rw [β.ext_ne sl hkn] at hk'
      exact st.fresh k' sl' hk'
  · intro k' B' e1 hlt'
    rw [V.get_set_ne k k' B (by omega)] at e1
    exact st.keys k' B' e1 hlt'

/-! ### What an operation asks of the operands alone -/
theorem map_on {ρ ρ' : Operand → Value} {l : List Operand} (h : ∀ x ∈ l, ρ x = ρ' x) : l.map ρ = l.map ρ' := List.map_congr_left h
end Go.Ab
