/- The evaluator of small memories: a part (AbEff). -/
import Derived.Test.YtcngigfjdlgfbaaGreatDoorAbAlloc
namespace Go.Ab
open Go
variable {β : Inj} {P : Program}

/-- One block turned in place. -/
structure At (w w' : World) (b : Nat) : Prop where
  size : w'.heap.size = w.heap.size
  os : w'.os = w.os
  tape : w'.tape = w.tape
  output : w'.output = w.output
  kept : ∀ b', b' ≠ b → w'.heap[b']? = w.heap[b']?
theorem At.refl (w : World) (b : Nat) : At w w b := ⟨rfl, rfl, rfl, rfl, fun _ _ => rfl⟩
theorem At.trans {w w₁ w₂ : World} {b : Nat} (h : At w w₁ b) (h' : At w₁ w₂ b) : At w w₂ b :=
  ⟨h'.size.trans h.size, h'.os.trans h.os, h'.tape.trans h.tape, h'.output.trans h.output, fun b' hb => (h'.kept b' hb).trans (h.kept b' hb)⟩

theorem Step.at_ {h : Heap} {w w' : World} (hs : Sim β h w) {k : Nat} {B₀ B : Blk} {sl : Slot} (hk : h.get k = some B₀) (hb : β k = some sl) (hw : B₀.wr = true) (ha : At w w' sl.b) (hB : BRel β B sl w') : Step β h w β (h.set k B) w' := by
  have hown : ∀ k' B' sl', k' ≠ k → h.get k' = some B' → β k' = some sl' → sl'.b ≠ sl.b := fun k' B' sl' hne h1 h2 => (hs.own k k' B₀ B' sl sl' (Ne.symm hne) hk h1 hb h2 hw).symm
  refine ⟨β.le_refl, Nat.le_refl _, ⟨?_, ?_, ?_, Heap.wf_set hs.wf B (hs.lt k sl hb).1⟩, by rw [ha.size]; exact Nat.le_refl _, ha.os, ha.tape, ha.output, ?_, ?_, fun _ _ h => .inl h, ?_⟩
  · intro k' sl' h1
    rw [ha.size]
    exact hs.lt k' sl' h1
  · intro k' B' sl' h1 h2
    by_cases hne : k' = k
    · subst hne
      rw [h.get_set_same] at h1
      obtain rfl := Option.some.inj h1
      rw [hb] at h2
      obtain rfl := Option.some.inj h2
      exact hB
    · rw [h.get_set_ne k k' B hne] at h1
      exact (hs.blk k' B' sl' h1 h2).of_heap (ha.kept _ (hown k' B' sl' hne h1 h2))
  · intro k₁ k₂ B₁ B₂ sl₁ sl₂ hne h1 h2 h3 h4 h5
    by_cases hk1 : k₁ = k
    · subst hk1
      rw [h.get_set_ne k₁ k₂ B (Ne.symm hne)] at h2
      rw [hb] at h3
      obtain rfl := Option.some.inj h3
      exact (hown k₂ B₂ sl₂ (Ne.symm hne) h2 h4).symm
    · rw [h.get_set_ne k k₁ B hk1] at h1
      by_cases hk2 : k₂ = k
      · subst hk2
        rw [hb] at h4
        obtain rfl := Option.some.inj h4
        exact hown k₁ B₁ sl₁ hk1 h1 h3
      · rw [h.get_set_ne k k₂ B hk2] at h2
        exact hs.own k₁ k₂ B₁ B₂ sl₁ sl₂ hne h1 h2 h3 h4 h5
  · intro b hb' hn
    refine ha.kept b ?_
    rintro rfl
    exact hn ⟨k, B₀, sl, hk, hw, hb, rfl⟩
  · rintro b hb' ⟨k', B', sl', h1, h2, h3, h4⟩
    by_cases hne : k' = k
    · subst hne
      exact ⟨k', B₀, sl', hk, hw, h3, h4⟩
    · rw [h.get_set_ne k k' B hne] at h1
      exact ⟨k', B', sl', h1, h2, h3, h4⟩
  · intro k' B' h1 h2
    by_cases hne : k' = k
    · subst hne; exact ⟨B₀, hk⟩
    · rw [h.get_set_ne k k' B hne] at h1; exact ⟨B', h1⟩

def splice (cur : Array Value) (o : Nat) (vs : List Value) : Array Value := (cur.toList.take o ++ vs ++ cur.toList.drop (o + vs.length)).toArray
theorem splice_nil (cur : Array Value) (o : Nat) : splice cur o [] = cur := by apply Array.ext'; simp [splice]
theorem splice_size {cur : Array Value} {o : Nat} {vs : List Value} (h : o + vs.length ≤ cur.size) : (splice cur o vs).size = cur.size := by simp [splice]; omega
theorem splice_cons {cur : Array Value} {o : Nat} {v : Value} {vs : List Value} (h : o + (vs.length + 1) ≤ cur.size) : splice (cur.setIfInBounds o v) (o + 1) vs = splice cur o (v :: vs) := by
  have ho : o < cur.toList.length := by simp; omega
  have h1 : (cur.toList.set o v).take (o + 1) = cur.toList.take o ++ [v] := by
    rw [List.take_succ_eq_append_getElem (by simpa using ho), List.take_set_of_le (Nat.le_refl _)]
    simp
  have h2 : (cur.toList.set o v).drop (o + 1 + vs.length) = cur.toList.drop (o + (vs.length + 1)) := by
    rw [List.drop_set_of_lt (by omega)]
    congr 1; omega
  unfold splice
  rw [Array.toList_setIfInBounds, h1, h2]
  simp

theorem setCell_at (w : World) {b o : Nat} {cur : Array Value} {t : TypeId} {fr : Nat × Nat} (v : Value) (hw : w.heap[b]? = some (.cells cur t fr)) :
    At w (w.setCell ⟨b, o, none⟩ v) b ∧ (w.setCell ⟨b, o, none⟩ v).heap[b]? = some (.cells (cur.setIfInBounds o v) t fr) := by
  refine ⟨⟨by simp [World.setCell], rfl, rfl, rfl, fun b' hb => ?_⟩, ?_⟩
  · simp only [World.setCell, Array.getElem?_modify]
    rw [if_neg (Ne.symm hb)]
  · simp only [World.setCell, Array.getElem?_modify, if_true, hw, Option.map_some]
    simp

theorem run_storeAll (b o : Nat) (t : TypeId) (fr : Nat × Nat) : ∀ (vs : List Value) (i : Nat) (cur : Array Value) (w : World), w.heap[b]? = some (.cells cur t fr) → frOk fr cur.size → o + i + vs.length ≤ cur.size →
    (∀ v ∈ vs, v.oneCell' = true) → ∃ w', (storeCells ⟨b, o, none⟩ vs i).run P w = .ok () w' ∧ At w w' b ∧ w'.heap[b]? = some (.cells (splice cur (o + i) vs) t fr)
  | [], i, cur, w, hw, _, _, _ => ⟨w, rfl, At.refl w b, by rw [splice_nil]; exact hw⟩
  | v :: vs, i, cur, w, hw, hf, hl, h1 => by
    simp only [List.length_cons] at hl
    have hc : w.cell? ⟨b, o + i, none⟩ = some cur[o + i] := by rw [cell_of hw]; exact Array.getElem?_eq_getElem (by omega)
    have hfr : w.frozen? ⟨b, o + i, none⟩ = false := by
      simp only [World.frozen?, hw]
      rw [Bool.and_eq_false_iff]
      by_cases h2 : fr.1 ≤ o + i
      · right
        simp only [decide_eq_false_iff_not]
        intro h3
        have := hf _ h2 h3
        omega
      · left; simpa using h2
    have hst : (store ((⟨b, o, none⟩ : Addr).add i) v).run P w = .ok () (w.setCell ⟨b, o + i, none⟩ v) := by
      rw [addr_add, run_store P w _ v .plain (h1 v List.mem_cons_self), hc]
      simp [hfr]
    obtain ⟨ha, hw'⟩ := setCell_at w (o := o + i) v hw
    obtain ⟨w', hr, ha', hh⟩ := run_storeAll b o t fr vs (i + 1) _ _ hw' (by simpa using hf) (by simp; omega) fun u hu => h1 u (List.mem_cons_of_mem _ hu)
    refine ⟨w', ?_, ha.trans ha', ?_⟩
    · simp only [storeCells, Sem.run_bind, hst, Result.andThen_ok, hr]
    · rw [hh, ← splice_cons (cur := cur) (o := o + i) (by omega)]
      rfl

theorem LRel.scalars {l l' : List Value} (h : LRel β l l') (hs : l.all scalar = true) : ∀ v ∈ l', v.oneCell' = true := fun v hv => by
  obtain ⟨i, hi, rfl⟩ := List.mem_iff_getElem.1 hv
  have hi' : i < l.length := h.1 ▸ hi
  exact ((h.2 i _ _ (List.getElem?_eq_getElem hi') (List.getElem?_eq_getElem hi)).scalar_one (List.all_eq_true.1 hs _ (List.getElem_mem hi'))).1

theorem CellsAt.splice {cs vs vs' : List Value} {s i : Nat} {cs' : Array Value} (hc : CellsAt β cs s cs') (hv : LRel β vs vs') (hi : i + vs.length ≤ cs.length) (hl : s + i + vs.length ≤ cs'.size) :
    CellsAt β (cs.take i ++ vs ++ cs.drop (i + vs.length)) s (Ab.splice cs' (s + i) vs') := by
  have hlen : vs'.length = vs.length := hv.1.symm
  intro j v hj
  have hsp : ∀ j, (Ab.splice cs' (s + i) vs')[s + j]? = if j < i then cs'[s + j]? else if j < i + vs.length then vs'[j - i]? else cs'[s + j]? := by
    intro j
    simp only [Ab.splice, List.getElem?_toArray]
    by_cases h1 : j < i
    · rw [if_pos h1, List.append_assoc, List.getElem?_append_left (by simp; omega), List.getElem?_take, if_pos (by omega), Array.getElem?_toList]
    · rw [if_neg h1]
      by_cases h2 : j < i + vs.length
      · rw [if_pos h2, List.getElem?_append_left (by simp; omega), List.getElem?_append_right (by simp; omega)]
        congr 1; simp; omega
      · rw [if_neg h2, List.getElem?_append_right (by simp; omega), List.getElem?_drop, Array.getElem?_toList]
        congr 1; simp; omega
  rw [hsp]
  by_cases h1 : j < i
  · rw [if_pos h1]
    rw [List.append_assoc, List.getElem?_append_left (by simp; omega), List.getElem?_take, if_pos h1] at hj
    exact hc j v hj
  · rw [if_neg h1]
    by_cases h2 : j < i + vs.length
    · rw [if_pos h2]
      rw [List.getElem?_append_left (by simp; omega), List.getElem?_append_right (by simp; omega)] at hj
      have : j - (cs.take i).length = j - i := by simp; omega
      rw [this] at hj
      exact hv.get hj
    · rw [if_neg h2]
      rw [List.getElem?_append_right (by simp; omega), List.getElem?_drop] at hj
      have : i + vs.length + (j - (cs.take i ++ vs).length) = j := by simp; omega
      rw [this] at hj
      exact hc j v hj

theorem store_sim {h : Heap} {w : World} (hs : Sim β h w) {k i : Nat} {sl : Slot} {vs vs' : List Value} {u : Upd} (hst : storeAt h k i vs = some u) (hb : β k = some sl) (hv : LRel β vs vs') :
    ∃ w', (storeCells ⟨sl.b, sl.s + i, none⟩ vs').run P w = .ok () w' ∧ Step β h w β (u.app h) w' := by
  unfold storeAt at hst
  split at hst
  · next cs t sz hk =>
    split at hst
    · next hc =>
      obtain ⟨hl, hsc⟩ := hc
      obtain rfl := Option.some.inj hst
      obtain ⟨hm, ht, hz, cs', fr, hw, hn, hcells, hfr⟩ := hs.blk k _ sl hk hb
      by_cases he : vs = []
      · subst he
        have := hv.inv_nil
        subst this
        refine ⟨w, rfl, Step.at_ hs hk hb rfl (At.refl w _) ?_⟩
        simp only [List.append_nil, List.length_nil, Nat.add_zero, List.take_append_drop]
        exact ⟨hm, ht, hz, cs', fr, hw, hn, hcells, hfr⟩
      · have hpos : 0 < vs.length := List.length_pos_iff.2 he
        have hbound : sl.s + i + vs.length ≤ cs'.size := by
          obtain ⟨v', h1, _⟩ := hcells (i + vs.length - 1) _ (List.getElem?_eq_getElem (by omega))
          have := (Array.getElem?_eq_some_iff.1 h1).1
          omega
        obtain ⟨w', hr, ha, hh⟩ := run_storeAll (P := P) sl.b (sl.s + i) t fr vs' 0 cs' w hw (hfr rfl) (by rw [← hv.1]; omega) (hv.scalars hsc)
        refine ⟨w', hr, Step.at_ hs hk hb rfl ha ⟨hm, ht, hz, _, fr, hh, ?_, hcells.splice hv hl hbound, fun _ => ?_⟩⟩
        · rw [splice_size (by rw [← hv.1]; omega)]; exact hn
        · rw [splice_size (by rw [← hv.1]; omega)]; exact hfr rfl
    · cases hst
  · cases hst
end Go.Ab
