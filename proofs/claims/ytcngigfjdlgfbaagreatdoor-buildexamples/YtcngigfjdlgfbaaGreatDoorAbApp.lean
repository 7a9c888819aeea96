/- The evaluator of small memories: a part (AbApp). -/
import Derived.Test.YtcngigfjdlgfbaaGreatDoorAbEff
import Derived.Laws.Append
namespace Go.Ab
open Go
variable {β : Inj} {P : Program}

theorem rowElem_some {e : TypeId} {i : TypeInfo} (h : rowElem P e = some i) : P.info? e = some i ∧ 0 < i.size ∧ ∃ z, i.zero = some z ∧ z.cells.size = i.size ∧ zeroOf P e = some z := by
  unfold rowElem at h
  split at h
  · next i' z hi hz =>
    split at h
    · next hc =>
      obtain rfl := Option.some.inj h
      obtain ⟨_, j, hj, hjz⟩ := zeroOf_some hz
      rw [hi] at hj
      obtain rfl := Option.some.inj hj
      exact ⟨hi, hc.2, z, hjz, hc.1, hz⟩
    · cases h
  · cases h

theorem srcCells_sim {h : Heap} {w : World} (hs : Sim β h w) {sz : Nat} {x x' : Value} {news : List Value} {m : Nat} (hx : srcCells h sz x = some (news, m)) (hv : VRel β x x') :
    (∀ w, (Builtin.lenOf x').run P w = .ok m w) ∧ ∀ j, j ≤ m → ∃ l', (∀ w', (∀ b, b < w.heap.size → w'.heap[b]? = w.heap[b]?) → (Builtin.firstCells sz j x').run P w' = .ok l'.toArray w') ∧ LRel β (news.take (j * sz)) l' := by
  unfold srcCells at hx
  split at hx
  · simp only [Option.some.injEq, Prod.mk.injEq] at hx
    obtain ⟨rfl, rfl⟩ := hx
    obtain ⟨_, _, rfl⟩ := hv.inv_nilSlice
    refine ⟨fun w => rfl, fun j hj => ⟨[], fun w' _ => by simp [Builtin.firstCells], by simp; exact .nil β⟩⟩
  · next k i n c =>
    split at hx
    · next cs t sz' wr hk =>
      split at hx
      · next hl =>
        simp only [Option.some.injEq, Prod.mk.injEq] at hx
        obtain ⟨rfl, rfl⟩ := hx
        obtain ⟨sl, i', c', hb, hm, _, rfl, hx1, ho1, hn1, hi1, hz1⟩ := hv.inv_slice
        obtain ⟨_, _, _, cs', fr, hw, hn, hcells, _⟩ := hs.row hk hb
        refine ⟨fun w => rfl, fun j hj => ?_⟩
        by_cases hj0 : j = 0
        · subst hj0
          exact ⟨[], fun w' _ => by simp [Builtin.firstCells, loadCells, loadCellsFrom], by simp; exact .nil β⟩
        · have hi2 : i' = sl.s + i := by rcases hi1 with h1 | ⟨h1, h2⟩; exact h1; exact absurd h1 (by omega)
          subst hi2
          have hjs : j * sz ≤ n * sz := Nat.mul_le_mul_right _ hj
          have hl' : ((cs.drop i).take (j * sz)).length = j * sz := by
            simp only [List.length_take, List.length_drop] at hl ⊢; omega
          have hlt := (hs.lt k sl hb).2
          have key := run_cells (P := P) hw hcells i (j * sz) hl'
          obtain ⟨l', hr, hrel⟩ := key
          refine ⟨l', fun w' hw' => ?_, ?_⟩
          · obtain ⟨l2, hr2, hrel2⟩ := run_cells (P := P) (w := w') (by rw [hw' _ hlt]; exact hw) hcells i (j * sz) hl'
            have : (loadCells ⟨sl.b, sl.s + i, none⟩ (j * sz)).run P w' = .ok l'.toArray w' := by
              have e1 : ∀ q, q < j * sz → w.cell? ((⟨sl.b, sl.s + i, none⟩ : Addr).add q) = some (l'.getD q undef) := by
                intro q hq
                have hlen : l'.length = j * sz := by rw [← hrel.1, hl']
                have hq' : q < ((cs.drop i).take (j * sz)).length := by omega
                have hg := List.getElem?_eq_getElem hq'
                rw [List.getElem?_take, if_pos hq, List.getElem?_drop] at hg
                obtain ⟨v', h1, _⟩ := hcells _ _ hg
                have h2 := run_loadCells (P := P) w ⟨sl.b, sl.s + i, none⟩ (j * sz) (fun q => cs'.getD (sl.s + (i + q)) undef) (by
                  intro q2 hq2
                  have hq3 : q2 < ((cs.drop i).take (j * sz)).length := by omega
                  have hg2 := List.getElem?_eq_getElem hq3
                  rw [List.getElem?_take, if_pos hq2, List.getElem?_drop] at hg2
                  obtain ⟨v2, h3, _⟩ := hcells _ _ hg2
                  rw [addr_add, cell_of hw, show sl.s + i + q2 = sl.s + (i + q2) by omega, h3]
                  simp [Array.getD_eq_getD_getElem?, h3])
                rw [hr] at h2
                simp only [Result.ok.injEq, and_true] at h2
                have h4 : l' = (List.range (j * sz)).map fun q => cs'.getD (sl.s + (i + q)) undef := by simpa using congrArg Array.toList h2
                rw [addr_add, cell_of hw, show sl.s + i + q = sl.s + (i + q) by omega, h1, h4]
                simp [List.getD, hq, Array.getD_eq_getD_getElem?, h1]
              have hlen : l'.length = j * sz := by rw [← hrel.1, hl']
              have e2 := run_loadCells (P := P) w' ⟨sl.b, sl.s + i, none⟩ (j * sz) (fun q => l'.getD q undef) (by
                intro q hq
                have : w'.cell? ((⟨sl.b, sl.s + i, none⟩ : Addr).add q) = w.cell? ((⟨sl.b, sl.s + i, none⟩ : Addr).add q) := by
                  rw [addr_add]; simp [World.cell?, hw' _ hlt]
                rw [this]; exact e1 q hq)
              rw [e2]
              congr 2
              apply List.ext_getElem?
              intro q
              by_cases hq : q < j * sz
              · simp [hq, List.getD, List.getElem?_eq_getElem (show q < l'.length by omega)]
              · rw [List.getElem?_eq_none (by simp; omega), List.getElem?_eq_none (by omega)]
            exact this
          · rw [List.take_take, Nat.min_eq_left hjs]; exact hrel
      · cases hx
    · cases hx
  · next s =>
    split at hx
    · next hsz =>
      subst hsz
      simp only [Option.some.injEq, Prod.mk.injEq] at hx
      obtain ⟨rfl, rfl⟩ := hx
      cases hv.inv_string
      refine ⟨fun w => by simp [Builtin.lenOf], fun j hj => ⟨(s.data.toList.map fun b => Value.int .u8 b.toNat).take j, fun w' _ => ?_, ?_⟩⟩
      · simp only [Builtin.firstCells, Sem.run_pure]
        congr 1
        apply Array.ext'
        simp [ByteArray.data_extract, Array.toList_extract]
      · rw [Nat.mul_one, ← List.map_take]
        exact LRel.map _ fun b _ => .int _ _
    · cases hx
  · cases hx

theorem takesList_some {t' : TypeId} (h : takesList P t' = true) : P.underlying t' = some .string ∨ ∃ e, P.underlying t' = some (.slice e) := by
  unfold takesList at h
  split at h
  · next e hu => exact .inr ⟨_, hu⟩
  · next hu => exact .inl hu
  · cases h

theorem run_append_in {t t' ty e : TypeId} {i : TypeInfo} (ht : P.underlying t = some (.slice e)) (hi : P.info? e = some i) (ht' : takesList P t' = true) {base : Option Addr} {n c m : Nat} {x' : Value} {news : List Value} {w w' : World}
    (hm : ∀ w, (Builtin.lenOf x').run P w = .ok m w) (hn : (Builtin.firstCells i.size m x').run P w = .ok news.toArray w) (hc : n + m ≤ c)
    (hst : (match base with | some a => storeCells (a.add (n * i.size)) news | none => pure () : Sem Unit).run P w = .ok () w') :
    (Builtin.append_ #[t, t'] ty #[.slice base n c, x']).run P w = .ok (.slice base (n + m) c) w' := by
  have h0 : (#[t, t'] : Array TypeId)[0]? = some t := rfl
  have h1 : (#[t, t'] : Array TypeId)[1]? = some t' := rfl
  have h2 : (#[Value.slice base n c, x'] : Array Value)[0]? = some (.slice base n c) := rfl
  have h3 : (#[Value.slice base n c, x'] : Array Value)[1]? = some x' := rfl
  have hrs : ∀ w, (sizeOf e).run P w = .ok i.size w := run_size (by simp [sizeOf?, hi])
  rcases takesList_some ht' with hu | ⟨e', hu⟩
  all_goals
    simp only [Builtin.append_, h0, h1, h2, h3, Sem.run_bind, run_und ht, Result.andThen_ok, hrs, run_und hu, Sem.run_pure, Bool.false_eq_true, if_false, hm, Sem.run_ite]
    rw [if_pos hc]
    simp only [Bool.not_false, if_true, hn, Result.andThen_ok]
    cases base with
    | none =>
      simp only [Sem.run_pure, Result.ok.injEq, true_and] at hst
      subst hst
      rfl
    | some a =>
      dsimp only at hst
      simp only [Sem.run_bind, hst, Result.andThen_ok, Sem.run_pure]

theorem run_append_new {t t' ty e : TypeId} {i : TypeInfo} {z : Value} (ht : P.underlying t = some (.slice e)) (hi : P.info? e = some i) (hz : i.zero = some z) (ht' : takesList P t' = true) {base : Option Addr} {n c m : Nat} {x' : Value}
    {olds news : List Value} {w : World} (hm : ∀ w, (Builtin.lenOf x').run P w = .ok m w) (ho : (Builtin.firstCells i.size n (.slice base n c)).run P w.drew = .ok olds.toArray w.drew)
    (hn : (Builtin.firstCells i.size m x').run P w.drew = .ok news.toArray w.drew) (hc : c < n + m) (hb : (n + m) * i.bytes ≤ 70368744177664) (hl : n + m ≤ 1099511627776) :
    (Builtin.append_ #[t, t'] ty #[.slice base n c, x']).run P w = .ok (.slice (some ⟨w.heap.size, 0, none⟩) (n + m) (grownCap w (n + m) c e))
      (w.drew.alloc (.cells (olds ++ news ++ (Builtin.zeroCells z.cells (grownCap w (n + m) c e - (n + m))).toList).toArray e)) := by
  have h0 : (#[t, t'] : Array TypeId)[0]? = some t := rfl
  have h1 : (#[t, t'] : Array TypeId)[1]? = some t' := rfl
  have h2 : (#[Value.slice base n c, x'] : Array Value)[0]? = some (.slice base n c) := rfl
  have h3 : (#[Value.slice base n c, x'] : Array Value)[1]? = some x' := rfl
  have hrs : ∀ w, (sizeOf e).run P w = .ok i.size w := run_size (by simp [sizeOf?, hi])
  have hrz : ∀ w, (zeroValue e).run P w = .ok z w := fun w => by simp [zeroValue, run_info hi, hz]
  have hfit := growslice_fits (need := n + m) (old := c) (bytes := i.bytes) hc (by omega)
  have hcut : (Question.appendCap (n + m) c e).forced = false := rfl
  have hmax : IntKind.i64.max = 9223372036854775807 := by decide
  rcases takesList_some ht' with hu | ⟨e', hu⟩
  all_goals
    simp only [Builtin.append_, h0, h1, h2, h3, Sem.run_bind, run_und ht, Result.andThen_ok, hrs, run_und hu, Sem.run_pure, Bool.false_eq_true, if_false, hm, Sem.run_ite, run_info hi, false_or, Bool.not_false, if_true]
    rw [if_neg (by omega), if_neg (by omega), if_neg (by omega)]
    simp only [run_choose, hcut, Bool.false_eq_true, if_false, Result.andThen_ok, run_askRoom, World.drew_eq, ho, hn, hrz, run_newRow]
    congr 2
    simp only [grownCap]
    congr 1
    apply Array.ext'
    simp

theorem sim_del {h : Heap} {w : World} (hs : Sim β h w) (k : Nat) : Sim β (h.del k) w :=
  ⟨fun k' sl hk => hs.lt k' sl hk, fun k' B sl h1 h2 => by
    rw [h.get_del] at h1; split at h1
    · cases h1
    · exact hs.blk k' B sl h1 h2, fun k₁ k₂ B₁ B₂ sl₁ sl₂ hne h1 h2 h3 h4 h5 => by
    rw [h.get_del] at h1 h2
    split at h1
    · cases h1
    · split at h2
      · cases h2
      · exact hs.own k₁ k₂ B₁ B₂ sl₁ sl₂ hne h1 h2 h3 h4 h5, Heap.wf_del hs.wf k⟩
theorem step_del {h : Heap} {w : World} (hs : Sim β h w) (k : Nat) : Step β h w β (h.del k) w :=
  ⟨β.le_refl, Nat.le_refl _, sim_del hs k, Nat.le_refl _, rfl, rfl, rfl, fun _ _ _ => rfl, fun b hb ⟨k', B, sl, h1, h2, h3, h4⟩ => ⟨k', B, sl, by
    rw [h.get_del] at h1; split at h1
    · cases h1
    · exact h1, h2, h3, h4⟩, fun _ _ h => .inl h, fun k' B h1 h2 => ⟨B, by
    rw [h.get_del] at h1; split at h1
    · cases h1
    · exact h1⟩⟩

/-- A row's block that goes on under a new number, in the same real block, which was turned. -/
theorem step_move {h : Heap} {w w' : World} (hs : Sim β h w) {k : Nat} {B₀ B : Blk} {sl sl' : Slot} (hk : h.get k = some B₀) (hb : β k = some sl) (hw : B₀.wr = true) (ha : At w w' sl.b) (hsl : sl'.b = sl.b)
    (hB : BRel (β.ext h.next sl') B sl' w') : Step β h w (β.ext h.next sl') ((h.del k).push B) w' := by
  have hlt := (hs.lt k sl hb).1
  have hnone := hs.none_of_ge (Nat.le_refl h.next)
  have hle : β.le (β.ext h.next sl') := Inj.le_ext sl' hnone
  have hget : ∀ k', k' ≠ h.next → ∀ B', ((h.del k).push B).get k' = some B' → k' ≠ k ∧ h.get k' = some B' := by
    intro k' hne B' hg
    rw [(h.del k).get_push_ne k' B hne, h.get_del] at hg
    split at hg
    · cases hg
    · next hne2 => exact ⟨hne2, hg⟩
  have hnew : ((h.del k).push B).get h.next = some B := (h.del k).get_push_same B
  have hown : ∀ k' B' sl'', k' ≠ k → h.get k' = some B' → β k' = some sl'' → sl''.b ≠ sl.b := fun k' B' sl'' hne h1 h2 => (hs.own k k' B₀ B' sl sl'' (Ne.symm hne) hk h1 hb h2 hw).symm
  refine ⟨hle, by simp, ⟨?_, ?_, ?_, Heap.wf_push (h := h.del k) (Heap.wf_del hs.wf k) B⟩, by rw [ha.size]; exact Nat.le_refl _, ha.os, ha.tape, ha.output, ?_, ?_, ?_, ?_⟩
  · intro k' sl'' h1
    rw [ha.size]
    by_cases hne : k' = h.next
    · subst hne
      rw [β.ext_same] at h1
      obtain rfl := Option.some.inj h1
      exact ⟨by simp, by rw [hsl]; exact (hs.lt k sl hb).2⟩
    · rw [β.ext_ne sl' hne] at h1
      have := hs.lt k' sl'' h1
      exact ⟨by simp; omega, this.2⟩
  · intro k' B' sl'' h1 h2
    by_cases hne : k' = h.next
    · subst hne
      rw [β.ext_same] at h2
      obtain rfl := Option.some.inj h2
      rw [hnew] at h1
      obtain rfl := Option.some.inj h1
      exact hB
    · rw [β.ext_ne sl' hne] at h2
      obtain ⟨hne2, h1⟩ := hget k' hne B' h1
      exact ((hs.blk k' B' sl'' h1 h2).mono hle).of_heap (ha.kept _ (hown k' B' sl'' hne2 h1 h2))
  · intro k₁ k₂ B₁ B₂ sl₁ sl₂ hne h1 h2 h3 h4 h5
    by_cases hk1 : k₁ = h.next
    · subst hk1
      rw [β.ext_same] at h3
      obtain rfl := Option.some.inj h3
      rw [β.ext_ne _ (Ne.symm hne)] at h4
      obtain ⟨hne2, h2⟩ := hget k₂ (Ne.symm hne) B₂ h2
      rw [hsl]
      exact (hown k₂ B₂ sl₂ hne2 h2 h4).symm
    · rw [β.ext_ne _ hk1] at h3
      obtain ⟨hne1, h1⟩ := hget k₁ hk1 B₁ h1
      by_cases hk2 : k₂ = h.next
      · subst hk2
        rw [β.ext_same] at h4
        obtain rfl := Option.some.inj h4
        rw [hsl]
        exact hown k₁ B₁ sl₁ hne1 h1 h3
      · rw [β.ext_ne _ hk2] at h4
        obtain ⟨_, h2⟩ := hget k₂ hk2 B₂ h2
        exact hs.own k₁ k₂ B₁ B₂ sl₁ sl₂ hne h1 h2 h3 h4 h5
  · intro b hb' hn
    refine ha.kept b ?_
    rintro rfl
    exact hn ⟨k, B₀, sl, hk, hw, hb, rfl⟩
  · rintro b hb' ⟨k', B', sl'', h1, h2, h3, h4⟩
    by_cases hne : k' = h.next
    · subst hne
      rw [β.ext_same] at h3
      obtain rfl := Option.some.inj h3
      exact ⟨k, B₀, sl, hk, hw, hb, by rw [← h4, hsl]⟩
    · rw [β.ext_ne _ hne] at h3
      obtain ⟨_, h1⟩ := hget k' hne B' h1
      exact ⟨k', B', sl'', h1, h2, h3, h4⟩
  · intro k' sl'' h1
    by_cases hne : k' = h.next
    · subst hne
      rw [β.ext_same] at h1
      obtain rfl := Option.some.inj h1
      exact .inr ⟨Nat.le_refl _, .inr ⟨k, B₀, sl, hk, hw, hb, hsl.symm⟩⟩
    · rw [β.ext_ne _ hne] at h1
      exact .inl h1
  · intro k' B' h1 h2
    obtain ⟨_, h1⟩ := hget k' (by omega) B' h1
    exact ⟨B', h1⟩

theorem size_zeros (z : Array Value) (n : Nat) : (Builtin.zeroCells z n).size = n * z.size := by simp [Builtin.zeroCells]

/-- A grown row in a new block. -/
theorem allocs_grown {w : World} {e : TypeId} {sz need cap : Nat} {vs vs' : List Value} {z : Array Value} (hv : LRel β vs vs') (hl : vs.length = need * sz) (hz : z.size = sz) (hc : need ≤ cap) :
    Allocs β w (.cells vs e sz true) (fun k => .slice (some ⟨k, 0, none⟩) need (OPEN + need)) (.slice (some ⟨w.heap.size, 0, none⟩) need cap) (w.drew.alloc (.cells (vs' ++ (Builtin.zeroCells z (cap - need)).toList).toArray e)) where
  size := by simp
  os := rfl
  tape := rfl
  output := rfl
  kept := fun b hb => heap_push_old (w := w.drew) _ hb
  new := by
    have hsz : (vs' ++ (Builtin.zeroCells z (cap - need)).toList).toArray.size = cap * sz := by
      simp only [List.size_toArray, List.length_append, Array.length_toList, size_zeros, hz, ← hv.1, hl, ← Nat.add_mul]
      congr 1; omega
    refine ⟨⟨w.heap.size, 0, cap * sz, e, sz, false⟩, rfl, fun β' k hle hk => ⟨⟨rfl, rfl, ⟨rfl, fun _ => rfl⟩, _, (0, 0), heap_push_new (w := w.drew) _, hsz, ?_, fun _ => frOk_zero _⟩, ?_⟩⟩
    · intro i v hi
      obtain ⟨v', h1, h2⟩ := hv.get hi
      refine ⟨v', ?_, h2.mono hle⟩
      have hi' := (List.getElem?_eq_some_iff.1 h1).1
      simp only [Nat.zero_add, List.getElem?_toArray]
      rw [List.getElem?_append_left hi']; exact h1
    · exact slice_new (w := w) hk rfl rfl rfl (fun h => absurd h (by omega)) (fun _ => by omega) (by rw [capOf_open]; exact Nat.le_refl _) (.inr (Nat.le_refl _))
end Go.Ab
