/- The evaluator of small memories: a part (AbApp2). -/
import Derived.Test.YtcngigfjdlgfbaaGreatDoorAbApp
namespace Go.Ab
open Go
variable {β : Inj} {P : Program}

theorem lrel_take_all {l l' : List Value} {n : Nat} (h : LRel β (l.take n) l') (hl : l.length = n) : LRel β l l' := by
  rwa [List.take_of_length_le (by omega)] at h

theorem grownCap_ge' (w : World) (need old : Nat) (e : TypeId) : need ≤ grownCap w need old e := by simp [grownCap, Question.cut]

/-- The cells of a slice's own row. -/
theorem own_cells {h : Heap} {w : World} (hs : Sim β h w) {k j n c : Nat} {cs : List Value} {e : TypeId} {sz : Nat} {wr : Bool} {s' : Value} (hk : h.get k = some (.cells cs e sz wr)) (hl : ((cs.drop j).take (n * sz)).length = n * sz)
    (hv : VRel β (.slice (some ⟨k, j, none⟩) n c) s') : ∃ l', (∀ w', (∀ b, b < w.heap.size → w'.heap[b]? = w.heap[b]?) → (Builtin.firstCells sz n s').run P w' = .ok l'.toArray w') ∧ LRel β ((cs.drop j).take (n * sz)) l' := by
  have hx : srcCells h sz (.slice (some ⟨k, j, none⟩) n c) = some ((cs.drop j).take (n * sz), n) := by
    simp only [srcCells, hk]
    rw [if_pos hl]
  obtain ⟨_, h2⟩ := srcCells_sim (P := P) hs hx hv
  obtain ⟨l', h3, h4⟩ := h2 n (Nat.le_refl _)
  exact ⟨l', h3, lrel_take_all h4 hl⟩

set_option maxHeartbeats 1000000 in
theorem append_sim {h : Heap} {w : World} (hs : Sim β h w) {t t' ty : TypeId} {s x s' x' v : Value} {u : Upd} (hv : appendV P t t' s x h = some (v, u)) (hvs : VRel β s s') (hvx : VRel β x x') :
    ∃ v' w' β', (Builtin.append_ #[t, t'] ty #[s', x']).run P w = .ok v' w' ∧ Step β h w β' (u.app h) w' ∧ VRel β' v v' := by
  unfold appendV at hv
  split at hv
  · next e ht =>
    split at hv
    · next i hre =>
      obtain ⟨hi, hpos, z, hz, hzs, hzz⟩ := rowElem_some hre
      split at hv
      · next htl =>
        split at hv
        · next news m hsrc =>
          obtain ⟨hlen, hcells⟩ := srcCells_sim (P := P) hs hsrc hvx
          obtain ⟨news', hrn, hrel⟩ := hcells m (Nat.le_refl _)
          split at hv
          · next hnc =>
            obtain ⟨hsc, hnl⟩ := hnc
            have hrel := lrel_take_all hrel hnl
            have hnl' : news'.length = m * i.size := by rw [← hrel.1, hnl]
            have hrn0 := hrn w fun _ _ => rfl
            have hrnd := hrn w.drew fun _ _ => rfl
            split at hv
            · obtain ⟨_, _, rfl⟩ := hvs.inv_nilSlice
              split at hv
              · next hm0 =>
                simp only [Option.some.injEq, Prod.mk.injEq] at hv
                obtain ⟨rfl, rfl⟩ := hv
                subst hm0
                refine ⟨_, w, β, run_append_in ht hi htl hlen hrn0 (Nat.le_refl _) (by simp), Step.refl hs, .nilSlice⟩
              · next hm0 =>
                split at hv
                · next hb =>
                  simp only [Option.some.injEq, Prod.mk.injEq] at hv
                  obtain ⟨rfl, rfl⟩ := hv
                  have hrun := run_append_new (ty := ty) (n := 0) (c := 0) (base := none) (olds := []) ht hi hz htl hlen (by simp [Builtin.firstCells]) hrnd (by omega) (by simpa using hb.1) (by omega)
                  have hal := allocs_grown (β := β) (w := w) (e := e) (need := m) (cap := grownCap w (0 + m) 0 e) (z := z.cells) hrel hnl hzs (by have := grownCap_ge' w (0 + m) 0 e; omega)
                  simp only [Nat.zero_add, List.nil_append] at hrun hal
                  obtain ⟨β', hst, hvr⟩ := hal.step hs
                  exact ⟨_, _, β', hrun, hst, hvr⟩
                · cases hv
            · next k j n c =>
              obtain ⟨sl, i', c', hb, hmp, _, rfl, hx1, ho1, hn1, hi1, hz1⟩ := hvs.inv_slice
              have hcap : capOf c ≤ c' := by
                unfold capOf; split
                · next hc => exact ho1 hc
                · next hc => rw [hx1 (by omega)]; exact Nat.le_refl _
              split at hv
              · next hm0 =>
                simp only [Option.some.injEq, Prod.mk.injEq] at hv
                obtain ⟨rfl, rfl⟩ := hv
                subst hm0
                have : news' = [] := List.eq_nil_of_length_eq_zero (by simpa using hnl')
                subst this
                exact ⟨_, w, β, run_append_in ht hi htl hlen hrn0 (by omega) (by simp [storeCells]), Step.refl hs, hvs⟩
              · next hm0 =>
                split at hv
                · next hroom =>
                  obtain ⟨u', hst, he⟩ := Option.map_eq_some_iff.1 hv
                  simp only [Prod.mk.injEq] at he
                  obtain ⟨rfl, rfl⟩ := he
                  have hi2 : i' = sl.s + j := by rcases hi1 with h1 | ⟨h1, h2⟩; exact h1; exact absurd h2 (by omega)
                  subst hi2
                  obtain ⟨w', hr, hstep⟩ := store_sim (P := P) hs hst hb hrel
                  refine ⟨_, w', β, run_append_in ht hi htl hlen hrn0 (by omega) ?_, hstep, .slice hb hmp hx1 ho1 hroom (.inl rfl) hz1⟩
                  dsimp only
                  rw [addr_add, Nat.add_assoc]
                  exact hr
                · next hroom =>
                  unfold appendGrow at hv
                  split at hv
                  · next hbd =>
                    split at hv
                    · next cs e' sz' wr hk =>
                      split at hv
                      · next hcond =>
                        obtain ⟨rfl, rfl, hol⟩ := hcond
                        obtain ⟨olds', hro, horel⟩ := own_cells (P := P) hs hk hol hvs
                        have hrod := hro w.drew fun _ _ => rfl
                        have hall : LRel β ((cs.drop j).take (n * i.size) ++ news) (olds' ++ news') := horel.append hrel
                        have hal0 : ((cs.drop j).take (n * i.size) ++ news).length = (n + m) * i.size := by rw [List.length_append, hol, hnl, Nat.add_mul]
                        split at hv
                        · next hcx =>
                          simp only [Option.some.injEq, Prod.mk.injEq] at hv
                          obtain ⟨rfl, rfl⟩ := hv
                          have hcc : c' = c := hx1 hcx
                          subst hcc
                          rw [capOf_lt hcx] at hroom
                          have hrun := run_append_new (ty := ty) ht hi hz htl hlen hrod hrnd (by omega) hbd.1 hbd.2
                          have hal := allocs_grown (β := β) (w := w) (e := e') (z := z.cells) hall hal0 hzs (grownCap_ge' w (n + m) c' e')
                          obtain ⟨β', hst, hvr⟩ := hal.step hs
                          exact ⟨_, _, β', hrun, hst, hvr⟩
                        · next hcx =>
                          split at hv
                          · next hwr =>
                            obtain ⟨rfl, hcl⟩ := hwr
                            simp only [Option.some.injEq, Prod.mk.injEq] at hv
                            obtain ⟨rfl, rfl⟩ := hv
                            by_cases hin : n + m ≤ c'
                            · have hi2 : i' = sl.s + j := by rcases hi1 with h1 | ⟨h1, h2⟩; exact h1; exact absurd h2 (by omega)
                              subst hi2
                              obtain ⟨_, hslt, hslz, cs', fr, hw, hn, hcel, hfr⟩ := hs.row hk hb
                              have hext : sl.s + j + c' * i.size ≤ sl.n := by
                                rcases hz1 with h1 | h1
                                · omega
                                · rw [hslz] at h1; exact h1
                              have hmul : (n + m) * i.size ≤ c' * i.size := Nat.mul_le_mul_right _ hin
                              rw [Nat.add_mul] at hmul
                              obtain ⟨w', hr, ha, hh⟩ := run_storeAll (P := P) sl.b (sl.s + j + n * i.size) e' fr news' 0 cs' w hw (hfr rfl) (by rw [hnl', hn]; omega) (hrel.scalars hsc)
                              have hsz2 : (Ab.splice cs' (sl.s + j + n * i.size + 0) news').size = cs'.size := splice_size (by rw [hnl', hn]; omega)
                              refine ⟨_, w', β.ext h.next ⟨sl.b, sl.s + j, sl.n, e', i.size, false⟩, run_append_in ht hi htl hlen hrn0 hin ?_, step_move (sl' := ⟨sl.b, sl.s + j, sl.n, e', i.size, false⟩) hs hk hb rfl ha rfl ?_, ?_⟩
                              · dsimp only
                                rw [addr_add]
                                exact hr
                              · have hle : β.le (β.ext h.next ⟨sl.b, sl.s + j, sl.n, e', i.size, false⟩) := Inj.le_ext _ (hs.none_of_ge (Nat.le_refl _))
                                refine ⟨rfl, rfl, ⟨rfl, fun h0 => absurd h0 (by omega)⟩, _, fr, hh, by rw [hsz2]; exact hn, ?_, fun _ => by rw [hsz2]; exact hfr rfl⟩
                                intro q u hq
                                simp only [Ab.splice, Nat.add_zero, List.getElem?_toArray]
                                by_cases hq1 : q < n * i.size
                                · rw [List.getElem?_append_left (by rw [hol]; exact hq1), List.getElem?_take, if_pos hq1, List.getElem?_drop] at hq
                                  obtain ⟨u', h1, h2⟩ := hcel _ _ hq
                                  refine ⟨u', ?_, h2.mono hle⟩
                                  have hlt := (Array.getElem?_eq_some_iff.1 h1).1
                                  rw [List.append_assoc, List.getElem?_append_left (by simp; omega), List.getElem?_take, if_pos (by omega), Array.getElem?_toList, Nat.add_assoc]
                                  exact h1
                                · have hq2 := (List.getElem?_eq_some_iff.1 hq).1
                                  rw [hal0, Nat.add_mul] at hq2
                                  rw [List.getElem?_append_right (by rw [hol]; omega), hol] at hq
                                  obtain ⟨u', h1, h2⟩ := hrel.get hq
                                  refine ⟨u', ?_, h2.mono hle⟩
                                  rw [List.getElem?_append_left (by simp; omega), List.getElem?_append_right (by simp; omega)]
                                  have : sl.s + j + q - (cs'.toList.take (sl.s + j + n * i.size)).length = q - n * i.size := by simp; omega
                                  rw [this]; exact h1
                              · exact .slice (sl := ⟨sl.b, sl.s + j, sl.n, e', i.size, false⟩) (β.ext_same _ _) rfl (fun h => absurd h (by omega)) (fun _ => by omega) (by rw [capOf_open]; exact Nat.le_refl _) (.inl rfl) (.inr hext)
                            · have hrun := run_append_new (ty := ty) ht hi hz htl hlen hrod hrnd (by omega) hbd.1 hbd.2
                              have hal := allocs_grown (β := β) (w := w) (e := e') (z := z.cells) hall hal0 hzs (grownCap_ge' w (n + m) c' e')
                              obtain ⟨β', hst, hvr⟩ := hal.step (sim_del hs k)
                              exact ⟨_, _, β', hrun, (step_del hs k).trans hst, hvr⟩
                          · cases hv
                      · cases hv
                    · cases hv
                  · cases hv
            · cases hv
          · cases hv
        · cases hv
      · cases hv
    · cases hv
  · cases hv
end Go.Ab
