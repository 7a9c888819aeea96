/- The evaluator of small memories: a part (AbEff2). -/
import Derived.Test.YtcngigfjdlgfbaaGreatDoorAbApp2
namespace Go.Ab
open Go
variable {β : Inj} {P : Program}

theorem copy_sim {h : Heap} {w : World} (hs : Sim β h w) {t : TypeId} {ts : List TypeId} {ty : TypeId} {d s d' s' v : Value} {u : Upd} (hv : copyV P t d s h = some (v, u)) (hd : VRel β d d') (hsr : VRel β s s') :
    ∃ v' w' β', (Builtin.copy_ (t :: ts).toArray ty #[d', s']).run P w = .ok v' w' ∧ Step β h w β' (u.app h) w' ∧ VRel β' v v' := by
  unfold copyV at hv
  split at hv
  · next e ht =>
    split at hv
    · next sz a n c hsz =>
      split at hv
      · next cs m hsrc =>
        obtain ⟨hlen, hcells⟩ := srcCells_sim (P := P) hs hsrc hsr
        have h0 : (t :: ts).toArray[0]? = some t := rfl
        have h1 : (#[d', s'] : Array Value)[0]? = some d' := rfl
        have h2 : (#[d', s'] : Array Value)[1]? = some s' := rfl
        obtain ⟨cs', hrc, hrel⟩ := hcells (min m n) (Nat.min_le_left _ _)
        have hrc0 := hrc w fun _ _ => rfl
        have hmin : Nat.min m n = min m n := rfl
        have hdf : ∃ a' c', d' = .slice a' n c' := by
          cases a with
          | none => obtain ⟨rfl, rfl, rfl⟩ := hd.inv_nilSlice; exact ⟨_, _, rfl⟩
          | some a => obtain ⟨sl, i', c', _, _, _, rfl, _⟩ := hd.inv_slice; exact ⟨_, _, rfl⟩
        split at hv
        · next hz =>
          simp only [Option.some.injEq, Prod.mk.injEq] at hv
          obtain ⟨rfl, rfl⟩ := hv
          have hm0 : min m n = 0 := by omega
          rw [hm0] at hrc0 hrel
          have : cs' = [] := by simpa using hrel.1.symm
          subst this
          obtain ⟨a', c', rfl⟩ := hdf
          refine ⟨.int .i64 0, w, β, ?_, Step.refl hs, .int _ _⟩
          simp only [Builtin.copy_, h0, h1, h2, Sem.run_bind, run_und ht, Result.andThen_ok, hlen, run_size hsz, hmin, hm0, hrc0, goInt]
          cases a' <;> simp [storeCells]
        · next hz =>
          split at hv
          · next k j =>
            obtain ⟨u', hst, he⟩ := Option.map_eq_some_iff.1 hv
            simp only [Prod.mk.injEq] at he
            obtain ⟨rfl, rfl⟩ := he
            obtain ⟨sl, i', c', hb, hmp, _, rfl, hx1, ho1, hn1, hi1, hz1⟩ := hd.inv_slice
            have hi2 : i' = sl.s + j := by rcases hi1 with h1 | ⟨h1, h2⟩; exact h1; exact absurd h1 (by omega)
            subst hi2
            obtain ⟨w', hr, hstep⟩ := store_sim (P := P) hs hst hb hrel
            refine ⟨.int .i64 (min m n : Nat), w', β, ?_, hstep, .int _ _⟩
            simp only [Builtin.copy_, h0, h1, h2, Sem.run_bind, run_und ht, Result.andThen_ok, hlen, run_size hsz, hmin, hrc0, Sem.run_pure, goInt, hr]
          · cases hv
      · cases hv
    · cases hv
  · cases hv

theorem zeroCells_eq (z : Array Value) : ∀ n, (Builtin.zeroCells z n).toList = zeroRow z.toList n := by
  intro n
  rcases Nat.eq_zero_or_pos z.size with h | h
  · have h1 : (Builtin.zeroCells z n).toList.length = 0 := by simp [Builtin.zeroCells, h]
    have h2 : (zeroRow z.toList n).length = 0 := by rw [zeroRow_length]; simp [h]
    rw [List.eq_nil_of_length_eq_zero h1, List.eq_nil_of_length_eq_zero h2]
  · unfold Builtin.zeroCells
    rw [zeroRow_eq z n h]
theorem clear_sim {h : Heap} {w : World} (hs : Sim β h w) {t : TypeId} {ty : TypeId} {x x' v : Value} {u : Upd} (hv : clearV P t x h = some (v, u)) (hx : VRel β x x') :
    ∃ v' w' β', (Builtin.clear_ #[t] ty #[x']).run P w = .ok v' w' ∧ Step β h w β' (u.app h) w' ∧ VRel β' v v' := by
  unfold clearV at hv
  split at hv
  · next e k j n c ht =>
    split at hv
    · next z hz =>
      obtain ⟨sl, i', c', hb, hmp, _, rfl, hx1, ho1, hn1, hi1, hz1⟩ := hx.inv_slice
      have h0 : (#[t] : Array TypeId)[0]? = some t := rfl
      have h1 : (#[Value.slice (some ⟨sl.b, i', none⟩) n c'] : Array Value)[0]? = some (.slice (some ⟨sl.b, i', none⟩) n c') := rfl
      split at hv
      · next hn =>
        subst hn
        simp only [Option.some.injEq, Prod.mk.injEq] at hv
        obtain ⟨rfl, rfl⟩ := hv
        refine ⟨undef, w, β, ?_, Step.refl hs, .undef β⟩
        simp only [Builtin.clear_, h0, h1, Sem.run_bind, run_und ht, Result.andThen_ok]
        rfl
      · next hn =>
        obtain ⟨u', hst, he⟩ := Option.map_eq_some_iff.1 hv
        simp only [Prod.mk.injEq] at he
        obtain ⟨rfl, rfl⟩ := he
        have hi2 : i' = sl.s + j := by rcases hi1 with h1 | ⟨h1, h2⟩; exact h1; exact absurd h1 (by omega)
        subst hi2
        obtain ⟨w', hr, hstep⟩ := store_sim (P := P) hs hst hb (zeroRow_rel (LRel.refl_plain (zeroOf_some hz).1) n)
        refine ⟨undef, w', β, ?_, hstep, .undef β⟩
        obtain ⟨n', rfl⟩ : ∃ n', n = n' + 1 := ⟨n - 1, by omega⟩
        simp only [Builtin.clear_, h0, h1, Sem.run_bind, run_und ht, Result.andThen_ok, run_zero hz, zeroCells_eq, hr]
        rfl
    · cases hv
  · cases hv

theorem mapUpdate_sim {h : Heap} {w : World} (hs : Sim β h w) {t kt et : TypeId} {r : Nat} {es es2 : List (Value × Value)} {k m' x x' : Value} (hu : P.underlying t = some (.map kt et)) (hk : keyOk P kt k = true)
    (hr : h.get r = some (.map es)) (hins : insertK P kt k x es = some es2) (hm : VRel β (.map (some r)) m') (hx : VRel β x x') :
    ∃ w', (Instr.mapUpdate t m' k x').run P w = .ok () w' ∧ Step β h w β (h.set r (.map es2)) w' := by
  obtain ⟨sl, hb, hmap, rfl⟩ := hm.inv_map
  obtain ⟨_, es', clock, hw, hrel⟩ := hs.blk _ _ _ hr hb
  have hlt : sl.b < w.heap.size := (hs.lt _ _ hb).2
  have hg : (getObj sl.b).run P w = .ok (.map es' clock) w := by simp [getObj, Sem.run, hw]
  have hset : ∀ o, (setObj sl.b o).run P w = .ok () { w with heap := w.heap.setIfInBounds sl.b o } := fun o => by simp [setObj, Sem.run, hw]
  have hat : ∀ o, At w { w with heap := w.heap.setIfInBounds sl.b o } sl.b ∧ ({ w with heap := w.heap.setIfInBounds sl.b o } : World).heap[sl.b]? = some o := fun o =>
    ⟨⟨by simp, rfl, rfl, rfl, fun b' hb' => by simp only [Array.getElem?_setIfInBounds]; rw [if_neg (Ne.symm hb')]⟩, by simp [hlt]⟩
  have hck := keyOk_check hk false w
  have hkp := keyOk_P hk
  obtain ⟨α, fnd, R, hF, hrun1⟩ := findKey_by hk w es'.toList
  rcases insertK_sim hF hkp hx es es'.toList hrel hins 0 clock with ⟨j, e, h1, h2, h3, h4⟩ | ⟨h1, h2⟩
  · have hfk := hrun1 _ h1
    obtain ⟨ha, hh⟩ := hat (.map (es'.modify j fun e => { e with key := k, val := x' }) clock)
    refine ⟨_, ?_, Step.at_ hs hr hb rfl ha ⟨hmap, _, clock, hh, by simpa using h4⟩⟩
    have hej : es'[j]? = some e := by simpa using h2
    have hsb := sameBits_keyP hkp 9999
    simp only [Instr.mapUpdate, Sem.run_bind, run_und hu, Result.andThen_ok, hg, hck, hfk, Nat.zero_add]
    simp only [hej, Option.map_some, Option.getD_some, h3, Instr.keyThatStays, hsb, if_true, Sem.run_pure, Result.andThen_ok, hset]
  · have hfk := hrun1 _ h1
    obtain ⟨ha, hh⟩ := hat (.map (es'.push { key := k, val := x', born := clock }) (clock + 1))
    refine ⟨_, ?_, Step.at_ hs hr hb rfl ha ⟨hmap, _, clock + 1, hh, by simpa using h2⟩⟩
    simp only [Instr.mapUpdate, Sem.run_bind, run_und hu, Result.andThen_ok, hg, hck, hfk, hset]
end Go.Ab
