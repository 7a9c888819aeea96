/- The evaluator of small memories: a part (AbEff2). -/
import Derived.Test.YtoabjjimjldcfaaGreatDoorAbApp2
namespace Go.Ab
open Go
variable {β : Inj} {P : Program}

theorem copy_sim {h : Heap} {w : World} (hs : Sim β h w) {t : TypeId} {ts : List TypeId} {ty : TypeId} {d s d' s' v : Value} {u : Upd} (hv : copyV P t d s h = some (v, u)) (hd : VRel β d d') (hsr : VRel β s s') :
    ∃ v' w' β', (Builtin.copy_ (t :: ts).toArray ty #[d', s']).run P w = .ok v' w' ∧ Step β h w β' (u.app h) w' ∧ VRel β' v v' := by
  unfold copyV at hv
  split at hv
  · next e ht =>
    split at hv
    · next sz a n c hsz =>
      split at hv
      · next cs m hsrc =>
        obtain ⟨hlen, hcells⟩ := srcCells_sim (P := P) hs hsrc hsr
        have h0 : (t :: ts).toArray[0]? = some t := rfl
        have h1 : (#[d', s'] : Array Value)[0]? = some d' := rfl
        have h2 : (#[d', s'] : Array Value)[1]? = some s' := rfl
        obtain ⟨cs', hrc, hrel⟩ := hcells (min m n) (Nat.min_le_left _ _)
        have hrc0 := hrc w fun _ _ => rfl
        have hmin : Nat.min m n = min m n := rfl
        have hdf : ∃ a' c', d' = .slice a' n c' := by
          cases a with
          | none => obtain ⟨rfl, rfl, rfl⟩ := hd.inv_nilSlice; exact ⟨_, _, rfl⟩
          | some a => obtain ⟨sl, i', c', _, _, _, rfl, _⟩ := hd.inv_slice; exact ⟨_, _, rfl⟩
        split at hv
        · next hz =>
          simp only [Option.some.injEq, Prod.mk.injEq] at hv
          obtain ⟨rfl, rfl⟩ := hv
          have hm0 : min m n = 0 := by omega
          rw [hm0] at hrc0 hrel
          have : cs' = [] := by simpa using hrel.1.symm
          subst this
          obtain ⟨a', c', rfl⟩ := hdf
          refine ⟨.int .i64 0, w, β, ?_, Step.refl hs, .int _ _⟩
          simp only [Builtin.copy_, h0, h1, h2, Sem.run_bind, run_und ht, Result.andThen_ok, hlen, run_size hsz, hmin, hm0, hrc0, goInt]
          cases a' <;> simp [storeCells]
        · next hz =>
          split at hv
          · next k j =>
            obtain ⟨u', hst, he⟩ := Option.map_eq_some_iff.1 hv
            simp only [Prod.mk.injEq] at he
            obtain ⟨rfl, rfl⟩ := he
            obtain ⟨sl, i', c', hb, hmp, _, rfl, hx1, ho1, hn1, hi1, hz1⟩ := hd.inv_slice
            have hi2 : i' = sl.s + j := by rcases hi1 with h1 | ⟨h1, h2⟩; exact h1; exact absurd h1 (by omega)
            subst hi2
            obtain ⟨w', hr, hstep⟩ := store_sim (P := P) hs hst hb hrel
            refine ⟨.int .i64 (min m n : Nat), w', β, ?_, hstep, .int _ _⟩
            simp only [Builtin.copy_, h0, h1, h2, Sem.run_bind, run_und ht, Result.andThen_ok, hlen, run_size hsz, hmin, hrc0, Sem.run_pure, goInt, hr]
          · cases hv
      · cases hv
    · cases hv
  · cases hv

theorem sameBits_int (d : Nat) (k : IntKind) (n : Int) : Instr.sameBits d (.int k n) (.int k n) = true := by
  cases d <;> simp [Instr.sameBits]

/-- A number's entry, put. -/
theorem insert_sim {kk : IntKind} {n : Int} {x x' : Value} (hx : VRel β x x') : ∀ (es : List (Value × Value)) (es' : List MapEntry) {r : List (Value × Value)}, ERel β es es' → insertMap es (.int kk n) x = some r → ∀ i clock,
    (∃ j e, Instr.findNow (.int kk) (.int kk n) es' i = some (some (i + j, e.val)) ∧ es'[j]? = some e ∧ e.key = .int kk n ∧ ERel β r (es'.modify j fun e => { e with key := .int kk n, val := x' })) ∨
    (Instr.findNow (.int kk) (.int kk n) es' i = some none ∧ ERel β r (es' ++ [{ key := .int kk n, val := x', born := clock }]))
  | [], es', r, he, h, i, clock => by
    have : es' = [] := List.eq_nil_of_length_eq_zero he.1.symm
    subst this
    simp only [insertMap, Option.some.injEq] at h
    subst h
    refine .inr ⟨rfl, rfl, fun j p e h1 h2 => ?_⟩
    cases j with
    | zero => simp at h1 h2; subst h1; subst h2; exact ⟨.int _ _, hx⟩
    | succ j => simp at h1
  | (k, v) :: es, [], r, he, h, i, clock => by have := he.1; simp at this
  | (k, v) :: es, e :: es', r, he, h, i, clock => by
    obtain ⟨hke, hve⟩ := he.2 0 (k, v) e rfl rfl
    have ht : ERel β es es' := ⟨by have := he.1; simpa using this, fun j p e h1 h2 => he.2 (j + 1) p e (by simpa using h1) (by simpa using h2)⟩
    dsimp only at hke hve
    unfold insertMap at h
    have hcons : ∀ {p : Value × Value} {e0 : MapEntry} {q : List (Value × Value)} {q' : List MapEntry}, VRel β p.1 e0.key → VRel β p.2 e0.val → ERel β q q' → ERel β (p :: q) (e0 :: q') := fun h1 h2 h3 =>
      ⟨by simp [h3.1], fun j p e h4 h5 => by
        cases j with
        | zero => simp at h4 h5; subst h4; subst h5; exact ⟨h1, h2⟩
        | succ j => exact h3.2 j p e (by simpa using h4) (by simpa using h5)⟩
    cases k with
    | int k' n' =>
      have hkey : e.key = .int k' n' := hke.inv_int
      simp only [eqScalar] at h
      by_cases hkk : k' = kk
      · subst hkk
        simp only [if_true] at h
        by_cases hn : n' = n
        · subst hn
          simp only [BEq.rfl, Option.some.injEq] at h
          subst h
          refine .inl ⟨0, e, ?_, rfl, hkey, ?_⟩
          · simp [Instr.findNow, hkey, Instr.sameNow]
          · simp only [List.modify_zero_cons]
            exact hcons (.int _ _) hx ht
        · have hb : (n' == n) = false := by simp [hn]
          simp only [hb] at h
          obtain ⟨r', hr, rfl⟩ := Option.map_eq_some_iff.1 h
          have hne : (n == n') = false := by simp [Ne.symm hn]
          rcases insert_sim hx es es' ht hr (i + 1) clock with ⟨j, e0, h1, h2, h3, h4⟩ | ⟨h1, h2⟩
          · refine .inl ⟨j + 1, e0, ?_, by simpa using h2, h3, ?_⟩
            · simp only [Instr.findNow, hkey, Instr.sameNow, if_true, hne]
              rw [h1]
              congr 3; omega
            · simp only [List.modify_succ_cons]
              exact hcons hke hve h4
          · refine .inr ⟨?_, ?_⟩
            · simp only [Instr.findNow, hkey, Instr.sameNow, if_true, hne]
              exact h1
            · exact hcons hke hve h2
      · simp [hkk] at h
    | _ => simp [eqScalar] at h

theorem mapUpdate_sim {h : Heap} {w : World} (hs : Sim β h w) {t kt et : TypeId} {r : Nat} {es es2 : List (Value × Value)} {kk : IntKind} {n : Int} {m' x x' : Value} (hu : P.underlying t = some (.map kt et)) (hkt : P.underlying kt = some (.int kk))
    (hr : h.get r = some (.map es)) (hins : insertMap es (.int kk n) x = some es2) (hm : VRel β (.map (some r)) m') (hx : VRel β x x') :
    ∃ w', (Instr.mapUpdate t m' (.int kk n) x').run P w = .ok () w' ∧ Step β h w β (h.set r (.map es2)) w' := by
  obtain ⟨sl, hb, hmap, rfl⟩ := hm.inv_map
  obtain ⟨_, es', clock, hw, hrel⟩ := hs.blk _ _ _ hr hb
  have hlt : sl.b < w.heap.size := (hs.lt _ _ hb).2
  have hg : (getObj sl.b).run P w = .ok (.map es' clock) w := by simp [getObj, Sem.run, hw]
  have hset : ∀ o, (setObj sl.b o).run P w = .ok () { w with heap := w.heap.setIfInBounds sl.b o } := fun o => by simp [setObj, Sem.run, hw]
  have hat : ∀ o, At w { w with heap := w.heap.setIfInBounds sl.b o } sl.b ∧ ({ w with heap := w.heap.setIfInBounds sl.b o } : World).heap[sl.b]? = some o := fun o =>
    ⟨⟨by simp, rfl, rfl, rfl, fun b' hb' => by simp only [Array.getElem?_setIfInBounds]; rw [if_neg (Ne.symm hb')]⟩, by simp [hlt]⟩
  have hck := run_checkKey_int (P := P) (kk' := kk) (n := n) hkt false 9999 w
  rcases insert_sim (kk := kk) (n := n) hx es es'.toList hrel hins 0 clock with ⟨j, e, h1, h2, h3, h4⟩ | ⟨h1, h2⟩
  · obtain ⟨ha, hh⟩ := hat (.map (es'.modify j fun e => { e with key := .int kk n, val := x' }) clock)
    refine ⟨_, ?_, Step.at_ hs hr hb rfl ha ⟨hmap, _, clock, hh, by simpa using h4⟩⟩
    have hej : es'[j]? = some e := by simpa using h2
    simp only [Instr.mapUpdate, Sem.run_bind, run_und hu, Result.andThen_ok, hg, hck, Instr.findKey, run_und hkt, h1, Sem.run_pure, Nat.zero_add]
    simp only [hej, Option.map_some, Option.getD_some, h3, Instr.keyThatStays, sameBits_int, if_true, Sem.run_pure, Result.andThen_ok, hset]
  · obtain ⟨ha, hh⟩ := hat (.map (es'.push { key := .int kk n, val := x', born := clock }) (clock + 1))
    refine ⟨_, ?_, Step.at_ hs hr hb rfl ha ⟨hmap, _, clock + 1, hh, by simpa using h2⟩⟩
    simp only [Instr.mapUpdate, Sem.run_bind, run_und hu, Result.andThen_ok, hg, hck, Instr.findKey, run_und hkt, h1, Sem.run_pure, hset]
end Go.Ab
