/- A region that draws its order, order by order: each order comes to the same end. -/
import Derived.Test.YtcngigfjdlgfbaaGreatDoorAbDraw3
namespace Go.Ab
open Go
variable {P : Program} {gl : Nat → Bool}

theorem entsEq_sound : ∀ {x y : List (Value × Value)}, entsEq x y = true → x = y
  | [], [], _ => rfl
  | [], _ :: _, h => by simp [entsEq] at h
  | _ :: _, [], h => by simp [entsEq] at h
  | (a, b) :: x, (c, d) :: y, h => by
    simp only [entsEq, Bool.and_eq_true] at h
    rw [vEq_sound _ _ _ h.1.1, vEq_sound _ _ _ h.1.2, entsEq_sound h.2]
theorem blkEq_sound {B C : Blk} (h : blkEq B C = true) : B = C := by
  unfold blkEq at h
  split at h
  · simp only [Bool.and_eq_true, Nat.beq_eq, beq_iff_eq] at h
    obtain ⟨⟨⟨h1, rfl⟩, rfl⟩, rfl⟩ := h
    rw [eqL_sound (vEq_sound 4) h1]
  · rw [entsEq_sound h]
  · cases h
theorem atEq_sound {h h' : Heap} {k : Nat} (e : atEq h h' k = true) : h.get k = h'.get k := by
  unfold atEq at e
  split at e
  · next h1 h2 => rw [h1, h2, blkEq_sound e]
  · next h1 h2 => rw [h1, h2]
  · cases e

/-- What lies elsewhere is as it was. -/
def Off (h₀ : Heap) (s : ASt) : Prop := s.2.1.next = h₀.next ∧ ∀ k, k ∉ s.2.2 → s.2.1.get k = h₀.get k
theorem Off.lay {h₀ : Heap} {s : ASt} (h : Off h₀ s) (dst : Option Tmp) (v : Value) (u : Option (Nat × Blk)) : Off h₀ (layA s dst v u) := by
  cases u with
  | none => exact h
  | some p =>
    obtain ⟨k, b⟩ := p
    refine ⟨h.1, fun j hj => ?_⟩
    simp only [layA, List.mem_cons, not_or] at hj
    show (s.2.1.set k b).get j = _
    rw [Heap.get_set, if_neg hj.1]
    exact h.2 j hj.2
theorem stepA_off {ops : Array Oper} {base j : Nat} {h₀ : Heap} {s s' : ASt} (h : Off h₀ s) (hs : stepA P gl ops base j s = some s') : Off h₀ s' := by
  unfold stepA at hs
  split at hs
  · split at hs
    · split at hs
      · obtain rfl := Option.some.inj hs; exact h.lay _ _ _
      · cases hs
    · obtain rfl := Option.some.inj hs; exact h.lay _ _ _
    · cases hs
  · cases hs
theorem textA_off {ops : Array Oper} {base : Nat} {h₀ : Heap} : ∀ (n j : Nat) {s s' : ASt}, Off h₀ s → textA P gl ops base n j s = some s' → Off h₀ s'
  | 0, _, _, _, h, hs => by simp only [textA] at hs; obtain rfl := Option.some.inj hs; exact h
  | n + 1, j, s, s', h, hs => by
    simp only [textA] at hs
    split at hs
    · next s1 h1 => exact textA_off n (j + 1) (stepA_off h h1) hs
    · cases hs
theorem endEq_sound {h₀ : Heap} {s s' : ASt} (h : Off h₀ s) (h' : Off h₀ s') (e : endEq s s' = true) : s.1 = s'.1 ∧ Same s.2.1 s'.2.1 := by
  unfold endEq at e
  simp only [Bool.and_eq_true] at e
  obtain ⟨⟨e1, e2⟩, e3⟩ := e
  refine ⟨eqL_sound (vEq_sound 4) e1, h.1.trans h'.1.symm, fun k => ?_⟩
  by_cases k1 : k ∈ s.2.2
  · exact atEq_sound (List.all_eq_true.1 e2 k k1)
  · by_cases k2 : k ∈ s'.2.2
    · exact atEq_sound (List.all_eq_true.1 e3 k k2)
    · rw [h.2 k k1, h'.2 k k2]

theorem Topo.length {ops : Array Oper} {L : List Nat} (h : Topo ops L) : L.length = ops.size := by
  have := ((List.perm_ext_iff_of_nodup h.nodup List.nodup_range).2 fun i => by rw [h.mem, List.mem_range]).length_eq
  simpa using this

theorem noCf_ok : CfOk P gl noCf := ⟨(by intro f args h v h' _ hr; cases hr), (by intro k args h v h' hr; cases hr)⟩

theorem ordA (hN : NamesOk P) {ops : Array Oper} (hO : Ordd ops (befAt (befs ops))) {L : List Nat} (hL : Topo ops L) {r : Option Nat} {n : Nat} {Q : Exit → Act → World → Prop} {base : Nat} {fin : ASt} {h₀ hb : Heap} {β₀ : Inj} {w₀ : World} {a₀ : Act} (hg₀ : Gl gl β₀)
    (hbase : hb.next = base + ops.size) (h0n : h₀.next ≤ base) (hfin : Off hb fin)
    (hk : ∀ a' w' β', Step β₀ h₀ w₀ β' fin.2.1 w' → LRel β' fin.1 a'.tmps.toList → a'.defers = a₀.defers → Q .normal a' w') :
    ∀ (suf pre : List Nat) (β : Inj) (w : World) (a : Act) (s : ASt), L = pre ++ suf → allA P gl ops (befAt (befs ops)) base fin suf.length pre.reverse s = true → Off hb s → Step β₀ h₀ w₀ β s.2.1 w →
      (∀ i, i < ops.size → i ∉ pre → β (base + i) = none) → LRel β s.1 a.tmps.toList → a.defers = a₀.defers → wpOpsIn (fence r) n P ops Q suf a w
  | [], pre, β, w, a, s, he, hA, hoff, hst, hfree, ht, hd => by
    obtain ⟨e1, e2⟩ := endEq_sound hfin hoff hA
    refine hk a w β (hst.same (Same.refl _) e2.symm) (by rw [e1]; exact ht) hd
  | j :: suf, pre, β, w, a, s, he, hA, hoff, hst, hfree, ht, hd => by
    have hj : j < ops.size := (hL.mem j).1 (by rw [he]; simp)
    have hnj : j ∉ pre := fun hm => by
      have hnd := hL.nodup
      rw [he] at hnd
      exact absurd rfl ((List.nodup_append.1 hnd).2.2 j hm j List.mem_cons_self)
    have hbf : ∀ i, befAt (befs ops) j i = true → i ∈ pre := hO.topo L hL pre j suf he
    simp only [List.length_cons, allA] at hA
    have h1 := List.all_eq_true.1 hA j (List.mem_range.2 hj)
    simp only [Bool.or_eq_true] at h1
    rcases h1 with (h1 | h1) | h1
    · exact absurd (by simpa using h1) hnj
    · obtain ⟨i, hi, hh⟩ := List.any_eq_true.1 h1
      simp only [Bool.and_eq_true, Bool.not_eq_true'] at hh
      have h2 : i ∉ pre := by simpa using hh.2
      exact absurd (hbf i hh.1) h2
    · split at h1
      · next s' hs' =>
        have hoff' := stepA_off hoff hs'
        have ho := Array.getElem?_eq_getElem hj
        generalize ops[j] = o at ho
        unfold stepA at hs'
        rw [ho] at hs'
        dsimp only at hs'
        have he' : L = (pre ++ [j]) ++ suf := by rw [he]; simp
        have hrev : (pre ++ [j]).reverse = j :: pre.reverse := by simp
        have hfree' : ∀ i, i < ops.size → i ∉ pre ++ [j] → β (base + i) = none := fun i h1 h2 => hfree i h1 fun hh => h2 (List.mem_append_left _ hh)
        have hg : Gl gl β := hg₀.mono hst.le
        simp only [wpOpsIn, ho]
        split at hs'
        · next hw =>
          rw [wanted_rel ht hw]
          simp only [if_true]
          split at hs'
          · next v u hop =>
            obtain rfl := Option.some.inj hs'
            have hρ := ev_rel (β := β) hg ht
            unfold opAt at hop
            split at hop
            · next v0 hp =>
              simp only [Option.some.injEq, Prod.mk.injEq] at hop
              obtain ⟨rfl, rfl⟩ := hop
              obtain ⟨v', g1, g2⟩ := opPure_sim hρ hp w
              refine val_wp (by intro cc hc; simp [opPure, hc] at hp) g1 (ordA hN hO hL hg₀ hbase h0n hfin hk suf (pre ++ [j]) β w _ _ he' (by rw [hrev]; exact h1) hoff' hst hfree' (put_rel ht o.dst g2) ((put_defers a o.dst v').trans hd))
            · split at hop
              · next v0 hp =>
                simp only [Option.some.injEq, Prod.mk.injEq] at hop
                obtain ⟨rfl, rfl⟩ := hop
                obtain ⟨v', g1, g2⟩ := opRead_sim hρ hst.sim hp
                refine val_wp (by intro cc hc; simp [opRead, hc] at hp) g1 (ordA hN hO hL hg₀ hbase h0n hfin hk suf (pre ++ [j]) β w _ _ he' (by rw [hrev]; exact h1) hoff' hst hfree' (put_rel ht o.dst g2) ((put_defers a o.dst v').trans hd))
              · split at hop
                · next B f hp =>
                  simp only [Option.some.injEq, Prod.mk.injEq] at hop
                  obtain ⟨rfl, rfl⟩ := hop
                  obtain ⟨v', w', g1, g2⟩ := opAlloc_sim hρ (w := w) hp
                  obtain ⟨β', g3, g4, g5, g6⟩ := g2.at_key hst (hfree j hj hnj) (by omega) (by rw [hoff.1, hbase]; omega)
                  refine val_wp (by intro cc hc; simp [opAlloc, hc] at hp) g1 (ordA hN hO hL hg₀ hbase h0n hfin hk suf (pre ++ [j]) β' w' _ _ he' (by rw [hrev]; exact h1) hoff' g3 ?_ (put_rel (ht.mono g5) o.dst g4) ((put_defers a o.dst v').trans hd))
                  intro i h2 h3
                  rw [g6 _ fun hh => h3 (by rw [show i = j by omega]; simp)]
                  exact hfree' i h2 h3
                · have key : ∀ {u' : Upd} {v : Value}, opEff P noCf (ev gl s.1) o s.2.1 = some (v, u') → u'.app s.2.1 = (layA s o.dst v u).2.1 → (layA s o.dst v u).1 = putL s.1 o.dst v → allA P gl ops (befAt (befs ops)) base fin suf.length (j :: pre.reverse) (layA s o.dst v u) = true → Off hb (layA s o.dst v u) →
                      o.wpIn (fence r) n P a w (fun a' w' => wpOpsIn (fence r) n P ops Q suf a' w') Q := by
                    intro u' v hop hu hput h1 hoff'
                    refine eff_wp hN noCf_ok hst.sim hg hρ hop _ _ fun v' w' β' hst' hv => ?_
                    rw [hu] at hst'
                    refine ordA hN hO hL hg₀ hbase h0n hfin hk suf (pre ++ [j]) β' w' _ _ he' (by rw [hrev]; exact h1) hoff' (hst.trans hst') (fun i h2 h3 => ?_) (by rw [hput]; exact put_rel (ht.mono hst'.le) o.dst hv) ((put_defers a o.dst v').trans hd)
                    have hold := hfree' i h2 h3
                    cases hb' : β' (base + i) with
                    | none => rfl
                    | some sl =>
                      rcases hst'.fresh _ sl hb' with h4 | ⟨h4, _⟩
                      · rw [hold] at h4; cases h4
                      · rw [hoff.1, hbase] at h4; omega
                  split at hop
                  · next v0 hp =>
                    simp only [Option.some.injEq, Prod.mk.injEq] at hop
                    obtain ⟨rfl, rfl⟩ := hop
                    exact key hp rfl rfl h1 hoff'
                  · next v0 k0 b0 hp =>
                    simp only [Option.some.injEq, Prod.mk.injEq] at hop
                    obtain ⟨rfl, rfl⟩ := hop
                    exact key hp rfl rfl h1 hoff'
                  · cases hop
          · cases hs'
        · next hw =>
          obtain rfl := Option.some.inj hs'
          rw [wanted_rel ht hw]
          simp only [Bool.false_eq_true, if_false]
          refine ⟨fun _ _ => trivial, ?_⟩
          exact ordA hN hO hL hg₀ hbase h0n hfin hk suf (pre ++ [j]) β w _ _ he' (by rw [hrev]; exact h1) hoff' hst hfree' (put_rel ht o.dst (.undef β)) ((put_defers a o.dst undef).trans hd)
        · cases hs'
      · cases h1
end Go.Ab
