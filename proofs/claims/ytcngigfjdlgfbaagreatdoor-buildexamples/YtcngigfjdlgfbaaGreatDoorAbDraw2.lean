/- The evaluator of small memories: a part (AbDraw2). -/
import Derived.Test.YtcngigfjdlgfbaaGreatDoorAbDraw
namespace Go.Ab
open Go
variable {P : Program} {gl : Nat → Bool}

theorem get_setAll {h : Heap} {base : Nat} : ∀ (R : List (Nat × Blk)), (∀ i B B', (i, B) ∈ R → (i, B') ∈ R → B = B') → (∀ i B, (i, B) ∈ R → h.get (base + i) = none) →
    ∀ k B, (setAll h base R).get k = some B ↔ h.get k = some B ∨ ∃ i, k = base + i ∧ (i, B) ∈ R
  | [], _, _, k, B => by simp [setAll]
  | (j, B₀) :: R, hf, hn, k, B => by
    have ih := get_setAll R (fun i B B' h1 h2 => hf i B B' (List.mem_cons_of_mem _ h1) (List.mem_cons_of_mem _ h2)) (fun i B h1 => hn i B (List.mem_cons_of_mem _ h1)) k B
    simp only [setAll, Heap.get_set]
    by_cases hk : k = base + j
    · rw [if_pos hk]
      constructor
      · intro he
        obtain rfl := Option.some.inj he
        exact .inr ⟨j, hk, List.mem_cons_self⟩
      · rintro (he | ⟨i, h1, h2⟩)
        · rw [hk, hn j B₀ List.mem_cons_self] at he; cases he
        · obtain rfl : i = j := by omega
          rw [hf i B B₀ h2 List.mem_cons_self]
    · rw [if_neg hk, ih]
      constructor
      · rintro (he | ⟨i, h1, h2⟩)
        · exact .inl he
        · exact .inr ⟨i, h1, List.mem_cons_of_mem _ h2⟩
      · rintro (he | ⟨i, h1, h2⟩)
        · exact .inl he
        · rcases List.mem_cons.1 h2 with h3 | h3
          · simp only [Prod.mk.injEq] at h3
            exact absurd (by rw [h1, h3.1]) hk
          · exact .inr ⟨i, h1, h3⟩

theorem next_setAll {h : Heap} {base : Nat} : ∀ (R : List (Nat × Blk)), (setAll h base R).next = h.next
  | [] => rfl
  | _ :: R => next_setAll R

theorem putL_length (tm : List Value) (d : Option Tmp) (v : Value) : (putL tm d v).length = tm.length := by cases d <;> simp [putL]
theorem putL_ne {tm : List Value} {d : Option Tmp} {v : Value} {t : Tmp} (h : d ≠ some t) : (putL tm d v)[t]? = tm[t]? := by
  cases d with
  | none => rfl
  | some d => simp only [putL]; rw [List.getElem?_set_ne]; rintro rfl; exact h rfl
theorem putL_same {tm : List Value} {v : Value} {t : Tmp} (h : t < tm.length) : (putL tm (some t) v)[t]? = some v := by
  simp only [putL]; rw [List.getElem?_set_self h]

section
variable {cf : CallF} {ops : Array Oper} {bf : Nat → Nat → Bool} {base : Nat} {st : Nat → DSt} {en : Nat → Ent}

theorem Run.tm_length (hR : Run P gl cf ops bf base st en) : ∀ i, i ≤ ops.size → (st i).1.length = (st 0).1.length
  | 0, _ => rfl
  | i + 1, h => by
    rw [(hR.one i _ (Array.getElem?_eq_getElem (by omega))).tm, putL_length]
    exact hR.tm_length i (by omega)

theorem Run.tm_old (hR : Run P gl cf ops bf base st en) (t : Tmp) : ∀ i, i ≤ ops.size → (∀ (i' : Nat) (o' : Oper), i' < i → ops[i']? = some o' → o'.dst ≠ some t) → (st i).1[t]? = (st 0).1[t]?
  | 0, _, _ => rfl
  | i + 1, h, hn => by
    have ho := Array.getElem?_eq_getElem (xs := ops) (i := i) (by omega)
    rw [(hR.one i _ ho).tm, putL_ne (hn i _ (by omega) ho)]
    exact hR.tm_old t i (by omega) fun i' o' h1 h2 => hn i' o' (by omega) h2

theorem Run.tm_new (hO : Ordd ops bf) (hR : Run P gl cf ops bf base st en) {t : Tmp} (ht : t < (st 0).1.length) {i' : Nat} {o' : Oper} (ho' : ops[i']? = some o') (hd : o'.dst = some t) : ∀ i, i ≤ ops.size → i' < i → (st i).1[t]? = some (en i').val
  | 0, _, h => absurd h (by omega)
  | i + 1, h, hlt => by
    have ho := Array.getElem?_eq_getElem (xs := ops) (i := i) (by omega)
    rw [(hR.one i _ ho).tm]
    by_cases he : i' = i
    · subst he
      rw [ho'] at ho
      obtain rfl := Option.some.inj ho
      rw [hd, putL_same (by rw [hR.tm_length _ (by omega)]; exact ht)]
    · rw [putL_ne fun hd2 => he (hO.uniq i' i o' _ t ho' ho hd hd2)]
      exact hR.tm_new hO ht ho' hd i (by omega) (by omega)

theorem Run.same_heap (hR : Run P gl cf ops bf base st en) {c : Nat} : ∀ (d : Nat), c + d ≤ ops.size → (∀ e, c ≤ e → e < c + d → (en e).isEff = false) → (st (c + d)).2.1 = (st c).2.1
  | 0, _, _ => rfl
  | d + 1, h, hn => by
    rw [show c + (d + 1) = c + d + 1 by omega, (hR.one (c + d) _ (Array.getElem?_eq_getElem (by omega))).heap.2 (hn _ (by omega) (by omega))]
    exact hR.same_heap d (by omega) fun e h1 h2 => hn e h1 (by omega)

/-- A block that is not laid yet behind c operations. -/
def Pend (bf : Nat → Nat → Bool) (en : Nat → Ent) (c i : Nat) (B : Blk) : Prop := (∃ v, en i = .alloc B v) ∧ ∀ e, e < c → (en e).isEff = true → bf e i = false

theorem Run.pend (hO : Ordd ops bf) (hR : Run P gl cf ops bf base st en) (h0 : (st 0).2.2 = []) : ∀ m, m ≤ ops.size → ∀ i B, (i, B) ∈ (st m).2.2 ↔ i < m ∧ Pend bf en m i B
  | 0, _, i, B => by rw [h0]; simp
  | m + 1, h, i, B => by
    have ih := hR.pend hO h0 m (by omega) i B
    have hone := hR.one m _ (Array.getElem?_eq_getElem (by omega))
    have calm : (en m).isEff = false → (∀ B v, en m ≠ .alloc B v) → (i < m + 1 ∧ Pend bf en (m + 1) i B ↔ i < m ∧ Pend bf en m i B) := fun hne hna => by
      constructor
      · rintro ⟨h1, ⟨v, h2⟩, h3⟩
        refine ⟨?_, ⟨v, h2⟩, fun e he => h3 e (by omega)⟩
        rcases Nat.lt_or_ge i m with h4 | h4
        · exact h4
        · obtain rfl : i = m := by omega
          exact absurd h2 (hna B v)
      · rintro ⟨h1, h2, h3⟩
        refine ⟨by omega, h2, fun e he hef => ?_⟩
        rcases Nat.lt_or_ge e m with h4 | h4
        · exact h3 e h4 hef
        · obtain rfl : e = m := by omega
          rw [hne] at hef; cases hef
    cases hm : en m with
    | skip =>
      rw [hm] at hone; simp only [One] at hone
      rw [hone.2, ih, calm (by rw [hm]; rfl) (by rw [hm]; intro B v h; cases h)]
    | pure v =>
      rw [hm] at hone; simp only [One] at hone
      rw [hone.2.2, ih, calm (by rw [hm]; rfl) (by rw [hm]; intro B v h; cases h)]
    | read v =>
      rw [hm] at hone; simp only [One] at hone
      rw [hone.2.2, ih, calm (by rw [hm]; rfl) (by rw [hm]; intro B v h; cases h)]
    | alloc B₀ v =>
      rw [hm] at hone; simp only [One] at hone
      rw [hone.2.2]
      simp only [List.mem_cons, Prod.mk.injEq]
      rw [ih]
      constructor
      · rintro (⟨rfl, rfl⟩ | ⟨h1, h2, h3⟩)
        · refine ⟨by omega, ⟨v, hm⟩, fun e he _ => ?_⟩
          cases hb : bf e i with
          | false => rfl
          | true => have := hO.lt _ _ hb; omega
        · refine ⟨by omega, h2, fun e he hef => ?_⟩
          rcases Nat.lt_or_ge e m with h4 | h4
          · exact h3 e h4 hef
          · obtain rfl : e = m := by omega
            rw [hm] at hef; cases hef
      · rintro ⟨h1, ⟨v', h2⟩, h3⟩
        rcases Nat.lt_or_ge i m with h4 | h4
        · exact .inr ⟨h4, ⟨v', h2⟩, fun e he => h3 e (by omega)⟩
        · obtain rfl : i = m := by omega
          rw [hm] at h2
          cases h2
          exact .inl ⟨rfl, rfl⟩
    | eff v h' =>
      rw [hm] at hone; simp only [One] at hone
      rw [hone.2.2]
      simp only [List.mem_filter, Bool.not_eq_true']
      rw [ih]
      constructor
      · rintro ⟨⟨h1, h2, h3⟩, h4⟩
        refine ⟨by omega, h2, fun e he hef => ?_⟩
        rcases Nat.lt_or_ge e m with h5 | h5
        · exact h3 e h5 hef
        · obtain rfl : e = m := by omega
          exact h4
      · rintro ⟨h1, ⟨v', h2⟩, h3⟩
        have hlt : i < m := by
          rcases Nat.lt_or_ge i m with h5 | h5
          · exact h5
          · obtain rfl : i = m := by omega
            rw [hm] at h2; cases h2
        exact ⟨⟨hlt, ⟨v', h2⟩, fun e he => h3 e (by omega)⟩, h3 m (by omega) (by rw [hm]; rfl)⟩

/-- The temporaries, where the operations of S have run. -/
def TmS (ops : Array Oper) (en : Nat → Ent) (tm₀ : List Value) (S : List Nat) (β : Inj) (a : Act) : Prop :=
  a.tmps.size = tm₀.length ∧ ∀ (t : Tmp) (v' : Value), a.tmps[t]? = some v' → (∀ (i : Nat) (o : Oper), i ∈ S → ops[i]? = some o → o.dst = some t → VRel β (en i).val v') ∧
    ((∀ (i : Nat) (o : Oper), i ∈ S → ops[i]? = some o → o.dst ≠ some t) → ∀ v, tm₀[t]? = some v → VRel β v v')

theorem TmS.mono {tm₀ : List Value} {S : List Nat} {β β' : Inj} {a : Act} (h : TmS ops en tm₀ S β a) (hle : β.le β') : TmS ops en tm₀ S β' a :=
  ⟨h.1, fun t v' hv => ⟨fun i o h1 h2 h3 => ((h.2 t v' hv).1 i o h1 h2 h3).mono hle, fun h1 v h2 => ((h.2 t v' hv).2 h1 v h2).mono hle⟩⟩

theorem TmS.put (hO : Ordd ops bf) {tm₀ : List Value} {S : List Nat} {β : Inj} {a : Act} (h : TmS ops en tm₀ S β a) {j : Nat} {o : Oper} (ho : ops[j]? = some o) {v' : Value} (hv : VRel β (en j).val v') : TmS ops en tm₀ (S ++ [j]) β (a.put o.dst v') := by
  refine ⟨by cases hd : o.dst <;> simp [Act.put, h.1], fun t u hu => ?_⟩
  by_cases hd : o.dst = some t
  · have hut : u = v' := by
      rw [hd] at hu
      simp only [Act.put, Array.getElem?_setIfInBounds, if_true] at hu
      split at hu
      · exact (Option.some.inj hu).symm
      · cases hu
    subst hut
    refine ⟨fun i o' _ h2 h3 => ?_, fun hno => absurd hd (hno j o (by simp) ho)⟩
    obtain rfl := hO.uniq i j o' o t h2 ho h3 hd
    exact hv
  · have hu' : a.tmps[t]? = some u := by
      cases hdd : o.dst with
      | none => rw [hdd] at hu; exact hu
      | some d =>
        rw [hdd] at hu hd
        simp only [Act.put, Array.getElem?_setIfInBounds] at hu
        rw [if_neg (by rintro rfl; exact hd rfl)] at hu
        exact hu
    obtain ⟨h1, h2⟩ := h.2 t u hu'
    refine ⟨fun i o' h3 h4 h5 => ?_, fun hno => h2 fun i o' h3 => hno i o' (List.mem_append_left _ h3)⟩
    rcases List.mem_append.1 h3 with h3 | h3
    · exact h1 i o' h3 h4 h5
    · simp only [List.mem_singleton] at h3
      subst h3
      rw [ho] at h4
      obtain rfl := Option.some.inj h4
      exact absurd h5 hd

/-- What an operation sees, whenever it runs. -/
theorem TmS.sees (hO : Ordd ops bf) (hR : Run P gl cf ops bf base st en) {L pre suf : List Nat} {j : Nat} (hL : Topo ops L) (he : L = pre ++ j :: suf) {β : Inj} {a : Act} (h : TmS ops en (st 0).1 pre β a) (hg : Gl gl β) {o : Oper} (ho : ops[j]? = some o) :
    ∀ x ∈ o.op.operands, VRel β (ev gl (st j).1 x) (a.eval x) := by
  have hjs : j < ops.size := (Array.getElem?_eq_some_iff.1 ho).1
  intro x hx
  cases x with
  | tmp t =>
    simp only [ev, Act.eval]
    by_cases ht : t < (st 0).1.length
    · have hta : t < a.tmps.size := by rw [h.1]; exact ht
      obtain ⟨h1, h2⟩ := h.2 t _ (Array.getElem?_eq_getElem hta)
      rw [Array.getD_eq_getD_getElem?, Array.getElem?_eq_getElem hta, Option.getD_some]
      by_cases hw : ∃ (i : Nat) (o' : Oper), i ∈ pre ∧ ops[i]? = some o' ∧ o'.dst = some t
      · obtain ⟨i, o', hi, ho', hd⟩ := hw
        have hlt : i < j := by
          rcases hO.names j o t ho hx i o' ho' hd with rfl | hb | hb
          · have := hL.nodup
            rw [he] at this
            exact absurd rfl (List.nodup_append.1 this |>.2.2 i hi i List.mem_cons_self)
          · exact hO.lt _ _ hb
          · obtain ⟨p1, p2, rfl⟩ := List.append_of_mem hi
            have := hO.topo L hL p1 i (p2 ++ j :: suf) (by rw [he]; simp) j hb
            have hnd := hL.nodup
            rw [he] at hnd
            exact absurd rfl ((List.nodup_append.1 hnd).2.2 j (List.mem_append_left _ this) j List.mem_cons_self)
        rw [List.getD_eq_getElem?_getD, hR.tm_new hO ht ho' hd j (by omega) hlt]
        exact h1 i o' hi ho' hd
      · have hold := hR.tm_old t j (by omega) fun i' o' hlt ho' hd => by
          rcases hO.names j o t ho hx i' o' ho' hd with rfl | hb | hb
          · omega
          · exact hw ⟨i', o', hO.topo L hL pre j suf he i' hb, ho', hd⟩
          · have := hO.lt _ _ hb; omega
        rw [List.getD_eq_getElem?_getD, hold, List.getElem?_eq_getElem ht]
        exact h2 (fun i o' h3 h4 h5 => hw ⟨i, o', h3, h4, h5⟩) _ (List.getElem?_eq_getElem ht)
    · have hta : ¬ t < a.tmps.size := by rw [h.1]; exact ht
      rw [List.getD_eq_getElem?_getD, List.getElem?_eq_none (by rw [hR.tm_length j (by omega)]; exact Nat.le_of_not_lt ht), Array.getD_eq_getD_getElem?, Array.getElem?_eq_none (Nat.le_of_not_lt hta)]
      exact .undef β
  | const v =>
    simp only [ev, Act.eval]
    split
    · next hp => exact .of_plain hp
    · exact .junk v
  | global g =>
    simp only [ev, Act.eval]
    split
    · next hp =>
      obtain ⟨sl, h1, h2, h3, h4⟩ := hg g hp
      have := VRel.ptr (i := 0) h1 h4
      rwa [h2, h3] at this
    · exact .junk _
  | func f =>
    simp only [ev, Act.eval]
    exact .func rfl rfl rfl (fun i v v' h => by simp at h) (fun i v v' h => by simp at h)

theorem TmS.wanted (hO : Ordd ops bf) (hR : Run P gl cf ops bf base st en) {L pre suf : List Nat} {j : Nat} (hL : Topo ops L) (he : L = pre ++ j :: suf) {β : Inj} {a : Act} (h : TmS ops en (st 0).1 pre β a) {o : Oper} (ho : ops[j]? = some o) {b : Bool}
    (hw : wantedL ops (st j).1 o = some b) : Region.wanted o (yielded ops a.tmps) = b := by
  have hjs : j < ops.size := (Array.getElem?_eq_some_iff.1 ho).1
  unfold wantedL at hw
  unfold Region.wanted
  split at hw
  · next hg => rw [hg]; simpa using hw
  · next i want hg =>
    rw [hg]
    simp only [yielded]
    have hb := hO.guards j o i want ho hg
    have hi := hO.topo L hL pre j suf he i hb
    split at hw
    · next d hd =>
      rw [hd]
      simp only [Option.bind_some]
      obtain ⟨oi, hoi, hdi⟩ := Option.bind_eq_some_iff.1 hd
      have hval : ∀ v, (st j).1[d]? = some v → v = (en i).val ∧ ∃ v', a.tmps[d]? = some v' ∧ VRel β v v' := by
        intro v hv
        have hdl : d < (st 0).1.length := by rw [← hR.tm_length j (by omega)]; exact (List.getElem?_eq_some_iff.1 hv).1
        have hda : d < a.tmps.size := by rw [h.1]; exact hdl
        have := hR.tm_new hO hdl hoi hdi j (by omega) (hO.lt _ _ hb)
        rw [this] at hv
        obtain rfl := Option.some.inj hv
        exact ⟨rfl, _, Array.getElem?_eq_getElem hda, (h.2 d _ (Array.getElem?_eq_getElem hda)).1 i oi hi hoi hdi⟩
      split at hw
      · next b' hb' =>
        obtain ⟨_, v', h1, h2⟩ := hval _ (getD_bool hb')
        rw [h2.inv_bool] at h1
        rw [h1]
        simp only [Option.some.injEq] at hw
        subst hw
        cases b' <;> cases want <;> rfl
      · next vs hb' =>
        simp only [Option.some.injEq] at hw
        subst hw
        rcases getD_tuple hb' with hb' | hb'
        · obtain ⟨_, v', h1, h2⟩ := hval _ hb'
          obtain ⟨vs', rfl, _⟩ := h2.inv_tuple
          rw [h1]
          rfl
        · have hdn : a.tmps[d]? = none := Array.getElem?_eq_none (by rw [h.1, ← hR.tm_length j (by omega)]; exact List.getElem?_eq_none_iff.1 hb')
          rw [hdn]
          rfl
      · cases hw
    · cases hw
end
end Go.Ab
