/- The evaluator of small memories: a part (AbOrder). -/
import Derived.CallsIn
namespace Go.Ab
open Go Region

/-- An order in which each operation stands behind those that it always waits for; each stands once. -/
structure Topo (ops : Array Oper) (L : List Nat) : Prop where
  mem : ∀ i, i ∈ L ↔ i < ops.size
  nodup : L.Nodup
  deps : ∀ pre i suf, L = pre ++ i :: suf → ∀ o, ops[i]? = some o → ∀ e ∈ o.after, binds .any e = true → e.on ∈ pre

theorem binds_any {m : Region.Mode} {e : Edge} (h : binds .any e = true) : binds m e = true := by
  unfold binds at *
  split at h
  · simp at h
  · simp at h
  · rfl

/-- Whether an operation may be listed next. -/
def may (m : Region.Mode) (ops : Array Oper) (listed : Array Bool) (i : Nat) : Prop :=
  listed.getD i true = false ∧ ∃ o, ops[i]? = some o ∧ ∀ e ∈ o.after, binds m e = true → listed.getD e.on false = true

theorem mem_ready' {m : Region.Mode} {ops : Array Oper} {listed : Array Bool} {i : Nat} :
    i ∈ (List.range ops.size).filter (fun i => !listed.getD i true && ((ops[i]?).map (·.after.all fun e => !binds m e || listed.getD e.on false)).getD false) ↔ i < ops.size ∧ may m ops listed i := by
  simp only [List.mem_filter, List.mem_range, Bool.and_eq_true, Bool.not_eq_true', may]
  refine ⟨fun ⟨h1, h2, h3⟩ => ⟨h1, h2, ?_⟩, fun ⟨h1, h2, o, h3, h4⟩ => ⟨h1, h2, ?_⟩⟩
  · rw [Array.getElem?_eq_getElem h1] at h3
    simp only [Option.map_some, Option.getD_some, Array.all_eq_true'] at h3
    refine ⟨_, Array.getElem?_eq_getElem h1, fun e he hb => ?_⟩
    have := h3 e he
    rw [hb] at this
    simpa using this
  · rw [h3]
    simp only [Option.map_some, Option.getD_some, Array.all_eq_true']
    intro e he
    cases hb : binds m e with
    | false => rfl
    | true => simp [h4 e he hb]

/-- How many are not listed. -/
def left (ops : Array Oper) (listed : Array Bool) : List Nat := (List.range ops.size).filter fun i => !listed.getD i true

theorem getD_set {l : Array Bool} {i j : Nat} (d : Bool) (hi : i < l.size) : (l.setIfInBounds i true).getD j d = if j = i then true else l.getD j d := by
  simp only [Array.getD_eq_getD_getElem?, Array.getElem?_setIfInBounds]
  by_cases h : i = j
  · subst h; simp [hi]
  · rw [if_neg h, if_neg (Ne.symm h)]

/-- What the model's listing comes to: each that it lists was free to be. -/
theorem go_sound (m : Region.Mode) (ops : Array Oper) :
    ∀ (fuel t : Nat) (listed : Array Bool) (acc : List Nat), listed.size = ops.size → (∀ i, i ∈ acc ↔ i < ops.size ∧ listed.getD i true = true) → acc.Nodup →
      (∀ pre i suf, acc.reverse = pre ++ i :: suf → ∀ o, ops[i]? = some o → ∀ e ∈ o.after, binds m e = true → e.on ∈ pre) →
      let L := linearise.go m ops fuel t listed acc
      (∀ i, i ∈ L → i < ops.size) ∧ L.Nodup ∧ ∀ pre i suf, L = pre ++ i :: suf → ∀ o, ops[i]? = some o → ∀ e ∈ o.after, binds m e = true → e.on ∈ pre
  | 0, t, listed, acc, hs, ha, hn, hd => by
    simp only [linearise.go]
    exact ⟨fun i hi => ((ha i).1 (List.mem_reverse.1 hi)).1, (List.reverse_perm acc).nodup_iff.2 hn, hd⟩
  | fuel + 1, t, listed, acc, hs, ha, hn, hd => by
    simp only [linearise.go]
    split
    · next i hi =>
      have hi := List.mem_of_getElem? hi
      obtain ⟨hib, hfree, o, ho, hdep⟩ := mem_ready'.1 hi
      have hisz : i < listed.size := by omega
      have hia : i ∉ acc := fun h => by have := ((ha i).1 h).2; rw [hfree] at this; cases this
      have hdep' : ∀ e ∈ o.after, binds m e = true → e.on ∈ acc.reverse := fun e he hb => by
        rw [List.mem_reverse, ha]
        have hl := hdep e he hb
        have : e.on < listed.size := by
          rcases Nat.lt_or_ge e.on listed.size with h5 | h5
          · exact h5
          · simp [Array.getD_eq_getD_getElem?, Array.getElem?_eq_none h5] at hl
        exact ⟨by omega, by simp only [Array.getD_eq_getD_getElem?, Array.getElem?_eq_getElem this] at hl ⊢; exact hl⟩
      refine go_sound m ops fuel (t / _) (listed.setIfInBounds i true) (i :: acc) (by simpa using hs) ?_ (List.nodup_cons.2 ⟨hia, hn⟩) ?_
      · intro j
        rw [List.mem_cons, ha, getD_set _ hisz]
        constructor
        · rintro (rfl | ⟨h3, h4⟩)
          · exact ⟨hib, by simp⟩
          · exact ⟨h3, by split <;> simp_all⟩
        · rintro ⟨h3, h4⟩
          split at h4
          · next he => exact .inl he
          · exact .inr ⟨h3, h4⟩
      · intro pre j suf heq o' ho' e he hb
        rw [List.reverse_cons] at heq
        rcases List.append_eq_append_iff.1 heq with ⟨as, h3, h4⟩ | ⟨bs, h3, h4⟩
        · cases as with
          | nil =>
            simp only [List.nil_append, List.cons.injEq] at h4
            obtain ⟨rfl, rfl⟩ := h4
            rw [ho] at ho'
            obtain rfl := Option.some.inj ho'
            rw [h3, List.append_nil]
            exact hdep' e he hb
          | cons a as =>
            simp only [List.cons_append, List.cons.injEq] at h4
            obtain ⟨_, h4⟩ := h4
            have := congrArg List.length h4
            simp at this
        · cases bs with
          | nil =>
            simp only [List.nil_append, List.cons.injEq] at h4
            obtain ⟨rfl, rfl⟩ := h4
            rw [ho] at ho'
            obtain rfl := Option.some.inj ho'
            have h3' : pre = acc.reverse := by simpa using h3.symm
            rw [h3']
            exact hdep' e he hb
          | cons b bs =>
            simp only [List.cons_append, List.cons.injEq] at h4
            obtain ⟨rfl, _⟩ := h4
            exact hd pre j bs h3 o' ho' e he hb
    · exact ⟨fun i hi => ((ha i).1 (List.mem_reverse.1 hi)).1, (List.reverse_perm acc).nodup_iff.2 hn, hd⟩

/-- Where one that is not listed is always free to be, all are listed. -/
theorem go_all (m : Region.Mode) (ops : Array Oper) (prog : ∀ listed : Array Bool, listed.size = ops.size → (∃ i, i < ops.size ∧ listed.getD i true = false) → ∃ i, i < ops.size ∧ may m ops listed i) :
    ∀ (fuel t : Nat) (listed : Array Bool) (acc : List Nat), listed.size = ops.size → (left ops listed).length ≤ fuel → (∀ i, i < ops.size → listed.getD i true = true → i ∈ acc) →
      ∀ i, i < ops.size → i ∈ linearise.go m ops fuel t listed acc
  | 0, t, listed, acc, hs, hl, ha => fun i h => by
    simp only [linearise.go]
    rw [List.mem_reverse]
    refine ha i h ?_
    cases hg : listed.getD i true with
    | true => rfl
    | false =>
      have : i ∈ left ops listed := List.mem_filter.2 ⟨List.mem_range.2 h, by rw [hg]; rfl⟩
      have := List.length_pos_of_mem this
      omega
  | fuel + 1, t, listed, acc, hs, hl, ha => by
    simp only [linearise.go]
    split
    · next i hi =>
      have hi := List.mem_of_getElem? hi
      obtain ⟨hib, hfree, _⟩ := mem_ready'.1 hi
      have hisz : i < listed.size := by omega
      refine go_all m ops prog fuel (t / _) (listed.setIfInBounds i true) (i :: acc) (by simpa using hs) ?_ ?_
      · have hsub : ∀ j, j ∈ left ops (listed.setIfInBounds i true) → j ∈ left ops listed ∧ j ≠ i := by
          intro j hj
          simp only [left, List.mem_filter, List.mem_range, Bool.not_eq_true', getD_set _ hisz] at hj ⊢
          split at hj
          · exact absurd hj.2 (by simp)
          · next hne => exact ⟨hj, hne⟩
        have him : i ∈ left ops listed := List.mem_filter.2 ⟨List.mem_range.2 hib, by rw [hfree]; rfl⟩
        have hnd : (left ops (listed.setIfInBounds i true)).Nodup := List.Pairwise.filter _ List.nodup_range
        have : (left ops (listed.setIfInBounds i true)).length ≤ ((left ops listed).erase i).length := by
          refine List.Nodup.length_le_of_subset hnd fun j hj => ?_
          obtain ⟨h3, h4⟩ := hsub j hj
          exact (List.mem_erase_of_ne h4).2 h3
        rw [List.length_erase_of_mem him] at this
        omega
      · intro j hj hg
        rw [getD_set _ hisz] at hg
        split at hg
        · next he => exact List.mem_cons.2 (.inl he)
        · exact List.mem_cons.2 (.inr (ha j hj hg))
    · next hnone =>
      intro i hi
      rw [List.mem_reverse]
      cases hg : listed.getD i true with
      | true => exact ha i hi hg
      | false =>
        obtain ⟨i0, h1, h2⟩ := prog listed hs ⟨i, hi, hg⟩
        have hmem := mem_ready'.2 ⟨h1, h2⟩
        generalize (List.range ops.size).filter (fun i => !listed.getD i true && ((ops[i]?).map (·.after.all fun e => !binds m e || listed.getD e.on false)).getD false) = rs at hmem hnone
        have hpos : 0 < rs.length := List.length_pos_of_mem hmem
        rw [List.getElem?_eq_getElem (Nat.mod_lt _ hpos)] at hnone
        cases hnone

theorem left_length (ops : Array Oper) (listed : Array Bool) : (left ops listed).length ≤ ops.size := by
  have := List.length_filter_le (fun i => !listed.getD i true) (List.range ops.size)
  simpa [left] using this

theorem lin_sound (m : Region.Mode) (ops : Array Oper) (t : Nat) :
    (∀ i, i ∈ linearise m ops t → i < ops.size) ∧ (linearise m ops t).Nodup ∧ ∀ pre i suf, linearise m ops t = pre ++ i :: suf → ∀ o, ops[i]? = some o → ∀ e ∈ o.after, binds m e = true → e.on ∈ pre := by
  refine go_sound m ops ops.size t _ [] (by simp) (fun i => ?_) List.nodup_nil (fun pre i suf h => by simp at h)
  simp only [List.not_mem_nil, false_iff, not_and]
  intro hi
  simp [Array.getD_eq_getD_getElem?, hi]

theorem lin_all (m : Region.Mode) (ops : Array Oper) (t : Nat) (prog : ∀ listed : Array Bool, listed.size = ops.size → (∃ i, i < ops.size ∧ listed.getD i true = false) → ∃ i, i < ops.size ∧ may m ops listed i) :
    ∀ i, i < ops.size → i ∈ linearise m ops t := by
  refine go_all m ops prog ops.size t _ [] (by simp) (left_length _ _) fun i hi hg => ?_
  simp [Array.getD_eq_getD_getElem?, hi] at hg

/-- Every edge points back, or binds the one compiler's order alone. -/
def Back (ops : Array Oper) : Prop := ∀ i o, ops[i]? = some o → ∀ e ∈ o.after, e.on < i ∨ binds .any e = false ∧ binds .text e = false

theorem least {p : Nat → Prop} [DecidablePred p] : ∀ (n : Nat), (∃ i, i < n ∧ p i) → ∃ i, i < n ∧ p i ∧ ∀ j, j < i → ¬ p j
  | 0, ⟨_, h, _⟩ => absurd h (by omega)
  | n + 1, h => by
    by_cases h' : ∃ i, i < n ∧ p i
    · obtain ⟨i, h1, h2, h3⟩ := least n h'
      exact ⟨i, by omega, h2, h3⟩
    · obtain ⟨i, h1, h2⟩ := h
      refine ⟨i, h1, h2, fun j hj hp => h' ⟨j, by omega, hp⟩⟩

theorem prog_back {m : Region.Mode} {ops : Array Oper} (hb : ∀ i o, ops[i]? = some o → ∀ e ∈ o.after, binds m e = true → e.on < i) :
    ∀ listed : Array Bool, listed.size = ops.size → (∃ i, i < ops.size ∧ listed.getD i true = false) → ∃ i, i < ops.size ∧ may m ops listed i := by
  intro listed hs hex
  obtain ⟨i, h1, h2, h3⟩ := least ops.size hex
  refine ⟨i, h1, h2, ops[i], Array.getElem?_eq_getElem h1, fun e he hbe => ?_⟩
  have hlt := hb i _ (Array.getElem?_eq_getElem h1) e he hbe
  have hsz : e.on < listed.size := by omega
  have := h3 e.on hlt
  simp only [Array.getD_eq_getD_getElem?, Array.getElem?_eq_getElem hsz, Option.getD_some, Bool.not_eq_false] at this ⊢
  exact this

theorem first_of {p : Nat → Prop} [DecidablePred p] : ∀ (L : List Nat), (∃ i ∈ L, p i) → ∃ pre i suf, L = pre ++ i :: suf ∧ p i ∧ ∀ j ∈ pre, ¬ p j
  | [], ⟨_, h, _⟩ => by cases h
  | x :: L, h => by
    by_cases hx : p x
    · exact ⟨[], x, L, rfl, hx, fun j hj => by cases hj⟩
    · obtain ⟨i, h1, h2⟩ := h
      rcases List.mem_cons.1 h1 with rfl | h1
      · exact absurd h2 hx
      · obtain ⟨pre, j, suf, rfl, h3, h4⟩ := first_of L ⟨i, h1, h2⟩
        refine ⟨x :: pre, j, suf, rfl, h3, fun y hy => ?_⟩
        rcases List.mem_cons.1 hy with rfl | hy
        · exact hx
        · exact h4 y hy

theorem prog_cert {m : Region.Mode} {ops : Array Oper} (hc : (linearise m ops 0).length = ops.size) :
    ∀ listed : Array Bool, listed.size = ops.size → (∃ i, i < ops.size ∧ listed.getD i true = false) → ∃ i, i < ops.size ∧ may m ops listed i := by
  intro listed hs hex
  obtain ⟨h1, h2, h3⟩ := lin_sound m ops 0
  have hall : ∀ i, i < ops.size → i ∈ linearise m ops 0 := by
    intro i hi
    refine Classical.byContradiction fun hn => ?_
    have hnd : (i :: linearise m ops 0).Nodup := List.nodup_cons.2 ⟨hn, h2⟩
    have := List.Nodup.length_le_of_subset (l₂ := List.range ops.size) hnd fun j hj => by
      rcases List.mem_cons.1 hj with rfl | hj
      · exact List.mem_range.2 hi
      · exact List.mem_range.2 (h1 j hj)
    simp at this
    omega
  obtain ⟨i, hi, hf⟩ := hex
  obtain ⟨pre, j, suf, heq, h4, h5⟩ := first_of (p := fun i => listed.getD i true = false) _ ⟨i, hall i hi, hf⟩
  have hj : j < ops.size := h1 j (by rw [heq]; simp)
  refine ⟨j, hj, h4, ops[j], Array.getElem?_eq_getElem hj, fun e he hbe => ?_⟩
  have hm := h3 pre j suf heq _ (Array.getElem?_eq_getElem hj) e he hbe
  have := h5 _ hm
  have hsz : e.on < listed.size := by
    have := h1 e.on (by rw [heq]; simp [hm])
    omega
  simp only [Array.getD_eq_getD_getElem?, Array.getElem?_eq_getElem hsz, Option.getD_some, Bool.not_eq_false] at this ⊢
  exact this

/-- The model's order of a region that draws. -/
theorem schedule_topo {ops : Array Oper} (hb : Back ops) (hc : departs ops = true → (linearise .gc ops 0).length = ops.size) (mixed : Bool) (t : Nat) : Topo ops (schedule mixed ops t) := by
  have key : ∀ (m : Region.Mode) (t : Nat), (∀ listed : Array Bool, listed.size = ops.size → (∃ i, i < ops.size ∧ listed.getD i true = false) → ∃ i, i < ops.size ∧ may m ops listed i) → Topo ops (linearise m ops t) := by
    intro m t hp
    obtain ⟨h1, h2, h3⟩ := lin_sound m ops t
    exact ⟨fun i => ⟨h1 i, lin_all m ops t hp i⟩, h2, fun pre i suf h o ho e he hbe => h3 pre i suf h o ho e he (binds_any hbe)⟩
  have hany : ∀ i o, ops[i]? = some o → ∀ e ∈ o.after, binds .any e = true → e.on < i := fun i o ho e he hbe => by
    rcases hb i o ho e he with h | ⟨h, _⟩
    · exact h
    · rw [h] at hbe; cases hbe
  have htext : ∀ i o, ops[i]? = some o → ∀ e ∈ o.after, binds .text e = true → e.on < i := fun i o ho e he hbe => by
    rcases hb i o ho e he with h | ⟨_, h⟩
    · exact h
    · rw [h] at hbe; cases hbe
  unfold schedule
  split
  · exact key _ _ (prog_back hany)
  · next hd =>
    split
    · exact key _ _ (prog_back htext)
    · refine key _ _ (prog_cert (hc ?_))
      simp only [Bool.or_eq_true, Bool.not_eq_true', not_or, Bool.not_eq_false] at hd
      exact hd.2
end Go.Ab
