/- The evaluator of small memories: a part (AbDraw). -/
import Derived.Test.YtcngigfjdlgfbaaGreatDoorAbCongr
import Derived.Test.YtcngigfjdlgfbaaGreatDoorAbOrder
namespace Go.Ab
open Go
variable {P : Program} {gl : Nat → Bool}

theorem eqL_sound {e : Value → Value → Bool} (he : ∀ a b, e a b = true → a = b) : ∀ {x y : List Value}, eqL e x y = true → x = y
  | [], [], _ => rfl
  | [], _ :: _, h => by simp [eqL] at h
  | _ :: _, [], h => by simp [eqL] at h
  | a :: x, b :: y, h => by
    simp only [eqL, Bool.and_eq_true] at h
    rw [he a b h.1, eqL_sound he h.2]

theorem vEq_sound : ∀ (d : Nat) (a b : Value), vEq d a b = true → a = b
  | 0, _, _, h => by simp [vEq] at h
  | d + 1, a, b, h => by
    have ih := vEq_sound d
    have hl : ∀ {x y : Array Value}, eqL (vEq d) x.toList y.toList = true → x = y := fun hxy => Array.ext' (eqL_sound ih hxy)
    unfold vEq at h
    split at h
    · simpa using h
    · simp only [Bool.and_eq_true, decide_eq_true_eq] at h; rw [h.1, h.2]
    · next x y =>
      simp only [decide_eq_true_eq] at h
      have : x = y := by
        obtain ⟨x⟩ := x; obtain ⟨y⟩ := y
        congr 1
        exact Array.ext' h
      rw [this]
    · rfl
    · simp only [Bool.and_eq_true, decide_eq_true_eq] at h; rw [h.1, h.2]
    · simp only [Bool.and_eq_true, decide_eq_true_eq] at h; rw [h.1, h.2]
    · simp only [Bool.and_eq_true, decide_eq_true_eq] at h; rw [h.1.1.1, h.1.1.2, h.1.2, h.2]
    · rfl
    · simp only [decide_eq_true_eq] at h; rw [h]
    · rfl
    · rfl
    · simp only [Bool.and_eq_true, decide_eq_true_eq] at h; rw [h.1.1, hl h.1.2, hl h.2]
    · simp only [Bool.and_eq_true, decide_eq_true_eq] at h; rw [h.1, ih _ _ h.2]
    · rw [hl h]
    · rw [hl h]
    · cases h

/-- What stands before what, in every order. -/
structure Ordd (ops : Array Oper) (bf : Nat → Nat → Bool) : Prop where
  lt : ∀ j i, bf j i = true → i < j
  trans : ∀ k j i, bf k j = true → bf j i = true → bf k i = true
  topo : ∀ L, Topo ops L → ∀ pre j suf, L = pre ++ j :: suf → ∀ i, bf j i = true → i ∈ pre
  names : ∀ (j : Nat) (o : Oper) (t : Tmp), ops[j]? = some o → Operand.tmp t ∈ o.op.operands → ∀ (i : Nat) (o' : Oper), ops[i]? = some o' → o'.dst = some t → i = j ∨ bf j i = true ∨ bf i j = true
  guards : ∀ (j : Nat) (o : Oper) (i : Nat) (b : Bool), ops[j]? = some o → o.guard = some (i, b) → bf j i = true
  uniq : ∀ (i j : Nat) (o o' : Oper) (t : Tmp), ops[i]? = some o → ops[j]? = some o' → o.dst = some t → o'.dst = some t → i = j

abbrev DSt := List Value × Heap × List (Nat × Blk)

/-- One operation of the order of the text. -/
def One (P : Program) (gl : Nat → Bool) (cf : CallF) (ops : Array Oper) (bf : Nat → Nat → Bool) (base j : Nat) (o : Oper) (s : DSt) (e : Ent) (s' : DSt) : Prop :=
  match e with
  | .skip => wantedL ops s.1 o = some false ∧ s' = (putL s.1 o.dst undef, s.2.1, s.2.2)
  | .pure v => wantedL ops s.1 o = some true ∧ opPure P (ev gl s.1) o = some v ∧ s' = (putL s.1 o.dst v, s.2.1, s.2.2)
  | .read v => wantedL ops s.1 o = some true ∧ opRead P (ev gl s.1) o s.2.1 = some v ∧ s' = (putL s.1 o.dst v, s.2.1, s.2.2)
  | .alloc B v => wantedL ops s.1 o = some true ∧ (∃ f, opAlloc P (ev gl s.1) o = some (B, f) ∧ v = f (base + j)) ∧ s' = (putL s.1 o.dst v, s.2.1, (j, B) :: s.2.2)
  | .eff v h' => wantedL ops s.1 o = some true ∧ (∃ u, opEff P cf (ev gl s.1) o (setAll s.2.1 base (s.2.2.filter fun p => bf j p.1)) = some (v, u) ∧ h' = u.app (setAll s.2.1 base (s.2.2.filter fun p => bf j p.1))) ∧
      s' = (putL s.1 o.dst v, h', s.2.2.filter fun p => !bf j p.1)

theorem drawOps_states {cf : CallF} {ops : Array Oper} {bf : Nat → Nat → Bool} {base : Nat} : ∀ (rest : List Oper) (j : Nat) (s : DSt) (recs : List (List Value × Ent)) (out : DSt),
    drawOps P gl cf ops bf base rest j s.1 s.2.1 s.2.2 = some (recs, out) → ∃ (st : Nat → DSt) (en : Nat → Ent), st j = s ∧ st (j + rest.length) = out ∧ recs.length = rest.length ∧
      ∀ i o, rest[i]? = some o → One P gl cf ops bf base (j + i) o (st (j + i)) (en (j + i)) (st (j + i + 1)) ∧ recs[i]? = some ((st (j + i)).1, en (j + i))
  | [], j, s, recs, out, h => by
    simp only [drawOps, Option.some.injEq, Prod.mk.injEq] at h
    obtain ⟨rfl, rfl⟩ := h
    exact ⟨fun _ => s, fun _ => .skip, rfl, rfl, rfl, fun i o ho => by simp at ho⟩
  | o :: rest, j, s, recs, out, h => by
    have key : ∀ (e : Ent) (s' : DSt) (r : List (List Value × Ent) × DSt), One P gl cf ops bf base j o s e s' → drawOps P gl cf ops bf base rest (j + 1) s'.1 s'.2.1 s'.2.2 = some r → ((s.1, e) :: r.1, r.2) = (recs, out) →
        ∃ (st : Nat → DSt) (en : Nat → Ent), st j = s ∧ st (j + (o :: rest).length) = out ∧ recs.length = (o :: rest).length ∧
          ∀ i o', (o :: rest)[i]? = some o' → One P gl cf ops bf base (j + i) o' (st (j + i)) (en (j + i)) (st (j + i + 1)) ∧ recs[i]? = some ((st (j + i)).1, en (j + i)) := by
      intro e s' r hone hr heq
      obtain ⟨st, en, h1, h2, h3, h4⟩ := drawOps_states rest (j + 1) s' r.1 r.2 hr
      simp only [Prod.mk.injEq] at heq
      obtain ⟨rfl, rfl⟩ := heq
      refine ⟨fun i => if i = j then s else st i, fun i => if i = j then e else en i, by simp, ?_, by simp [h3], ?_⟩
      · have hne : ¬ j + (o :: rest).length = j := by simp only [List.length_cons]; omega
        simp only [if_neg hne]
        rw [← h2]; congr 1; simp only [List.length_cons]; omega
      · intro i o' ho
        cases i with
        | zero =>
          simp only [List.getElem?_cons_zero, Option.some.injEq] at ho
          subst ho
          simp only [Nat.add_zero, if_true, List.getElem?_cons_zero, and_true]
          rw [if_neg (by omega), h1]
          exact hone
        | succ i =>
          simp only [List.getElem?_cons_succ] at ho ⊢
          obtain ⟨h5, h6⟩ := h4 i o' ho
          simp only [if_neg (show ¬ j + (i + 1) = j by omega), if_neg (show ¬ j + (i + 1) + 1 = j by omega)]
          rw [show j + (i + 1) = j + 1 + i by omega]
          exact ⟨h5, h6⟩
    simp only [drawOps] at h
    split at h
    · cases h
    · next hw =>
      obtain ⟨r, hr, he⟩ := Option.map_eq_some_iff.1 h
      exact key .skip (putL s.1 o.dst undef, s.2.1, s.2.2) r ⟨hw, rfl⟩ hr he
    · next hw =>
      split at h
      · next v hv =>
        obtain ⟨r, hr, he⟩ := Option.map_eq_some_iff.1 h
        exact key (.pure v) (putL s.1 o.dst v, s.2.1, s.2.2) r ⟨hw, hv, rfl⟩ hr he
      · split at h
        · next v hv =>
          obtain ⟨r, hr, he⟩ := Option.map_eq_some_iff.1 h
          exact key (.read v) (putL s.1 o.dst v, s.2.1, s.2.2) r ⟨hw, hv, rfl⟩ hr he
        · split at h
          · next B f hv =>
            obtain ⟨r, hr, he⟩ := Option.map_eq_some_iff.1 h
            exact key (.alloc B (f (base + j))) (putL s.1 o.dst (f (base + j)), s.2.1, (j, B) :: s.2.2) r ⟨hw, ⟨f, hv, rfl⟩, rfl⟩ hr he
          · split at h
            · next v u hv =>
              obtain ⟨r, hr, he⟩ := Option.map_eq_some_iff.1 h
              exact key (.eff v _) (putL s.1 o.dst v, _, _) r ⟨hw, ⟨u, hv, rfl⟩, rfl⟩ hr he
            · cases h

def Ent.isEff : Ent → Bool
  | .eff .. => true
  | _ => false

/-- The states of the order of the text, and what was checked. -/
structure Run (P : Program) (gl : Nat → Bool) (cf : CallF) (ops : Array Oper) (bf : Nat → Nat → Bool) (base : Nat) (st : Nat → DSt) (en : Nat → Ent) : Prop where
  one : ∀ i o, ops[i]? = some o → One P gl cf ops bf base i o (st i) (en i) (st (i + 1))
  chain : ∀ e₁ e₂, e₁ < e₂ → e₂ < ops.size → (en e₁).isEff = true → (en e₂).isEff = true → bf e₂ e₁ = true
  reads : ∀ j o v, ops[j]? = some o → en j = .read v → ∀ c, c ≤ ops.size → (∀ e, e < c → (en e).isEff = true → bf e j = false) → (∀ e, c ≤ e → e < ops.size → (en e).isEff = true → bf j e = false) →
    opRead P (ev gl (st j).1) o (st c).2.1 = some v

section
variable {cf : CallF} {ops : Array Oper} {bf : Nat → Nat → Bool} {base : Nat} {st : Nat → DSt} {en : Nat → Ent}

theorem One.heap {j : Nat} {o : Oper} {s s' : DSt} {e : Ent} (h : One P gl cf ops bf base j o s e s') : (∀ v h', e = .eff v h' → s'.2.1 = h') ∧ (e.isEff = false → s'.2.1 = s.2.1) := by
  cases e <;> simp only [One] at h
  · exact ⟨(fun v h' he => by cases he), fun _ => by rw [h.2]⟩
  · exact ⟨(fun v h' he => by cases he), fun _ => by rw [h.2.2]⟩
  · exact ⟨(fun v h' he => by cases he), fun _ => by rw [h.2.2]⟩
  · exact ⟨(fun v h' he => by cases he), fun _ => by rw [h.2.2]⟩
  · exact ⟨(fun v h' he => by cases he; rw [h.2.2]), fun he => by simp [Ent.isEff] at he⟩

theorem One.tm {j : Nat} {o : Oper} {s s' : DSt} {e : Ent} (h : One P gl cf ops bf base j o s e s') : s'.1 = putL s.1 o.dst e.val := by
  cases e <;> simp only [One] at h
  · rw [h.2]; rfl
  · rw [h.2.2]; rfl
  · rw [h.2.2]; rfl
  · rw [h.2.2]; rfl
  · rw [h.2.2]; rfl

theorem chained_head (trans : ∀ k j i, bf k j = true → bf j i = true → bf k i = true) : ∀ (recs : List (List Value × Ent)) (i x : Nat) (hx : Heap), chained bf ((x, hx) :: effsOf recs i) = true →
    ∀ k r, recs[k]? = some r → r.2.isEff = true → bf (i + k) x = true
  | [], i, x, hx, h, k, r, hr, he => by simp at hr
  | (tm, e) :: recs, i, x, hx, h, k, r, hr, he => by
    cases e with
    | eff v h' =>
      simp only [effsOf, chained, Bool.and_eq_true] at h
      cases k with
      | zero => exact h.1
      | succ k =>
        have := chained_head trans recs (i + 1) i h' h.2 k r (by simpa using hr) he
        rw [show i + (k + 1) = i + 1 + k by omega]
        exact trans _ _ _ this h.1
    | _ =>
      simp only [effsOf] at h
      cases k with
      | zero =>
        simp only [List.getElem?_cons_zero, Option.some.injEq] at hr
        subst hr
        simp [Ent.isEff] at he
      | succ k =>
        have := chained_head trans recs (i + 1) x hx h k r (by simpa using hr) he
        rw [show i + (k + 1) = i + 1 + k by omega]
        exact this

theorem chained_tail {x : Nat × Heap} {l : List (Nat × Heap)} (h : chained bf (x :: l) = true) : chained bf l = true := by
  cases l with
  | nil => rfl
  | cons y l => simp only [chained, Bool.and_eq_true] at h; exact h.2

theorem chained_sound (trans : ∀ k j i, bf k j = true → bf j i = true → bf k i = true) : ∀ (recs : List (List Value × Ent)) (i : Nat), chained bf (effsOf recs i) = true →
    ∀ k₁ k₂ r₁ r₂, k₁ < k₂ → recs[k₁]? = some r₁ → recs[k₂]? = some r₂ → r₁.2.isEff = true → r₂.2.isEff = true → bf (i + k₂) (i + k₁) = true
  | [], i, h, k₁, k₂, r₁, r₂, hlt, h1, h2, e1, e2 => by simp at h1
  | (tm, e) :: recs, i, h, k₁, k₂, r₁, r₂, hlt, h1, h2, e1, e2 => by
    cases k₂ with
    | zero => omega
    | succ k₂ =>
      have h2' : recs[k₂]? = some r₂ := by simpa using h2
      cases k₁ with
      | zero =>
        simp only [List.getElem?_cons_zero, Option.some.injEq] at h1
        subst h1
        cases e with
        | eff v h' =>
          simp only [effsOf] at h
          have := chained_head trans recs (i + 1) i h' h k₂ r₂ h2' e2
          rw [show i + (k₂ + 1) = i + 1 + k₂ by omega]
          exact this
        | _ => simp [Ent.isEff] at e1
      | succ k₁ =>
        have ht : chained bf (effsOf recs (i + 1)) = true := by
          cases e with
          | eff v h' => simp only [effsOf] at h; exact chained_tail h
          | _ => simpa only [effsOf] using h
        have := chained_sound trans recs (i + 1) ht k₁ k₂ r₁ r₂ (by omega) (by simpa using h1) h2' e1 e2
        rw [show i + (k₂ + 1) = i + 1 + k₂ by omega, show i + (k₁ + 1) = i + 1 + k₁ by omega]
        exact this

theorem sameRead_sound {o : Oper} {tm : List Value} {v : Value} {h : Heap} (hs : sameRead P gl o tm v h = true) : opRead P (ev gl tm) o h = some v := by
  unfold sameRead at hs
  split at hs
  · next v' hv' => rw [vEq_sound _ _ _ hs]; exact hv'
  · cases hs

theorem readAt_sound {j : Nat} {o : Oper} {tm : List Value} {v : Value} {N : Nat} (hj : j < N) (hown : ∀ c, c ≤ N → (∀ e, j ≤ e → e < c → (en e).isEff = false) → (∀ e, c ≤ e → e < j → (en e).isEff = false) → opRead P (ev gl tm) o (st c).2.1 = some v) :
    ∀ (recs : List (List Value × Ent)) (i : Nat) (own : Bool), (∀ k r, recs[k]? = some r → r.2 = en (i + k)) → i + recs.length = N →
    (∀ k, i ≤ k → k < i + recs.length → (∀ v h', en k = .eff v h' → (st (k + 1)).2.1 = h') ∧ ((en k).isEff = false → (st (k + 1)).2.1 = (st k).2.1)) →
    (own = true → ∀ e, j ≤ e → e < i → (en e).isEff = false) →
    readAt P gl bf j o tm v (st i).2.1 (effsOf recs i) own = true → ∀ c, i ≤ c → c ≤ i + recs.length → (∀ e, i ≤ e → e < c → (en e).isEff = true → bf e j = false) →
    (∀ e, c ≤ e → e < i + recs.length → (en e).isEff = true → bf j e = false) → opRead P (ev gl tm) o (st c).2.1 = some v
  | [], i, own, hen, hN, hst, hp, h, c, h1, h2, h3, h4 => by
    simp only [effsOf, readAt, Bool.or_eq_true] at h
    simp only [List.length_nil] at h2 hN
    obtain rfl : c = i := by omega
    rcases h with h | h
    · exact hown c (by omega) (hp h) (fun e he1 he2 => by omega)
    · exact sameRead_sound h
  | (tm', e) :: recs, i, own, hen, hN, hst, hp, h, c, h1, h2, h3, h4 => by
    simp only [List.length_cons] at h2 h4 hst hN
    have he : e = en i := hen 0 (tm', e) rfl
    have hen' : ∀ k r, recs[k]? = some r → r.2 = en (i + 1 + k) := fun k r hr => by
      rw [show i + 1 + k = i + (k + 1) by omega]; exact hen (k + 1) r (by simpa using hr)
    have hst' : ∀ k, i + 1 ≤ k → k < i + 1 + recs.length → _ := fun k hk1 hk2 => hst k (by omega) (by omega)
    cases hef : e.isEff with
    | true =>
      cases e with
      | eff u h' =>
        simp only [effsOf, readAt, Bool.and_eq_true, Bool.or_eq_true] at h
        have hi := (hst i (by omega) (by omega)).1 u h' he.symm
        by_cases hc : c = i
        · subst hc
          rcases h.1 with (h5 | h5) | h5
          · have hlt : j < c := by simpa [Nat.blt_eq] using h5.2
            exact hown c (by omega) (hp h5.1) (fun e he1 he2 => by omega)
          · rw [h4 c (by omega) (by omega) (by rw [← he]; rfl)] at h5; cases h5
          · exact sameRead_sound h5
        · rcases h.2 with h5 | h5
          · rw [h3 i (by omega) (by omega) (by rw [← he]; rfl)] at h5; cases h5
          · rw [← hi] at h5
            refine readAt_sound hj hown recs (i + 1) _ hen' (by omega) hst' ?_ h5 c (by omega) (by omega) (fun e he1 he2 => h3 e (by omega) he2) (fun e he1 he2 => h4 e he1 (by omega))
            intro hlt e he1 he2
            have hlt : i < j := by simpa [Nat.blt_eq] using hlt
            omega
      | _ => simp [Ent.isEff] at hef
    | false =>
      have hi := (hst i (by omega) (by omega)).2 (by rw [← he]; exact hef)
      have h5 : readAt P gl bf j o tm v (st (i + 1)).2.1 (effsOf recs (i + 1)) own = true := by
        rw [hi]
        cases e with
        | eff u h' => simp [Ent.isEff] at hef
        | _ => simpa only [effsOf] using h
      have hp' : own = true → ∀ e, j ≤ e → e < i + 1 → (en e).isEff = false := fun ho e' he1 he2 => by
        rcases Nat.lt_or_ge e' i with h6 | h6
        · exact hp ho e' he1 h6
        · obtain rfl : e' = i := by omega
          rw [← he]; exact hef
      by_cases hc : c = i
      · subst hc
        rw [← hi]
        exact readAt_sound hj hown recs (c + 1) own hen' (by omega) hst' hp' h5 (c + 1) (by omega) (by omega) (fun e he1 he2 => by omega) (fun e he1 he2 => h4 e (by omega) (by omega))
      · exact readAt_sound hj hown recs (i + 1) own hen' (by omega) hst' hp' h5 c (by omega) (by omega) (fun e he1 he2 => h3 e (by omega) he2) (fun e he1 he2 => h4 e he1 (by omega))

theorem readsAt_sound {hp : Heap} {es : List (Nat × Heap)} : ∀ (os : List Oper) (recs : List (List Value × Ent)) (j : Nat), readsAt P gl bf hp es os recs j = true →
    ∀ (i : Nat) (o : Oper) (tm : List Value) (v : Value), os[i]? = some o → recs[i]? = some (tm, .read v) → readAt P gl bf (j + i) o tm v hp es true = true
  | [], _, _, _, i, o, tm, v, ho, _ => by simp at ho
  | _ :: _, [], _, _, i, o, tm, v, _, hr => by simp at hr
  | o' :: os, (tm', e) :: recs, j, h, i, o, tm, v, ho, hr => by
    have ht : readsAt P gl bf hp es os recs (j + 1) = true := by
      cases e <;> simp only [readsAt, Bool.and_eq_true] at h <;> first | exact h | exact h.2
    cases i with
    | zero =>
      simp only [List.getElem?_cons_zero, Option.some.injEq, Prod.mk.injEq] at ho hr
      obtain ⟨rfl, rfl⟩ := hr
      subst ho
      simp only [readsAt, Bool.and_eq_true] at h
      exact h.1
    | succ i =>
      have := readsAt_sound os recs (j + 1) ht i o tm v (by simpa using ho) (by simpa using hr)
      rw [show j + (i + 1) = j + 1 + i by omega]
      exact this

/-- What a run of the order of the text shows. -/
theorem drawRun_run (hO : Ordd ops bf) {tm tm' : List Value} {h h' : Heap} (hr : drawRun P gl cf ops bf tm h = some (tm', h')) :
    ∃ st en, Run P gl cf ops bf h.next st en ∧ st 0 = (tm, { h with next := h.next + ops.size }, []) ∧ (st ops.size).1 = tm' ∧ h' = setAll (st ops.size).2.1 h.next (st ops.size).2.2 := by
  unfold drawRun at hr
  split at hr
  · next recs tm2 h2 pd hd =>
    split at hr
    · next hck =>
      simp only [Bool.and_eq_true] at hck
      simp only [Option.some.injEq, Prod.mk.injEq] at hr
      obtain ⟨rfl, rfl⟩ := hr
      obtain ⟨st, en, h1, h2', h3, h4⟩ := drawOps_states (P := P) (gl := gl) (cf := cf) ops.toList 0 (tm, { h with next := h.next + ops.size }, []) recs (tm2, h2, pd) hd
      simp only [Nat.zero_add, Array.length_toList, Array.getElem?_toList] at h2' h3 h4
      refine ⟨st, en, ⟨fun i o ho => (h4 i o ho).1, ?_, ?_⟩, h1, by rw [h2'], by rw [h2']⟩
      · intro e₁ e₂ hlt hsz i1 i2
        have := chained_sound hO.trans recs 0 hck.1 e₁ e₂ _ _ hlt (h4 e₁ _ (Array.getElem?_eq_getElem (by omega))).2 (h4 e₂ _ (Array.getElem?_eq_getElem hsz)).2 i1 i2
        simpa using this
      · intro j o v ho hen c hc hb1 hb2
        have hrec := (h4 j o ho).2
        rw [hen] at hrec
        have h5 := readsAt_sound ops.toList recs 0 hck.2 j o _ v (by simpa using ho) hrec
        rw [Nat.zero_add] at h5
        have h0 : (st 0).2.1 = { h with next := h.next + ops.size } := by rw [h1]
        rw [← h0] at h5
        have hheap : ∀ c d, c + d ≤ ops.size → (∀ e, c ≤ e → e < c + d → (en e).isEff = false) → (st (c + d)).2.1 = (st c).2.1 := by
          intro c d
          induction d with
          | zero => intros; rfl
          | succ d ih =>
            intro hs hn
            have := ((h4 (c + d) _ (Array.getElem?_eq_getElem (by omega))).1).heap.2 (hn (c + d) (by omega) (by omega))
            rw [show c + (d + 1) = c + d + 1 by omega, this]
            exact ih (by omega) fun e he1 he2 => hn e he1 (by omega)
        have hjs : j < ops.size := (Array.getElem?_eq_some_iff.1 ho).1
        have hone := (h4 j o ho).1
        rw [hen] at hone
        simp only [One] at hone
        refine readAt_sound (st := st) (en := en) hjs ?_ recs 0 true (fun k r hk => by
            have hlt : k < ops.size := by rw [← h3]; exact (List.getElem?_eq_some_iff.1 hk).1
            have := (h4 k _ (Array.getElem?_eq_getElem hlt)).2
            rw [this] at hk
            obtain rfl := Option.some.inj hk
            simp) (by omega)
          (fun k _ hk => by
            have hlt : k < ops.size := by omega
            exact ((h4 k _ (Array.getElem?_eq_getElem hlt)).1).heap) (fun _ e _ he => by omega) h5 c (by omega) (by omega) (fun e _ => hb1 e) (fun e he1 he2 => hb2 e he1 (by omega))
        intro c hc hn1 hn2
        rcases Nat.lt_or_ge j c with hlt | hge
        · have := hheap j (c - j) (by omega) fun e he1 he2 => hn1 e he1 (by omega)
          rw [show j + (c - j) = c by omega] at this
          rw [this]; exact hone.2.1
        · have := hheap c (j - c) (by omega) fun e he1 he2 => hn2 e he1 (by omega)
          rw [show c + (j - c) = j by omega] at this
          rw [← this]; exact hone.2.1
    · cases hr
  · cases hr
end
end Go.Ab
