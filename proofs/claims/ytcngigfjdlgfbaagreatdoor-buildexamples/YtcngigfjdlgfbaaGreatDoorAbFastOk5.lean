/- The evaluator of small memories: a part (AbFastOk5). -/
import Derived.Test.YtcngigfjdlgfbaaGreatDoorAbFastOk4
namespace Go.Ab
open Go
variable {cx : Cx} {cf : CallF}

theorem setAllK_eq (base : Nat) : ∀ (l : List (Nat × Blk)) (h : Heap) (K : Heap → Bool), setAllK base l h K = K (setAll h base l)
  | [], _, _ => rfl
  | (i, B) :: l, h, K => by
    show setAllK base l h (fun h => HT.setK (some B) (pathOf (base + i)) h.t fun t => K ⟨h.next, t⟩) = _
    rw [setAllK_eq base l h, HT.setK_eq]; rfl

theorem cls_pure {P : Program} {ρ : Operand → Value} {o : Oper} {h : Heap} {r : Value × Upd} (hc : clsF o.op = .p) (hr : opRun P cf ρ o h = some r) : opPure P ρ o = some r.1 ∧ r.2 = .no := by
  obtain ⟨dst, op, ty, pos, after, guard⟩ := o
  unfold opRun at hr
  cases hp : opPure P ρ ⟨dst, op, ty, pos, after, guard⟩ with
  | some v => rw [hp] at hr; obtain rfl := Option.some.inj hr; exact ⟨rfl, rfl⟩
  | none =>
    rw [hp] at hr
    cases op with
    | call c =>
      obtain ⟨callee, args, ats⟩ := c
      cases callee with
      | builtin b => cases b <;> exact nomatch hc
      | _ => exact nomatch hc
    | _ => first | (change (none : Option (Value × Upd)) = some r at hr; exact nomatch hr) | cases hc

theorem cls_read {P : Program} {ρ : Operand → Value} {o : Oper} {h : Heap} {r : Value × Upd} (hc : clsF o.op = .r) (hr : opRun P cf ρ o h = some r) : opPure P ρ o = none ∧ opRead P ρ o h = some r.1 ∧ r.2 = .no := by
  obtain ⟨dst, op, ty, pos, after, guard⟩ := o
  have key : opPure P ρ ⟨dst, op, ty, pos, after, guard⟩ = none → (opRead P ρ ⟨dst, op, ty, pos, after, guard⟩ h = none → opRun P cf ρ ⟨dst, op, ty, pos, after, guard⟩ h = none) → opPure P ρ ⟨dst, op, ty, pos, after, guard⟩ = none ∧ opRead P ρ ⟨dst, op, ty, pos, after, guard⟩ h = some r.1 ∧ r.2 = .no := fun h1 h2 => by
    refine ⟨h1, ?_⟩
    cases hrd : opRead P ρ ⟨dst, op, ty, pos, after, guard⟩ h with
    | none => rw [h2 hrd] at hr; cases hr
    | some v =>
      unfold opRun at hr
      rw [h1, hrd] at hr
      obtain rfl := Option.some.inj hr
      exact ⟨rfl, rfl⟩
  cases op with
  | load t a => exact key rfl fun h2 => by unfold opRun; rw [h2]; rfl
  | call c =>
    obtain ⟨callee, args, ats⟩ := c
    cases callee with
    | builtin b => cases b <;> first | exact key rfl fun h2 => by unfold opRun; rw [h2]; rfl | cases hc
    | _ => exact nomatch hc
  | _ => exact nomatch hc

theorem cls_eff {P : Program} {ρ : Operand → Value} {o : Oper} {h : Heap} (hc : clsF o.op = .e) : (∀ h, opPure P ρ o = none ∧ opRead P ρ o h = none ∧ opAlloc P ρ o = none) ∧ opRun P cf ρ o h = opEff P cf ρ o h := by
  obtain ⟨dst, op, ty, pos, after, guard⟩ := o
  cases op with
  | store t a x => exact ⟨fun _ => ⟨rfl, rfl, rfl⟩, rfl⟩
  | call c =>
    obtain ⟨callee, args, ats⟩ := c
    cases callee with
    | builtin b => cases b <;> first | exact ⟨fun _ => ⟨rfl, rfl, rfl⟩, rfl⟩ | cases hc
    | value f => exact ⟨fun _ => ⟨rfl, rfl, rfl⟩, rfl⟩
    | _ => exact nomatch hc
  | _ => exact nomatch hc

theorem cls_calls {o : Oper} (hc : clsF o.op = .d) : callsValue o = false := by
  obtain ⟨dst, op, ty, pos, after, guard⟩ := o
  cases op with
  | call c =>
    obtain ⟨callee, args, ats⟩ := c
    cases callee with
    | value f => exact nomatch hc
    | _ => rfl
  | _ => rfl

/-- What one operation of a drawing region comes to. -/
noncomputable def drawOne (P : Program) (cf : CallF) (bf : Nat → Nat → Bool) (base j : Nat) (o : Oper) (ρ : Operand → Value) (h : Heap) (pd : List (Nat × Blk)) : Option (Ent × Value × Heap × List (Nat × Blk)) :=
  match opPure P ρ o with
  | some v => some (.pure v, v, h, pd)
  | none => match opRead P ρ o h with
    | some v => some (.read v, v, h, pd)
    | none => match opAlloc P ρ o with
      | some (B, f) => some (.alloc B (f (base + j)), f (base + j), h, (j, B) :: pd)
      | none => match opEff P cf ρ o (setAll h base (pd.filter fun p => bf j p.1)) with
        | some (v, u) => some (.eff v (u.app (setAll h base (pd.filter fun p => bf j p.1))), v, u.app (setAll h base (pd.filter fun p => bf j p.1)), pd.filter fun p => !bf j p.1)
        | none => none

theorem dOne_ref (hcf : CfRef cx cf) {bf : Nat → Nat → Bool} {base j : Nat} {o : Oper} {ρ : Operand → Value} {h : Heap} {pd : List (Nat × Blk)} {K : EntK} :
    Ref cx.bad (dOne cx bf base j o ρ h pd K) (drawOne cx.P cf bf base j o ρ h pd) fun r => K r.1 r.2.1 r.2.2.1 r.2.2.2 := by
  unfold dOne
  cases hc : clsF o.op with
  | p =>
    rcases opF_ref hcf (ρ := ρ) (h := h) (K := fun v _ => K (.pure v) v h pd) o with h1 | ⟨r, h1, h2⟩
    · exact .inl h1
    · obtain ⟨h3, _⟩ := cls_pure hc h1
      exact .of (r := (.pure r.1, r.1, h, pd)) (by unfold drawOne; rw [h3]) h2
  | r =>
    rcases opF_ref hcf (ρ := ρ) (h := h) (K := fun v _ => K (.read v) v h pd) o with h1 | ⟨r, h1, h2⟩
    · exact .inl h1
    · obtain ⟨h3, h4, _⟩ := cls_read hc h1
      exact .of (r := (.read r.1, r.1, h, pd)) (by unfold drawOne; rw [h3, h4]) h2
  | e =>
    show Ref cx.bad (setAllK base (pd.filter fun p => bf j p.1) h fun h => opF o.op cx o ρ h fun v h' => K (.eff v h') v h' (pd.filter fun p => !bf j p.1)) _ _
    rw [setAllK_eq]
    rcases opF_ref hcf (ρ := ρ) (h := setAll h base (pd.filter fun p => bf j p.1)) (K := fun v h' => K (.eff v h') v h' (pd.filter fun p => !bf j p.1)) o with h1 | ⟨⟨v, u⟩, h1, h2⟩
    · exact .inl h1
    · obtain ⟨h3, h4⟩ := cls_eff (P := cx.P) (ρ := ρ) (cf := cf) (h := setAll h base (pd.filter fun p => bf j p.1)) hc
      obtain ⟨h5, h6, h7⟩ := h3 h
      rw [h4] at h1
      exact .of (r := (.eff v (u.app (setAll h base (pd.filter fun p => bf j p.1))), v, u.app (setAll h base (pd.filter fun p => bf j p.1)), pd.filter fun p => !bf j p.1))
        (by unfold drawOne; rw [h5, h6, h7, h1]) h2
  | d =>
    show Ref cx.bad (dGen cx bf base j o ρ h pd K) _ _
    unfold dGen drawOne
    cases hp : opPure cx.P ρ o with
    | some v => exact .of rfl (fVal_eq _ _)
    | none =>
      cases hr : opRead cx.P ρ o h with
      | some v => exact .of rfl (fVal_eq _ _)
      | none =>
        cases ha : opAlloc cx.P ρ o with
        | some r =>
          obtain ⟨B, f⟩ := r
          refine .of rfl ?_
          show fBlk B (fun B => fVal (f (base + j)) fun v => K (.alloc B v) v h ((j, B) :: pd)) = _
          rw [fBlk_eq, fVal_eq]
        | none =>
          show Ref cx.bad (setAllK base (pd.filter fun p => bf j p.1) h fun h => outF cx.bad (opEff cx.P noCf ρ o h) h fun v h' => K (.eff v h') v h' (pd.filter fun p => !bf j p.1)) _ _
          rw [setAllK_eq, opEff_noCf (cf := cf) (cls_calls hc)]
          cases he : opEff cx.P cf ρ o (setAll h base (pd.filter fun p => bf j p.1)) with
          | none => exact .bad
          | some r =>
            obtain ⟨v, u⟩ := r
            refine .of rfl ?_
            show appF u (setAll h base (pd.filter fun p => bf j p.1)) (fun h' => fVal v fun v => K (.eff v h') v h' (pd.filter fun p => !bf j p.1)) = _
            rw [appF_eq, fVal_eq]

theorem drawOps_cons {P : Program} {gl : Nat → Bool} {ops : Array Oper} {bf : Nat → Nat → Bool} {base : Nat} {o : Oper} {rest : List Oper} {j : Nat} {tm : List Value} {h : Heap} {pd : List (Nat × Blk)} (hw : wantedL ops tm o = some true)
    {r : Ent × Value × Heap × List (Nat × Blk)} (hr : drawOne P cf bf base j o (ev gl tm) h pd = some r) :
    drawOps P gl cf ops bf base (o :: rest) j tm h pd = (drawOps P gl cf ops bf base rest (j + 1) (putL tm o.dst r.2.1) r.2.2.1 r.2.2.2).map fun x => ((tm, r.1) :: x.1, x.2) := by
  unfold drawOne at hr
  simp only [drawOps, hw]
  split at hr
  · next v hp => obtain rfl := Option.some.inj hr; simp only [hp]
  · next hp =>
    simp only [hp]
    split at hr
    · next v hrd => obtain rfl := Option.some.inj hr; simp only [hrd]
    · next hrd =>
      simp only [hrd]
      split at hr
      · next B f ha => obtain rfl := Option.some.inj hr; simp only [ha]
      · next ha =>
        simp only [ha]
        split at hr
        · next v u he => obtain rfl := Option.some.inj hr; simp only [he]
        · cases hr

/-- The two records say the same. -/
inductive Recs (n : Nat) : List Oper → List RecF → List (List Value × Ent) → Prop where
  | nil : Recs n [] [] []
  | cons {o : Oper} {os : List Oper} {e : Env} {ent : Ent} {tm : List Value} {a : List RecF} {b : List (List Value × Ent)} (h : EnvRel n e tm) (r : Recs n os a b) : Recs n (o :: os) ((o, e, ent) :: a) ((tm, ent) :: b)

theorem drawOpsF_ref (hcf : CfRef cx cf) {ops : Array Oper} {bf : Nat → Nat → Bool} {base : Nat} : ∀ (l : List Oper) {j : Nat} {e : Env} {tm : List Value} {h : Heap} {pd : List (Nat × Blk)} {K : List RecF → Env → Heap → List (Nat × Blk) → Bool}, EnvRel cx.n e tm →
    drawOpsF cx ops bf base l j e h pd K = cx.bad ∨ ∃ recs tm' h' pd' recsF e', drawOps cx.P cx.gl cf ops bf base l j tm h pd = some (recs, tm', h', pd') ∧ EnvRel cx.n e' tm' ∧ Recs cx.n l recsF recs ∧ drawOpsF cx ops bf base l j e h pd K = K recsF e' h' pd'
  | [], j, e, tm, h, pd, K, hr => .inr ⟨[], tm, h, pd, [], e, rfl, hr, .nil, rfl⟩
  | o :: rest, j, e, tm, h, pd, K, hr => by
    have hu : drawOpsF cx ops bf base (o :: rest) j e h pd K = wantF ops e cx.bad o.guard
      (dOne cx bf base j o (evF cx.gl e) h pd fun ent v h pd => putF cx.n o.dst e v fun e' => drawOpsF cx ops bf base rest (j + 1) e' h pd fun recs e2 h2 pd2 => K ((o, e, ent) :: recs) e2 h2 pd2)
      (putF cx.n o.dst e undef fun e' => drawOpsF cx ops bf base rest (j + 1) e' h pd fun recs e2 h2 pd2 => K ((o, e, .skip) :: recs) e2 h2 pd2) := rfl
    rw [hu]
    rcases wantF_eq hr (ops := ops) o cx.bad (dOne cx bf base j o (evF cx.gl e) h pd fun ent v h pd => putF cx.n o.dst e v fun e' => drawOpsF cx ops bf base rest (j + 1) e' h pd fun recs e2 h2 pd2 => K ((o, e, ent) :: recs) e2 h2 pd2)
      (putF cx.n o.dst e undef fun e' => drawOpsF cx ops bf base rest (j + 1) e' h pd fun recs e2 h2 pd2 => K ((o, e, .skip) :: recs) e2 h2 pd2) with h1 | ⟨h1, h2⟩ | ⟨h1, h2⟩
    · exact .inl h1
    · rw [h2]
      rcases dOne_ref hcf (bf := bf) (base := base) (j := j) (o := o) (ρ := evF cx.gl e) (h := h) (pd := pd) (K := fun ent v h pd => putF cx.n o.dst e v fun e' => drawOpsF cx ops bf base rest (j + 1) e' h pd fun recs e2 h2 pd2 => K ((o, e, ent) :: recs) e2 h2 pd2) with h3 | ⟨⟨ent, v, h', pd'⟩, h3, h4⟩
      · exact .inl h3
      · rw [h4]
        rw [evF_eq hr] at h3
        obtain ⟨e', h5, h6⟩ := putF_eq hr o.dst v
        simp only [h6]
        rcases drawOpsF_ref hcf rest h5 (ops := ops) (bf := bf) (base := base) (j := j + 1) (h := h') (pd := pd') (K := fun recs e2 h2 pd2 => K ((o, e, ent) :: recs) e2 h2 pd2) with h7 | ⟨recs, tm', h'', pd'', recsF, e'', h7, h8, h9, h10⟩
        · exact .inl h7
        · refine .inr ⟨_, _, _, _, _, _, ?_, h8, .cons hr h9, h10⟩
          rw [drawOps_cons h1 h3, h7]; rfl
    · rw [h2]
      obtain ⟨e', h5, h6⟩ := putF_eq hr o.dst undef
      rw [h6]
      rcases drawOpsF_ref hcf rest h5 (ops := ops) (bf := bf) (base := base) (j := j + 1) (h := h) (pd := pd) (K := fun recs e2 h2 pd2 => K ((o, e, .skip) :: recs) e2 h2 pd2) with h7 | ⟨recs, tm', h'', pd'', recsF, e'', h7, h8, h9, h10⟩
      · exact .inl h7
      · refine .inr ⟨_, _, _, _, _, _, ?_, h8, .cons hr h9, h10⟩
        simp only [drawOps, h1, h7]; rfl

theorem effsF_eq {n : Nat} {os : List Oper} {a : List RecF} {b : List (List Value × Ent)} (h : Recs n os a b) : ∀ j, effsF a j = effsOf b j := by
  induction h with
  | nil => intro j; rfl
  | cons _ _ ih =>
    rename_i o os e ent tm a b _ _
    intro j
    show effE ent j (effsF a (j + 1)) = _
    rw [ih]
    cases ent <;> rfl

theorem chainF_eq (bf : Nat → Nat → Bool) : ∀ (l : List (Nat × Heap)) (p : Option Nat), chainF bf l p = (match p, l with | some i, (j, _) :: _ => bf j i && chained bf l | _, _ => chained bf l)
  | [], p => by cases p <;> rfl
  | (j, h) :: l, p => by
    have ih := chainF_eq bf l (some j)
    have hc : chained bf ((j, h) :: l) = chainF bf l (some j) := by
      rw [ih]
      cases l with
      | nil => rfl
      | cons x l => rfl
    cases p with
    | none => show chainF bf l (some j) = _; exact hc.symm
    | some i =>
      show cnd (bf j i) (chainF bf l (some j)) false = (bf j i && chained bf ((j, h) :: l))
      rw [hc]
      cases bf j i <;> rfl

theorem sameF_eq {P : Program} {gl : Nat → Bool} {o : Oper} {tm : List Value} {v : Value} {h : Heap} : sameF P o (ev gl tm) v h = sameRead P gl o tm v h := by
  unfold sameF sameRead
  cases opRead P (ev gl tm) o h <;> rfl

theorem readAtF_eq {P : Program} {gl : Nat → Bool} {bf : Nat → Nat → Bool} {j : Nat} {o : Oper} {tm : List Value} {v : Value} : ∀ (es : List (Nat × Heap)) (h : Heap) (own : Bool), readAtF P bf j o (ev gl tm) v es h own = readAt P gl bf j o tm v h es own
  | [], h, own => by
    show cnd own true (sameF P o (ev gl tm) v h) = (own || sameRead P gl o tm v h)
    rw [sameF_eq]; cases own <;> rfl
  | (x, h') :: es, h, own => by
    show cnd (cnd (cnd own (Nat.blt j x) false) true (cnd (bf j x) true (sameF P o (ev gl tm) v h))) (cnd (bf x j) true (readAtF P bf j o (ev gl tm) v es h' (Nat.blt x j))) false = (((own && Nat.blt j x) || bf j x || sameRead P gl o tm v h) && (bf x j || readAt P gl bf j o tm v h' es (Nat.blt x j)))
    rw [sameF_eq, readAtF_eq es]
    cases own <;> cases Nat.blt j x <;> cases bf j x <;> cases bf x j <;> cases sameRead P gl o tm v h <;> rfl

theorem readsF_eq {os : List Oper} {a : List RecF} {b : List (List Value × Ent)} {bf : Nat → Nat → Bool} {h : Heap} {es : List (Nat × Heap)} (hr : Recs cx.n os a b) : ∀ j, readsF cx bf h es a j = readsAt cx.P cx.gl bf h es os b j := by
  induction hr with
  | nil => intro j; rfl
  | cons he _ ih =>
    rename_i o os e ent tm a b _
    intro j
    show readE cx bf h es j o e ent (readsF cx bf h es a (j + 1)) = _
    rw [ih]
    cases ent with
    | read v =>
      show cnd (readAtF cx.P bf j o (evF cx.gl e) v es h true) (readsAt cx.P cx.gl bf h es os b (j + 1)) false = (readAt cx.P cx.gl bf j o tm v h es true && readsAt cx.P cx.gl bf h es os b (j + 1))
      rw [evF_eq he, readAtF_eq]
      cases readAt cx.P cx.gl bf j o tm v h es true <;> rfl
    | _ => rfl

theorem drawF_ref (hcf : CfRef cx cf) {ops : Array Oper} {bf : Nat → Nat → Bool} {e : Env} {l : List Value} {h : Heap} {K : Env → Heap → Bool} (hr : EnvRel cx.n e l) : RefE cx.n cx.bad (drawF cx ops bf e h K) (drawRun cx.P cx.gl cf ops bf l h) K := by
  unfold drawF
  rw [fNat_eq]
  rcases drawOpsF_ref hcf ops.toList hr (ops := ops) (bf := bf) (base := h.next) (j := 0) (h := ⟨h.next + ops.size, h.t⟩) (pd := []) (K := fun recs e' h' pd =>
    cnd (cnd (chainF bf (effsF recs 0) none) (readsF cx bf ⟨h.next + ops.size, h.t⟩ (effsF recs 0) recs 0) false) (setAllK h.next pd h' fun h' => K e' h') cx.bad) with h1 | ⟨recs, tm', h', pd', recsF, e', h1, h2, h3, h4⟩
  · exact .inl h1
  · rw [h4, effsF_eq h3, chainF_eq, readsF_eq h3, setAllK_eq]
    unfold drawRun
    rw [h1]
    show RefE cx.n cx.bad (cnd (cnd (chained bf (effsOf recs 0)) (readsAt cx.P cx.gl bf ⟨h.next + ops.size, h.t⟩ (effsOf recs 0) ops.toList recs 0) false) (K e' (setAll h' h.next pd')) cx.bad)
      (if chained bf (effsOf recs 0) && readsAt cx.P cx.gl bf ⟨h.next + ops.size, h.t⟩ (effsOf recs 0) ops.toList recs 0 then some (tm', setAll h' h.next pd') else none) K
    cases chained bf (effsOf recs 0) with
    | false => exact .inl rfl
    | true =>
      cases readsAt cx.P cx.gl bf ⟨h.next + ops.size, h.t⟩ (effsOf recs 0) ops.toList recs 0 with
      | false => exact .inl rfl
      | true => exact .inr ⟨_, _, _, rfl, h2, rfl⟩
end Go.Ab
