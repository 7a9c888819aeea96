/- The fast evaluator answers what the evaluator answers: code and calls. -/
import Derived.Test.YtcngigfjdlgfbaaGreatDoorAbFastOk5
namespace Go.Ab
open Go

/-- Of code: nothing, or what K makes of the run's answer. -/
def RefC (n : Nat) (bad x : Bool) (run : Option (Exit × List Value × Heap)) (K : Exit → Env → Heap → Bool) : Prop := x = bad ∨ ∃ ex l h e, run = some (ex, l, h) ∧ EnvRel n e l ∧ x = K ex e h

theorem boolF_refC {n : Nat} {v : Value} {bad : Bool} {K : Bool → Bool} {run : Option (Exit × List Value × Heap)} {K' : Exit → Env → Heap → Bool} (hh : ∀ b, v = .bool b → RefC n bad (K b) run K') : RefC n bad (boolF v bad K) run K' := by
  rcases boolF_eq v bad K with ⟨h1, _⟩ | ⟨b, h1, h2⟩
  · rw [h1]; exact .inl rfl
  · rw [h2]; exact hh b h1

theorem exitF_cases (x : Exit) (norm : Bool) (ex : Nat → Bool) (els : Bool) : (x = .normal ∧ exitF x norm ex els = norm) ∨ (∃ id, x = .exit id ∧ exitF x norm ex els = ex id) ∨ ((∀ id, x ≠ .exit id) ∧ x ≠ .normal ∧ exitF x norm ex els = els) := by
  cases x with
  | normal => exact .inl ⟨rfl, rfl⟩
  | exit id => exact .inr (.inl ⟨id, rfl, rfl⟩)
  | _ => exact .inr (.inr ⟨fun _ => by simp, by simp, rfl⟩)

theorem loopF_ref {cx : Cx} {c : Code} {a : CodeK} {cf : CallF} {N : Nat} (ih : ∀ {e l h K}, EnvRel cx.n e l → RefC cx.n cx.bad (a cx e h K) (codeRun cx.P cx.gl cf N c l h) K) : ∀ (m : Nat) {e : Env} {l : List Value} {h : Heap} {K : Exit → Env → Heap → Bool}, EnvRel cx.n e l →
    RefC cx.n cx.bad (Nat.rec (motive := fun _ => Env → Heap → Bool) (fun _ _ => cx.bad) (fun _ ih e h => a cx e h fun x e h => exitF x (ih e h) (fun id => K (.exit id) e h) (K x e h)) m e h) (iter (codeRun cx.P cx.gl cf N c) m l h) K
  | 0, _, _, _, _, _ => .inl rfl
  | m + 1, e, l, h, K, hr => by
    show RefC cx.n cx.bad (a cx e h fun x e h => exitF x ((Nat.rec (motive := fun _ => Env → Heap → Bool) (fun _ _ => cx.bad) (fun _ ih e h => a cx e h fun x e h => exitF x (ih e h) (fun id => K (.exit id) e h) (K x e h)) m : Env → Heap → Bool) e h) (fun id => K (.exit id) e h) (K x e h)) _ K
    rcases ih (h := h) (K := fun x e h => exitF x ((Nat.rec (motive := fun _ => Env → Heap → Bool) (fun _ _ => cx.bad) (fun _ ih e h => a cx e h fun x e h => exitF x (ih e h) (fun id => K (.exit id) e h) (K x e h)) m : Env → Heap → Bool) e h) (fun id => K (.exit id) e h) (K x e h)) hr with h1 | ⟨ex, l1, h1, e1, h2, h3, h4⟩
    · exact .inl h1
    · rw [h4]; dsimp only
      rcases exitF_cases ex ((Nat.rec (motive := fun _ => Env → Heap → Bool) (fun _ _ => cx.bad) (fun _ ih e h => a cx e h fun x e h => exitF x (ih e h) (fun id => K (.exit id) e h) (K x e h)) m : Env → Heap → Bool) e1 h1) (fun id => K (.exit id) e1 h1) (K ex e1 h1) with ⟨rfl, h5⟩ | ⟨id, rfl, h5⟩ | ⟨h6, h7, h5⟩
      · rw [h5]
        simp only [iter, h2]
        exact loopF_ref ih m h3
      · rw [h5]
        exact .inr ⟨.exit id, l1, h1, e1, by simp only [iter, h2], h3, rfl⟩
      · rw [h5]
        refine .inr ⟨ex, l1, h1, e1, ?_, h3, rfl⟩
        simp only [iter, h2]
        cases ex <;> first | rfl | exact absurd rfl h7

theorem okF_eq (asg body : Code) (bad : Bool) (K : loopOk asg body = true → Bool) : okF asg body bad K = bad ∨ ∃ ok, okF asg body bad K = K ok := by
  unfold okF
  have key : ∀ (b : Bool) (hb : loopOk asg body = b), (Bool.rec (motive := fun b => loopOk asg body = b → Bool) (fun _ => bad) K b hb = bad) ∨ ∃ ok, Bool.rec (motive := fun b => loopOk asg body = b → Bool) (fun _ => bad) K b hb = K ok := by
    intro b hb
    cases b with
    | false => exact .inl rfl
    | true => exact .inr ⟨hb, rfl⟩
  exact key _ rfl
theorem loopF_eq (b : Option Blk) (bad : Bool) (K : LSt → List Value → List Tmp → (asg body : Code) → loopOk asg body = true → Bool) :
    loopF b bad K = bad ∨ ∃ st tm ps asg body ok, b = some (.loop st tm ps asg body ok) ∧ loopF b bad K = K st tm ps asg body ok := by
  cases b with
  | none => exact .inl rfl
  | some B => cases B with
    | loop st tm ps asg body ok => exact .inr ⟨st, tm, ps, asg, body, ok, rfl, rfl⟩
    | _ => exact .inl rfl
theorem tmF_at (e : Env) : ∀ (n i : Nat) (K : List Value → Bool), tmF e n i K = K ((List.range' i n).map fun t => Env.get t e)
  | 0, _, _ => rfl
  | n + 1, i, K => by
    show fVal (Env.get i e) (fun v => tmF e n (i + 1) fun l => K (v :: l)) = _
    rw [fVal_eq, tmF_at e n (i + 1)]
    rfl
theorem tmF_eq {n : Nat} {e : Env} {l : List Value} (hr : EnvRel n e l) (K : List Value → Bool) : tmF e n 0 K = K l := by
  rw [tmF_at]
  congr 1
  obtain ⟨h1, _, h3⟩ := hr
  refine List.ext_getElem? fun t => ?_
  rw [List.getElem?_map]
  by_cases ht : t < n
  · rw [List.getElem?_range' ht]
    simp only [Option.map_some, Nat.zero_add, Nat.one_mul]
    rw [h3, List.getElem?_eq_getElem (by omega), List.getD_eq_getElem?_getD, List.getElem?_eq_getElem (by omega)]; rfl
  · rw [List.getElem?_eq_none (by simp; omega), List.getElem?_eq_none (by omega)]; rfl

theorem initF_eq : ∀ (l : List Value) (i : Nat) (e : Env), i + l.length ≤ 256 → ∃ e' : Env, (∀ (K : Env → Bool), initF l i e K = K e') ∧ ∀ t, Env.get t e' = if i ≤ t ∧ t < i + l.length then l.getD (t - i) undef else Env.get t e
  | [], i, e, _ => ⟨e, fun _ => rfl, fun t => by rw [if_neg (by simp only [List.length_nil]; omega)]⟩
  | v :: l, i, e, hl => by
    simp only [List.length_cons] at hl
    obtain ⟨e', h1, h2⟩ := initF_eq l (i + 1) (Env.new i e v) (by omega)
    refine ⟨e', fun K => ?_, fun t => ?_⟩
    · show fVal v (fun v => Env.put i e v fun e => initF l (i + 1) e K) = _
      rw [fVal_eq, Env.put_eq, h1]
    · rw [h2]
      simp only [List.length_cons]
      by_cases ht : t = i
      · subst ht
        rw [if_neg (by omega), Env.get_put (by omega), if_pos rfl, if_pos (by omega), Nat.sub_self]; rfl
      · rw [Env.get_put (by omega), if_neg ht]
        by_cases h3 : i + 1 ≤ t ∧ t < i + 1 + l.length
        · rw [if_pos h3, if_pos (by omega), show t - i = (t - (i + 1)) + 1 by omega]; rfl
        · rw [if_neg h3, if_neg (by omega)]

theorem fHT_eq : ∀ (t : HT) (K : HT → Bool), fHT t K = K t
  | .nil, _ => rfl
  | .node v l r, K => by
    show fHT l (fun l => fHT r fun r => Option.rec (motive := fun _ => Bool) (K (.node none l r)) (fun B => fBlk B fun B => K (.node (some B) l r)) v) = _
    rw [fHT_eq l, fHT_eq r]
    cases v with
    | none => rfl
    | some B => exact fBlk_eq B _

theorem anyF_ref {cx : Cx} {ops : Array Oper} {e : Env} {l : List Value} {h : Heap} {K : Env → Heap → Bool} (hr : EnvRel cx.n e l) : RefE cx.n cx.bad (anyF cx ops e h K) (drawA cx.P cx.gl ops (befAt (befs ops)) l h) K := by
  unfold anyF
  rw [tmF_eq hr]
  cases hd : drawA cx.P cx.gl ops (befAt (befs ops)) l h with
  | none => exact .inl rfl
  | some r =>
    obtain ⟨tm, h'⟩ := r
    show RefE cx.n cx.bad (cnd (Nat.beq tm.length cx.n) (initF tm 0 env0 fun e => fNat h'.next fun nx => fHT h'.t fun t => K e ⟨nx, t⟩) cx.bad) _ K
    cases hb : Nat.beq tm.length cx.n with
    | false => exact .inl rfl
    | true =>
      have hl : tm.length = cx.n := by simpa [Nat.beq_eq] using hb
      obtain ⟨e0, h3, h4⟩ := initF_eq tm 0 env0 (by have := hr.2.1; omega)
      refine .inr ⟨tm, h', e0, rfl, ⟨hl, hr.2.1, fun t => ?_⟩, ?_⟩
      · rw [h4]
        split
        · rfl
        · next ht => rw [env0_get, List.getD_eq_getElem?_getD, List.getElem?_eq_none (by omega)]; rfl
      · show initF tm 0 env0 (fun e => fNat h'.next fun nx => fHT h'.t fun t => K e ⟨nx, t⟩) = _
        rw [h3, fNat_eq, fHT_eq]

theorem codeF_ref {cx : Cx} {cf : CallF} (hcf : CfRef cx cf) : ∀ (c : Code) {e : Env} {l : List Value} {h : Heap} {K : Exit → Env → Heap → Bool}, EnvRel cx.n e l → RefC cx.n cx.bad (codeF c cx e h K) (codeRun cx.P cx.gl cf cx.N c l h) K
  | .skip, e, l, h, K, hr => .inr ⟨_, _, _, _, rfl, hr, rfl⟩
  | .region id ops draw, e, l, h, K, hr => by
    cases draw with
    | true =>
      show RefC cx.n cx.bad (cnd (anyOrd ops) (anyF cx ops e h fun e h => K .normal e h) (drawF cx ops (befAt (befs ops)) e h fun e h => K .normal e h)) ((drawX cx.P cx.gl cf ops l h).map fun r => (.normal, r.1, r.2)) K
      unfold drawX
      cases hany : anyOrd ops with
      | true =>
        rw [if_pos rfl]
        rcases anyF_ref hr (ops := ops) (h := h) (K := fun e h => K .normal e h) with h1 | ⟨l1, h1, e1, h2, h3, h4⟩
        · exact .inl h1
        · exact .inr ⟨.normal, l1, h1, e1, by rw [h2]; rfl, h3, h4⟩
      | false =>
      rw [if_neg (by simp)]
      show RefC cx.n cx.bad (drawF cx ops (befAt (befs ops)) e h fun e h => K .normal e h) _ K
      rcases drawF_ref hcf hr (ops := ops) (bf := befAt (befs ops)) (h := h) (K := fun e h => K .normal e h) with h1 | ⟨l1, h1, e1, h2, h3, h4⟩
      · exact .inl h1
      · exact .inr ⟨.normal, l1, h1, e1, by rw [h2]; rfl, h3, h4⟩
    | false =>
      show RefC cx.n cx.bad (opsF cx ops ops.toList e h fun e h => K .normal e h) ((opsRun cx.P cx.gl cf ops ops.toList l h).map fun r => (.normal, r.1, r.2)) K
      rcases opsF_ref hcf ops.toList hr (ops := ops) (h := h) (K := fun e h => K .normal e h) with h1 | ⟨l1, h1, e1, h2, h3, h4⟩
      · exact .inl h1
      · exact .inr ⟨.normal, l1, h1, e1, by rw [h2]; rfl, h3, h4⟩
  | .seq a b, e, l, h, K, hr => by
    show RefC cx.n cx.bad (codeF a cx e h fun x e h => exitF x (codeF b cx e h K) (fun id => K (.exit id) e h) (K x e h)) _ K
    rcases codeF_ref hcf a hr (h := h) (K := fun x e h => exitF x (codeF b cx e h K) (fun id => K (.exit id) e h) (K x e h)) with h1 | ⟨ex, l1, h1, e1, h2, h3, h4⟩
    · exact .inl h1
    · rw [h4]; dsimp only
      rcases exitF_cases ex (codeF b cx e1 h1 K) (fun id => K (.exit id) e1 h1) (K ex e1 h1) with ⟨rfl, h5⟩ | ⟨id, rfl, h5⟩ | ⟨h6, h7, h5⟩
      · rw [h5]
        simp only [codeRun, h2]
        exact codeF_ref hcf b h3
      · rw [h5]
        exact .inr ⟨.exit id, l1, h1, e1, by simp only [codeRun, h2], h3, rfl⟩
      · rw [h5]
        refine .inr ⟨ex, l1, h1, e1, ?_, h3, rfl⟩
        simp only [codeRun, h2]
        cases ex <;> first | rfl | exact absurd rfl h7
  | .cond c a b, e, l, h, K, hr => by
    show RefC cx.n cx.bad (boolF (evF cx.gl e c) cx.bad fun t => cnd t (codeF a cx e h K) (codeF b cx e h K)) _ K
    refine boolF_refC fun t ht => ?_
    rw [evF_eq hr] at ht
    simp only [codeRun, ht]
    cases t with
    | true => simp only [if_true]; exact codeF_ref hcf a hr
    | false => simp only [Bool.false_eq_true, if_false]; exact codeF_ref hcf b hr
  | .block id a, e, l, h, K, hr => by
    show RefC cx.n cx.bad (codeF a cx e h fun x e h => exitF x (K .normal e h) (fun id' => cnd (Nat.beq id' id) (K .normal e h) (K (.exit id') e h)) (K x e h)) _ K
    rcases codeF_ref hcf a hr (h := h) (K := fun x e h => exitF x (K .normal e h) (fun id' => cnd (Nat.beq id' id) (K .normal e h) (K (.exit id') e h)) (K x e h)) with h1 | ⟨ex, l1, h1, e1, h2, h3, h4⟩
    · exact .inl h1
    · rw [h4]; dsimp only
      rcases exitF_cases ex (K .normal e1 h1) (fun id' => cnd (Nat.beq id' id) (K .normal e1 h1) (K (.exit id') e1 h1)) (K ex e1 h1) with ⟨rfl, h5⟩ | ⟨id', rfl, h5⟩ | ⟨h6, h7, h5⟩
      · rw [h5]
        exact .inr ⟨.normal, l1, h1, e1, by simp only [codeRun, h2], h3, rfl⟩
      · rw [h5]
        by_cases hid : id' = id
        · subst hid
          refine .inr ⟨.normal, l1, h1, e1, by simp only [codeRun, h2, if_true], h3, ?_⟩
          rw [show Nat.beq id' id' = true by simp]; rfl
        · refine .inr ⟨.exit id', l1, h1, e1, by simp only [codeRun, h2, if_neg hid], h3, ?_⟩
          have : Nat.beq id' id = false := by
            rw [Bool.eq_false_iff]; intro hb; exact hid (by simpa [Nat.beq_eq] using hb)
          rw [this]; rfl
      · rw [h5]
        refine .inr ⟨ex, l1, h1, e1, ?_, h3, rfl⟩
        simp only [codeRun, h2]
        cases ex <;> first | rfl | exact absurd rfl (h6 _)
  | .loop c, e, l, h, K, hr => loopF_ref (fun {e l h K} hr => codeF_ref hcf c hr) cx.N hr
  | .exit id, e, l, h, K, hr => .inr ⟨_, _, _, _, rfl, hr, rfl⟩
  | .ret, e, l, h, K, hr => .inr ⟨_, _, _, _, rfl, hr, rfl⟩
  | .label _, e, l, h, K, hr => .inr ⟨_, _, _, _, rfl, hr, rfl⟩
  | .rangeFunc f ps asg body, e, l, h, K, hr => by
    show RefC cx.n cx.bad (kRange f ps asg body cx e h K) _ K
    unfold kRange
    rcases funcF_eq (evF cx.gl e f) cx.bad _ with ⟨h1, _⟩ | ⟨fn, first, captured, h1, h2⟩
    · rw [h1]; exact .inl rfl
    · rw [h2]
      rw [evF_eq hr] at h1
      cases fn with
      | func g =>
        dsimp only [fnF]
        rcases okF_eq asg body cx.bad (fun ok => cnd (Nat.blt g YB) (cnd (bodied cx.P g)
          (tmF e cx.n 0 fun tm => fSpine (first.toList ++ [.func (.yield h.next) #[] #[]] ++ captured.toList) fun vs => upPush (.loop .ready tm ps.toList asg body ok) h fun h1 => cx.cf g vs h1 fun _ h2 =>
            loopF (h2.get h.next) cx.bad fun st _ _ _ _ _ => lendF st cx.bad fun x => HT.setK none (pathOf h.next) h2.t fun t => K x e ⟨h2.next, t⟩) cx.bad) cx.bad) with h3 | ⟨ok, h3⟩
        · rw [h3]; exact .inl rfl
        · rw [h3]
          cases hg : Nat.blt g YB with
          | false => exact .inl rfl
          | true =>
            have hg' : g < YB := by simpa [Nat.blt_eq] using hg
            cases hb : bodied cx.P g with
            | false => exact .inl rfl
            | true =>
              dsimp only [cnd]
              rw [tmF_eq hr, fSpine_eq]
              have hup : ∀ (B : Blk) (K : Heap → Bool), upPush B h K = K (h.push B) := fun B K => appF_eq (.push B) h K
              rw [hup]
              rcases hcf g (first.toList ++ [.func (.yield h.next) #[] #[]] ++ captured.toList) (h.push (.loop .ready l ps.toList asg body ok)) (fun _ h2 =>
                loopF (h2.get h.next) cx.bad fun st _ _ _ _ _ => lendF st cx.bad fun x => HT.setK none (pathOf h.next) h2.t fun t => K x e ⟨h2.next, t⟩) with h4 | ⟨⟨v, h2⟩, h4, h5⟩
              · rw [h4]; exact .inl rfl
              · rw [h5]
                dsimp only
                have hrun : codeRun cx.P cx.gl cf cx.N (.rangeFunc f ps asg body) l h = (loopEnd (h2.get h.next)).map fun e => (e, l, h2.del h.next) := by
                  simp only [codeRun, h1]
                  rw [dif_pos ok, if_pos ⟨hg', hb⟩, h4]
                rcases loopF_eq (h2.get h.next) cx.bad (fun st _ _ _ _ _ => lendF st cx.bad fun x => HT.setK none (pathOf h.next) h2.t fun t => K x e ⟨h2.next, t⟩) with h6 | ⟨st, tm2, ps2, a2, b2, ok2, h6, h7⟩
                · rw [h6]; exact .inl rfl
                · rw [h7]
                  rw [h6] at hrun
                  cases st with
                  | ready => exact .inr ⟨_, _, _, e, hrun, hr, HT.setK_eq _ _ _ _⟩
                  | busy => exact .inl rfl
                  | ret => exact .inr ⟨_, _, _, e, hrun, hr, HT.setK_eq _ _ _ _⟩
                  | exit id => exact .inr ⟨_, _, _, e, hrun, hr, HT.setK_eq _ _ _ _⟩
      | _ => exact .inl rfl
  | .scope _, _, _, _, _, _ => .inl rfl
  | .goto _, _, _, _, _, _ => .inl rfl
  | .refuse _, _, _, _, _, _ => .inl rfl

theorem resF_ref {P : Program} {n : Nat} {e : Env} {tm : List Value} {h : Heap} {bad : Bool} (hr : EnvRel n e tm) : ∀ (l : List ResultVar) (K : List Value → Bool), Ref bad (resF P e h bad l K) (resultsRun P tm h l) K
  | [], K => .of rfl rfl
  | .tmp t :: l, K => by
    show Ref bad (fVal (Env.get t e) fun v => resF P e h bad l fun vs => K (v :: vs)) _ K
    rw [fVal_eq, hr.2.2 t]
    rcases resF_ref hr l (fun vs => K (tm.getD t undef :: vs)) with h1 | ⟨vs, h1, h2⟩
    · exact .inl h1
    · exact .of (by simp only [resultsRun, h1]; rfl) h2
  | .cell a t :: l, K => by
    show Ref bad (bnd bad (loadV P t h (Env.get a e)) fun v => resF P e h bad l fun vs => K (v :: vs)) _ K
    refine bnd_ref fun v hv => ?_
    rw [hr.2.2 a] at hv
    rcases resF_ref hr l (fun vs => K (v :: vs)) with h1 | ⟨vs, h1, h2⟩
    · exact .inl h1
    · exact .of (by simp only [resultsRun, hv, h1]; rfl) h2

theorem putsF_eq {n : Nat} : ∀ (pa : List (Tmp × Value)) {e : Env} {l : List Value}, EnvRel n e l → ∃ e', EnvRel n e' (setTs l pa) ∧ ∀ (K : Env → Bool), putsF n pa e K = K e'
  | [], e, l, hr => ⟨e, hr, fun _ => rfl⟩
  | p :: pa, e, l, hr => by
    obtain ⟨e1, h1, h2⟩ := putF_eq hr (some p.1) p.2
    obtain ⟨e2, h3, h4⟩ := putsF_eq pa h1
    refine ⟨e2, h3, fun K => ?_⟩
    show putF n (some p.1) e p.2 (fun e => putsF n pa e K) = _
    rw [h2, h4]

theorem yieldF_ref {P : Program} {gl : Nat → Bool} {bad : Bool} {fl : Nat} {cK : FuncId → List Value → Heap → (Value → Heap → Bool) → Bool} {cf : CallF} (hcf : ∀ f args h K, Ref bad (cK f args h K) (cf f args h) fun r => K r.1 r.2) (k : Nat) (args : List Value) (h : Heap) (K : Value → Heap → Bool) :
    Ref bad (yieldF (fun nt => ⟨P, gl, cK, fl, nt, bad⟩) bad k args h K) (yieldRun (codeRun P gl cf fl) k args h) fun r => K r.1 r.2 := by
  unfold yieldF
  rcases loopF_eq (h.get k) bad _ with h1 | ⟨st, tm, ps, asg, body, ok, h1, h2⟩
  · exact .inl h1
  rw [h2]
  cases st with
  | busy => exact .inl rfl
  | ret => exact .inl rfl
  | exit id => exact .inl rfl
  | ready =>
  show Ref bad (cnd (Nat.beq args.length ps.length) _ bad) _ _
  refine cnd_ref (fun hlen => ?_) (fun _ => .bad)
  have hlen : args.length = ps.length := by simpa [Nat.beq_eq] using hlen
  rw [fNat_eq]
  refine cnd_ref (fun hn => ?_) (fun _ => .bad)
  have hn : tm.length ≤ 256 := by simpa [Nat.ble_eq] using hn
  obtain ⟨e0, h3, h4⟩ := initF_eq tm 0 env0 (by omega)
  rw [h3]
  have hr0 : EnvRel tm.length e0 tm := by
    refine ⟨rfl, hn, fun t => ?_⟩
    rw [h4]
    split
    · rfl
    · next ht => rw [env0_get, List.getD_eq_getElem?_getD, List.getElem?_eq_none (by omega)]; rfl
  obtain ⟨e1, hr1, h5⟩ := putsF_eq (ps.zip args) hr0
  rw [h5]
  let cx : Cx := ⟨P, gl, cK, fl, tm.length, bad⟩
  have hcf' : CfRef cx cf := fun f args h K => hcf f args h K
  rcases codeF_ref hcf' asg (h := h) (K := fun x e h1 => exitF x
      (loopF (h1.get k) bad fun st' tm' ps' asg' body' ok' => readyF st' bad (HT.setK (some (.loop .busy tm' ps' asg' body' ok')) (pathOf k) h1.t fun t => codeF body cx e ⟨h1.next, t⟩ fun x _ h2 =>
        loopF (h2.get k) bad fun _ tm2 ps2 asg2 body2 ok2 => lstF x bad fun b st2 => HT.setK (some (.loop st2 tm2 ps2 asg2 body2 ok2)) (pathOf k) h2.t fun t => K (.bool b) ⟨h2.next, t⟩))
      (fun _ => bad) bad) hr1 with h6 | ⟨ex, l1, g1, e2, h6, hr2, h7⟩
  · exact .inl h6
  refine (show Ref bad _ _ _ ↔ _ from Iff.rfl).2 ?_
  rw [h7]
  dsimp only
  cases ex with
  | normal =>
    dsimp only [exitF]
    rcases loopF_eq (g1.get k) bad (fun st' tm' ps' asg' body' ok' => readyF st' bad (HT.setK (some (.loop .busy tm' ps' asg' body' ok')) (pathOf k) g1.t fun t => codeF body cx e2 ⟨g1.next, t⟩ fun x _ h2 =>
        loopF (h2.get k) bad fun _ tm2 ps2 asg2 body2 ok2 => lstF x bad fun b st2 => HT.setK (some (.loop st2 tm2 ps2 asg2 body2 ok2)) (pathOf k) h2.t fun t => K (.bool b) ⟨h2.next, t⟩)) with h8 | ⟨st', tm', ps', asg', body', ok', h8, h9⟩
    · exact .inl h8
    rw [h9]
    cases st' with
    | busy => exact .inl rfl
    | ret => exact .inl rfl
    | exit id => exact .inl rfl
    | ready =>
    dsimp only [readyF]
    rw [HT.setK_eq]
    rcases codeF_ref hcf' body (h := g1.set k (.loop .busy tm' ps' asg' body' ok')) (K := fun x _ h2 =>
        loopF (h2.get k) bad fun _ tm2 ps2 asg2 body2 ok2 => lstF x bad fun b st2 => HT.setK (some (.loop st2 tm2 ps2 asg2 body2 ok2)) (pathOf k) h2.t fun t => K (.bool b) ⟨h2.next, t⟩) hr2 with h10 | ⟨ex2, l2, g2, e3, h10, hr3, h11⟩
    · exact .inl h10
    · refine (show Ref bad (codeF body cx e2 (g1.set k (.loop .busy tm' ps' asg' body' ok')) _) _ _ from ?_)
      rw [h11]
      dsimp only
      rcases loopF_eq (g2.get k) bad (fun _ tm2 ps2 asg2 body2 ok2 => lstF ex2 bad fun b st2 => HT.setK (some (.loop st2 tm2 ps2 asg2 body2 ok2)) (pathOf k) g2.t fun t => K (.bool b) ⟨g2.next, t⟩) with h12 | ⟨st2, tm2, ps2, asg2, body2, ok2, h12, h13⟩
      · exact .inl h12
      rw [h13]
      have hrun : ∀ b st3, lstOf ex2 = some (b, st3) → yieldRun (codeRun P gl cf fl) k args h = some (.bool b, g2.set k (.loop st3 tm2 ps2 asg2 body2 ok2)) := fun b st3 hl => by
        have h6' : codeRun P gl cf fl asg (setTs tm (ps.zip args)) h = some (.normal, l1, g1) := h6
        have h10' : codeRun P gl cf fl body l1 (g1.set k (.loop .busy tm' ps' asg' body' ok')) = some (ex2, l2, g2) := h10
        unfold yieldRun
        simp only [h1, hlen, if_true, h6', h8, h10', h12, hl]
      cases ex2 with
      | normal => exact .of (hrun true .ready rfl) (HT.setK_eq _ _ _ _)
      | ret => exact .of (hrun false .ret rfl) (HT.setK_eq _ _ _ _)
      | exit id => exact .of (hrun false (.exit id) rfl) (HT.setK_eq _ _ _ _)
      | _ => exact .inl rfl
  | _ => exact .inl rfl

/-- The laws of the functions that have one, side by side. -/
def PrimsRef (bad : Bool) (pf : FuncId → Option (PrimF)) (pr : FuncId → Option Prim) : Prop :=
  ∀ f, (pf f = none ∧ pr f = none) ∨ ∃ p q, pf f = some p ∧ pr f = some q ∧
    ∀ (cf : FuncId → List Value → Heap → (Value → Heap → Bool) → Bool) (cr : CallF), (∀ f args h K, Ref bad (cf f args h K) (cr f args h) fun r => K r.1 r.2) → ∀ args h K, Ref bad (p cf args h K) (q cr args h) fun r => K r.1 r.2

theorem callF_ref {P : Program} {gl : Nat → Bool} {bad : Bool} {pf : FuncId → Option (PrimF)} {pr : FuncId → Option Prim} (hp : PrimsRef bad pf pr) : ∀ n f args h K, Ref bad (callF P gl pf bad n f args h K) (callRun P gl pr n f args h) fun r => K r.1 r.2
  | 0, _, _, _, _ => .bad
  | n + 1, f, args, h, K => by
    have ih := callF_ref hp (P := P) (gl := gl) n
    show Ref bad (cnd (Nat.ble YB f) (fNat (f - YB) fun k => yieldF (fun nt => ⟨P, gl, callF P gl pf bad n, n, nt, bad⟩) bad k args h K) (Option.rec (motive := fun _ => Bool)
      (bnd bad (P.funcs[f]?) fun fn => bnd bad fn.body fun c => cnd (Nat.ble fn.ntmps 256 && Nat.ble args.length fn.ntmps)
        (initF args 0 env0 fun e => codeF c ⟨P, gl, callF P gl pf bad n, n, fn.ntmps, bad⟩ e h fun x e h => retF x bad (resF P e h bad fn.results.toList fun vs => K (packResults vs) h)) bad)
      (fun p => p (callF P gl pf bad n) args h K) (pf f))) _ _
    refine cnd_ref (fun hY => ?_) (fun hY => ?_)
    · have hY : YB ≤ f := by simpa [Nat.ble_eq] using hY
      rw [fNat_eq]
      rcases yieldF_ref (P := P) (gl := gl) (fl := n) ih (f - YB) args h K with h1 | ⟨r, h1, h2⟩
      · exact .inl h1
      · exact .of (r := r) (by simp only [callRun, if_pos hY]; exact h1) h2
    have hY : ¬ YB ≤ f := fun hh => by
      have : Nat.ble YB f = true := by simpa [Nat.ble_eq] using hh
      rw [hY] at this; cases this
    rcases hp f with ⟨h1, h2⟩ | ⟨p, q, h1, h2, h3⟩
    · rw [h1]
      refine bnd_ref fun fn hfn => bnd_ref fun c hc => cnd_ref (fun hb => ?_) (fun _ => .bad)
      simp only [Bool.and_eq_true, Nat.ble_eq] at hb
      obtain ⟨e', h3, h4⟩ := initF_eq args 0 env0 (by omega)
      rw [h3]
      have hr : EnvRel fn.ntmps e' (args ++ List.replicate (fn.ntmps - args.length) undef) := by
        refine ⟨by simp; omega, hb.1, fun t => ?_⟩
        rw [h4]
        split
        · next ht => rw [Nat.sub_zero, List.getD_eq_getElem?_getD, List.getD_eq_getElem?_getD, List.getElem?_append_left (by omega)]
        · next ht =>
          rw [env0_get, List.getD_eq_getElem?_getD, List.getElem?_append_right (by omega), List.getElem?_replicate]
          split <;> rfl
      let cx : Cx := ⟨P, gl, callF P gl pf bad n, n, fn.ntmps, bad⟩
      have hcf : CfRef cx (callRun P gl pr n) := fun f args h K => ih f args h K
      have key := codeF_ref hcf c (h := h) (K := fun x e h => retF x bad (resF P e h bad fn.results.toList fun vs => K (packResults vs) h)) (e := e') (l := args ++ List.replicate (fn.ntmps - args.length) undef) hr
      rcases key with h5 | ⟨ex, l1, h5, e1, h6, h7, h8⟩
      · exact .inl h5
      · rw [show codeF c ⟨P, gl, callF P gl pf bad n, n, fn.ntmps, bad⟩ e' h (fun x e h => retF x bad (resF P e h bad fn.results.toList fun vs => K (packResults vs) h)) = _ from h8]
        have hrun : codeRun P gl (callRun P gl pr n) n c (args ++ List.replicate (fn.ntmps - args.length) undef) h = some (ex, l1, h5) := h6
        have fin : ex = .normal ∨ ex = .ret → Ref bad (resF P e1 h5 bad fn.results.toList fun vs => K (packResults vs) h5) (callRun P gl pr (n + 1) f args h) fun r => K r.1 r.2 := fun hex => by
          rcases resF_ref h7 fn.results.toList (fun vs => K (packResults vs) h5) (P := P) (h := h5) (bad := bad) with h9 | ⟨vs, h9, h10⟩
          · exact .inl h9
          · refine .of (r := (packResults vs, h5)) ?_ h10
            simp only [callRun, if_neg hY, h2, hfn, hc, hrun]
            rcases hex with rfl | rfl <;> simp only [h9, Option.map_some]
        cases ex with
        | normal => exact fin (.inl rfl)
        | ret => exact fin (.inr rfl)
        | _ => exact .bad
    · rw [h1]
      rcases h3 (callF P gl pf bad n) (callRun P gl pr n) ih args h K with h4 | ⟨r, h4, h5⟩
      · exact .inl h4
      · exact .of (r := r) (by simp only [callRun, if_neg hY, h2]; exact h4) h5
end Go.Ab
