/- The evaluator of small memories: a part (AbFastOk4). -/
import Derived.Test.YtcngigfjdlgfbaaGreatDoorAbFastOk3
namespace Go.Ab
open Go
variable {cx : Cx} {cf : CallF}

/-- The rows hold what the list holds. -/
def EnvRel (n : Nat) (e : Env) (l : List Value) : Prop := l.length = n ∧ n ≤ 256 ∧ ∀ t, Env.get t e = l.getD t undef

theorem evF_eq {n : Nat} {e : Env} {l : List Value} (hr : EnvRel n e l) (gl : Nat → Bool) : evF gl e = ev gl l := by
  funext x
  cases x with
  | tmp t => exact hr.2.2 t
  | const v =>
    show cndV (plain v) v junk = if plain v then v else junk
    cases plain v <;> rfl
  | global g =>
    show cndV (gl g) _ junk = if gl g then _ else junk
    cases gl g <;> rfl
  | func f => rfl

theorem putF_eq {n : Nat} {e : Env} {l : List Value} (hr : EnvRel n e l) (dst : Option Tmp) (v : Value) : ∃ e', EnvRel n e' (putL l dst v) ∧ ∀ (K : Env → Bool), putF n dst e v K = K e' := by
  cases dst with
  | none => exact ⟨e, hr, fun K => rfl⟩
  | some d =>
    cases hd : Nat.blt d n with
    | true =>
      have hlt : d < n := by simpa [Nat.blt_eq] using hd
      refine ⟨Env.new d e v, ⟨by rw [putL_length]; exact hr.1, hr.2.1, fun t => ?_⟩, fun K => ?_⟩
      · rw [Env.get_put (Nat.lt_of_lt_of_le hlt hr.2.1), List.getD_eq_getElem?_getD]
        split
        · next he => subst he; rw [putL_same (by rw [hr.1]; exact hlt)]; rfl
        · next he => rw [putL_ne (fun hh => he (Option.some.inj hh).symm), ← List.getD_eq_getElem?_getD]; exact hr.2.2 t
      · show cnd (Nat.blt d n) (Env.put d e v K) (K e) = _
        rw [hd]
        exact Env.put_eq d e v K
    | false =>
      have hge : n ≤ d := by
        rcases Nat.lt_or_ge d n with h | h
        · have : Nat.blt d n = true := by simpa [Nat.blt_eq] using h
          rw [hd] at this; cases this
        · exact h
      refine ⟨e, ?_, fun K => ?_⟩
      · have : putL l (some d) v = l := by simp only [putL]; exact List.set_eq_of_length_le (by rw [hr.1]; exact hge)
        rw [this]; exact hr
      · show cnd (Nat.blt d n) (Env.put d e v K) (K e) = _
        rw [hd]; rfl

theorem guardF_eq (v : Value) (bad : Bool) (f : Bool → Bool) (sk : Bool) : guardF v bad f sk = bad ∨ (∃ b, v = .bool b ∧ guardF v bad f sk = f b) ∨ ∃ vs, v = .tuple vs ∧ guardF v bad f sk = sk := by
  cases v with
  | bool b => exact .inr (.inl ⟨b, rfl, rfl⟩)
  | tuple vs => exact .inr (.inr ⟨vs, rfl, rfl⟩)
  | _ => exact .inl rfl

theorem wantF_eq {n : Nat} {e : Env} {l : List Value} (hr : EnvRel n e l) {ops : Array Oper} (o : Oper) (bad run skip : Bool) :
    wantF ops e bad o.guard run skip = bad ∨ (wantedL ops l o = some true ∧ wantF ops e bad o.guard run skip = run) ∨ (wantedL ops l o = some false ∧ wantF ops e bad o.guard run skip = skip) := by
  unfold wantedL
  cases hg : o.guard with
  | none => exact .inr (.inl ⟨rfl, rfl⟩)
  | some g =>
    obtain ⟨j, want⟩ := g
    cases hd : (ops[j]?).bind (·.dst) with
    | none =>
      left
      show bnd bad (gdst ops j) _ = bad
      unfold gdst
      rw [hd]; rfl
    | some d =>
      have hw : wantF ops e bad (some (j, want)) run skip = guardF (Env.get d e) bad (fun b => Bool.rec (motive := fun _ => Bool) (cnd want skip run) (cnd want run skip) b) skip := by
        show bnd bad (gdst ops j) _ = _
        unfold gdst
        rw [hd]; rfl
      rw [hw]
      simp only [hd]
      rw [hr.2.2 d]
      rcases guardF_eq (l.getD d undef) bad (fun b => Bool.rec (motive := fun _ => Bool) (cnd want skip run) (cnd want run skip) b) skip with h1 | ⟨b, h1, h2⟩ | ⟨vs, h1, h2⟩
      · exact .inl h1
      · rw [h2]; simp only [h1]
        cases b <;> cases want <;> first | exact .inr (.inl ⟨rfl, rfl⟩) | exact .inr (.inr ⟨rfl, rfl⟩)
      · rw [h2]; simp only [h1]
        exact .inr (.inr ⟨trivial, trivial⟩)

/-- x is nothing, or what K makes of the run's answer, the list laid in rows. -/
def RefE {α : Type} (n : Nat) (bad x : Bool) (run : Option (List Value × α)) (K : Env → α → Bool) : Prop := x = bad ∨ ∃ l a e, run = some (l, a) ∧ EnvRel n e l ∧ x = K e a

theorem opsF_ref (hcf : CfRef cx cf) {ops : Array Oper} : ∀ (rest : List Oper) {e : Env} {l : List Value} {h : Heap} {K : Env → Heap → Bool}, EnvRel cx.n e l → RefE cx.n cx.bad (opsF cx ops rest e h K) (opsRun cx.P cx.gl cf ops rest l h) K
  | [], e, l, h, K, hr => .inr ⟨l, h, e, rfl, hr, rfl⟩
  | o :: rest, e, l, h, K, hr => by
    show RefE cx.n cx.bad (oneF cx ops o e h fun e h => opsF cx ops rest e h K) _ K
    unfold oneF
    rcases wantF_eq hr o cx.bad (opF o.op cx o (evF cx.gl e) h fun v h => putF cx.n o.dst e v fun e => opsF cx ops rest e h K) (putF cx.n o.dst e undef fun e => opsF cx ops rest e h K) with h1 | ⟨h1, h2⟩ | ⟨h1, h2⟩
    · exact .inl h1
    · rw [h2]
      rcases opF_ref hcf (ρ := evF cx.gl e) (h := h) (K := fun v h => putF cx.n o.dst e v fun e => opsF cx ops rest e h K) o with h3 | ⟨⟨v, u⟩, h3, h4⟩
      · exact .inl h3
      · rw [h4]
        rw [evF_eq hr] at h3
        obtain ⟨e', h5, h6⟩ := putF_eq hr o.dst v
        show RefE cx.n cx.bad (putF cx.n o.dst e v fun e => opsF cx ops rest e (u.app h) K) _ K
        rw [h6]
        simp only [opsRun, h1, h3]
        exact opsF_ref hcf rest h5
    · rw [h2]
      obtain ⟨e', h5, h6⟩ := putF_eq hr o.dst undef
      rw [h6]
      simp only [opsRun, h1]
      exact opsF_ref hcf rest h5
end Go.Ab
