/- The evaluator of small memories: a part (AbCode). -/
import Derived.Test.YtcngigfjdlgfbaaGreatDoorAbEff4
import Derived.CallsIn
import Derived.RangeFuncLeaves
import Derived.RangeFuncNested
namespace Go.Ab
open Go
variable {β : Inj} {P : Program} {gl : Nat → Bool}

def fence (r : Option Nat) : Fence := { Fence.wide with round := r }

theorem callsIn_fence {r : Option Nat} {n : Nat} {f : FuncId} {args : Array Value} {w : World} {R : Ending → World → Prop} (h : Calls P f args w R) : CallsIn (fence r) n P f args w R :=
  (callsIn_wide (n := n)).2 h

/-- The listed variables of the package level lie where they lie. -/
def Gl (gl : Nat → Bool) (β : Inj) : Prop := ∀ g, gl g = true → ∃ sl, β g = some sl ∧ sl.b = g ∧ sl.s = 0 ∧ sl.isMap = false
theorem Gl.mono {β β' : Inj} (h : Gl gl β) (hle : β.le β') : Gl gl β' := fun g hg => let ⟨sl, h1, h2⟩ := h g hg; ⟨sl, hle _ _ h1, h2⟩

theorem LRel.getD {l l' : List Value} (h : LRel β l l') (i : Nat) : VRel β (l.getD i undef) (l'.getD i undef) := by
  by_cases hi : i < l.length
  · have hi' : i < l'.length := h.1 ▸ hi
    simp only [List.getD, List.getElem?_eq_getElem hi, List.getElem?_eq_getElem hi', Option.getD_some]
    exact h.2 i _ _ (List.getElem?_eq_getElem hi) (List.getElem?_eq_getElem hi')
  · have hi' : l'.length ≤ i := by rw [← h.1]; omega
    simp only [List.getD, List.getElem?_eq_none (Nat.le_of_not_lt hi), List.getElem?_eq_none hi', Option.getD_none]
    exact .undef β

theorem ev_rel {tm : List Value} {a : Act} (hg : Gl gl β) (ht : LRel β tm a.tmps.toList) (x : Operand) : VRel β (ev gl tm x) (a.eval x) := by
  cases x with
  | tmp t =>
    simp only [ev, Act.eval]
    have := ht.getD t
    rwa [show a.tmps.toList.getD t undef = a.tmps.getD t undef by simp [List.getD, Array.getD_eq_getD_getElem?]] at this
  | const v =>
    simp only [ev, Act.eval]
    split
    · next h => exact .of_plain h
    · exact .junk v
  | global g =>
    simp only [ev, Act.eval]
    split
    · next h =>
      obtain ⟨sl, h1, h2, h3, h4⟩ := hg g h
      have := VRel.ptr (i := 0) h1 h4
      rwa [h2, h3] at this
    · exact .junk _
  | func f =>
    simp only [ev, Act.eval]
    exact .func rfl rfl rfl (fun i v v' h => by simp at h) (fun i v v' h => by simp at h)

theorem put_rel {tm : List Value} {a : Act} (ht : LRel β tm a.tmps.toList) (dst : Option Tmp) {v v' : Value} (hv : VRel β v v') : LRel β (putL tm dst v) (a.put dst v').tmps.toList := by
  cases dst with
  | none => exact ht
  | some d =>
    simp only [putL, Act.put, Array.toList_setIfInBounds]
    refine ⟨by simp [ht.1], fun i u u' h1 h2 => ?_⟩
    rw [List.getElem?_set] at h1 h2
    split at h1
    · next he =>
      subst he
      simp only [if_true] at h2
      split at h1
      · simp only [Option.some.injEq] at h1
        subst h1
        split at h2
        · simp only [Option.some.injEq] at h2; subst h2; exact hv
        · cases h2
      · cases h1
    · next he =>
      rw [if_neg he] at h2
      exact ht.2 i u u' h1 h2
theorem put_defers (a : Act) (dst : Option Tmp) (v : Value) : (a.put dst v).defers = a.defers := by cases dst <;> rfl

theorem getD_bool {l : List Value} {d : Nat} {b : Bool} (h : l.getD d undef = .bool b) : l[d]? = some (.bool b) := by
  rw [List.getD_eq_getElem?_getD] at h
  cases hd : l[d]? with
  | none => rw [hd] at h; cases h
  | some v => rw [hd] at h; simp only [Option.getD_some] at h; rw [h]
theorem getD_tuple {l : List Value} {d : Nat} {vs : Array Value} (h : l.getD d undef = .tuple vs) : l[d]? = some (.tuple vs) ∨ l[d]? = none := by
  rw [List.getD_eq_getElem?_getD] at h
  cases hd : l[d]? with
  | none => exact .inr rfl
  | some v => rw [hd] at h; simp only [Option.getD_some] at h; rw [h]; exact .inl rfl

theorem wanted_rel {ops : Array Oper} {tm : List Value} {a : Act} (ht : LRel β tm a.tmps.toList) {o : Oper} {b : Bool} (h : wantedL ops tm o = some b) : Region.wanted o (yielded ops a.tmps) = b := by
  unfold wantedL at h
  unfold Region.wanted
  split at h
  · next hg => rw [hg]; simpa using h
  · next j want hg =>
    rw [hg]
    simp only [yielded]
    split at h
    · next d hd =>
      rw [hd]
      simp only [Option.bind_some]
      split at h
      · next b' hb =>
        obtain ⟨v', h1, h2⟩ := ht.get (getD_bool hb)
        rw [h2.inv_bool] at h1
        rw [Array.getElem?_toList] at h1
        rw [h1]
        simp only [Option.some.injEq] at h
        subst h
        cases b' <;> cases want <;> rfl
      · next vs hb =>
        simp only [Option.some.injEq] at h
        subst h
        rcases getD_tuple hb with hb | hb
        · obtain ⟨v', h1, h2⟩ := ht.get hb
          obtain ⟨vs', rfl, _⟩ := h2.inv_tuple
          rw [Array.getElem?_toList] at h1
          rw [h1]
          rfl
        · have hd : a.tmps[d]? = none := by
            rw [← Array.getElem?_toList]
            exact List.getElem?_eq_none (by rw [← ht.1]; exact List.getElem?_eq_none_iff.1 hb)
          rw [hd]
          rfl
      · cases h
    · cases h

/-- What a call comes to. -/
def RetRel (β : Inj) (h : Heap) (w : World) (v : Value) (h' : Heap) : Ending → World → Prop := fun e w' => ∃ v' β', e = .returned v' ∧ Step β h w β' h' w' ∧ VRel β' v v'

/-- A call of a function, as the evaluator answers it. -/
def FnOk (P : Program) (gl : Nat → Bool) (cf : CallF) : Prop :=
  ∀ f args h v h', f < YB → cf f args h = some (v, h') → ∀ β w (args' : Array Value), Sim β h w → Gl gl β → LRel β args args'.toList →
    ∃ fn, P.funcs[f]? = some fn ∧ ((fn.body.isSome = true ∧ Calls P f args' w (RetRel β h w v h')) ∨
      (∃ v' w' β', (callFunc f args').run P w = .ok (.value v') w' ∧ Step β h w β' h' w' ∧ VRel β' v v'))
/-- A call of yield. -/
def YdOk (P : Program) (gl : Nat → Bool) (cf : CallF) : Prop :=
  ∀ k args h v h', cf (YB + k) args h = some (v, h') → ∀ β w (args' : Array Value) sl, Sim β h w → Gl gl β → LRel β args args'.toList → β k = some sl →
    ∃ fn tmps asg body, (Instr.yield sl.b args').run P w = .ok (.round sl.b fn tmps asg body) w ∧ ∀ (r : Option Nat) (n : Nat), RoundIn (fence r) n P sl.b fn tmps asg body w (RetRel β h w v h')
/-- An evaluator of calls that tells the truth. -/
structure CfOk (P : Program) (gl : Nat → Bool) (cf : CallF) : Prop where
  fn : FnOk P gl cf
  yd : YdOk P gl cf

/-- No function that has a body is the one that the model answers itself. -/
def NamesOk (P : Program) : Prop := ∀ (f : FuncId) (fn : Func), P.funcs[f]? = some fn → (fn.name == "runtime.NumGoroutine") = false

theorem run_callFunc_enter (hN : NamesOk P) {f : FuncId} {fn : Func} (hf : P.funcs[f]? = some fn) (hb : fn.body.isSome = true) (args : Array Value) (w : World) : (callFunc f args).run P w = .ok (.enter f args) w := by
  have h1 := hN f fn hf
  have h2 : fn.body.isNone = false := by cases h : fn.body <;> simp_all
  simp only [callFunc, Sem.run_bind, run_program, Result.andThen_ok, hf]
  rw [h1, h2]
  rfl

theorem VRel.inv_fn {g : FuncId} {first captured : Array Value} {x : Value} (hf : VRel β (.func (.func g) first captured) x) : ∃ first' captured', x = .func (.func g) first' captured' ∧ ARel β first first' ∧ ARel β captured captured' := by
  cases hf with
  | func hy ha hc ra rc => exact ⟨_, _, rfl, ⟨ha, ra⟩, ⟨hc, rc⟩⟩
theorem VRel.inv_yield {k : Nat} {first captured : Array Value} {x : Value} (hf : VRel β (.func (.yield k) first captured) x) : ∃ sl, β k = some sl ∧ x = .func (.yield sl.b) first captured := by
  cases hf with
  | func hy ha hc ra rc => cases hy
  | yield h ha hc => exact ⟨_, h, rfl⟩

/-- A call of a function value. -/
theorem callV_wp (hN : NamesOk P) {cf : CallF} (hcf : CfOk P gl cf) {r : Option Nat} {n : Nat} {a : Act} {h : Heap} {w : World} {o : Oper} {f : Operand} {args : Array Operand} {ats : Array TypeId} (ho : o.op = .call { callee := .value f, args := args, argTypes := ats })
    {ρ : Operand → Value} {v : Value} {u : Upd} (hs : Sim β h w) (hg : Gl gl β) (hρ : ∀ x, VRel β (ρ x) (a.eval x)) (hr : applyV cf (ρ f) (args.toList.map ρ) h = some (v, u)) (next : Act → World → Prop) (Q : Exit → Act → World → Prop)
    (hk : ∀ v' w' β', Step β h w β' (u.app h) w' → VRel β' v v' → next (a.put o.dst v') w') : o.uponIn (fence r) n P a next Q ((execOp a.eval o).run P w) := by
  unfold applyV at hr
  have hf := hρ f
  split at hr
  · next g first captured hfv =>
    split at hr
    · next hgY =>
      rw [hfv] at hf
      obtain ⟨⟨v0, h'⟩, hcall, he⟩ := Option.map_eq_some_iff.1 hr
      simp only [Prod.mk.injEq] at he
      obtain ⟨rfl, rfl⟩ := he
      obtain ⟨first', captured', hfe, hfr, hcr⟩ := hf.inv_fn
      have hargs : LRel β (first.toList ++ args.toList.map ρ ++ captured.toList) (first' ++ args.map a.eval ++ captured').toList := by
        simp only [Array.toList_append, Array.toList_map]
        exact ((ARel.toList.1 hfr).append (LRel.map _ fun x _ => hρ x)).append (ARel.toList.1 hcr)
      have hex : (execOp a.eval o).run P w = (callFunc g (first' ++ args.map a.eval ++ captured')).run P w := by
        unfold execOp
        simp only [ho, resolve, hfe, Deferred.ofValue, Sem.run_bind, Sem.run_pure, Result.andThen_ok, invoke]
      rw [hex]
      obtain ⟨fn, hfn, hres⟩ := hcf.fn g _ h _ h' hgY hcall β w _ hs hg hargs
      rcases hres with ⟨hb, hcalls⟩ | ⟨v', w', β', h1, h2, h3⟩
      · rw [run_callFunc_enter hN hfn hb]
        refine ⟨fun hd => by simp [fence, Fence.wide] at hd, callsIn_fence (hcalls.mono ?_)⟩
        rintro e w' ⟨v', β', rfl, h2, h3⟩
        exact hk v' w' β' h2 h3
      · rw [h1]
        exact hk v' w' β' h2 h3
    · cases hr
  · next k first captured hfv =>
    split at hr
    · next hz =>
      rw [hfv] at hf
      obtain ⟨⟨v0, h'⟩, hcall, he⟩ := Option.map_eq_some_iff.1 hr
      simp only [Prod.mk.injEq] at he
      obtain ⟨rfl, rfl⟩ := he
      obtain ⟨sl, hb, hfe⟩ := hf.inv_yield
      have hf0 : first = #[] := Array.eq_empty_of_size_eq_zero hz.1
      have hargs : LRel β (args.toList.map ρ) (args.map a.eval).toList := by
        simp only [Array.toList_map]
        exact LRel.map _ fun x _ => hρ x
      have hex : (execOp a.eval o).run P w = (Instr.yield sl.b (args.map a.eval)).run P w := by
        unfold execOp
        simp only [ho, resolve, hfe, Deferred.ofValue, Sem.run_bind, Sem.run_pure, Result.andThen_ok, invoke, hf0, Array.empty_append]
      rw [hex]
      obtain ⟨fn, tmps, asg, body, h1, h2⟩ := hcf.yd k _ h _ h' hcall β w _ sl hs hg hargs hb
      rw [h1]
      refine ⟨fun hd => by simp [fence, Fence.wide] at hd, (h2 r (n - 1)).mono ?_⟩
      rintro e w' ⟨v', β', rfl, h3, h4⟩
      exact hk v' w' β' h3 h4
    · cases hr
  · cases hr

/-- One operation, within a region's walk. -/
theorem op_wp (hN : NamesOk P) {cf : CallF} (hcf : CfOk P gl cf) {r : Option Nat} {n : Nat} {tm : List Value} {a : Act} {h : Heap} {w : World} {o : Oper} {v : Value} {u : Upd} (hs : Sim β h w) (hg : Gl gl β) (ht : LRel β tm a.tmps.toList)
    (hr : opRun P cf (ev gl tm) o h = some (v, u)) (next : Act → World → Prop) (Q : Exit → Act → World → Prop)
    (hk : ∀ v' w' β', Step β h w β' (u.app h) w' → VRel β' v v' → next (a.put o.dst v') w') : o.wpIn (fence r) n P a w next Q := by
  refine ⟨fun _ _ => trivial, ?_⟩
  have hρ := ev_rel (β := β) hg ht
  have hnd : ∀ c, o.op ≠ .defer c := by
    intro c hc
    unfold opRun at hr
    simp [opPure, opRead, opAlloc, opEff, hc] at hr
  rw [Oper.semAt_eq _ _ _ hnd]
  unfold opRun at hr
  split at hr
  · next v0 hp =>
    simp only [Option.some.injEq, Prod.mk.injEq] at hr
    obtain ⟨rfl, rfl⟩ := hr
    obtain ⟨v', h1, h2⟩ := opPure_sim hρ hp w
    rw [h1]
    exact hk v' w β (Step.refl hs) h2
  · split at hr
    · next v0 hp =>
      simp only [Option.some.injEq, Prod.mk.injEq] at hr
      obtain ⟨rfl, rfl⟩ := hr
      obtain ⟨v', h1, h2⟩ := opRead_sim hρ hs hp
      rw [h1]
      exact hk v' w β (Step.refl hs) h2
    · split at hr
      · next B f hp =>
        simp only [Option.some.injEq, Prod.mk.injEq] at hr
        obtain ⟨rfl, rfl⟩ := hr
        obtain ⟨v', w', h1, h2⟩ := opAlloc_sim hρ (w := w) hp
        obtain ⟨β', h3, h4⟩ := h2.step hs
        rw [h1]
        exact hk v' w' β' h3 h4
      · by_cases hc : callsValue o = false
        · obtain ⟨v', w', β', h1, h2, h3⟩ := opEff_sim hρ hc hs hr
          rcases h1 with h1 | ⟨h1, rfl⟩
          · rw [h1]
            exact hk v' w' β' h2 h3
          · rw [h1]
            exact hk undef w' β' h2 h3
        · unfold callsValue at hc
          split at hc
          · next f args ats ho =>
            simp only [opEff, ho] at hr
            exact callV_wp hN hcf ho hs hg hρ hr next Q hk
          · exact absurd rfl hc

/-- A region in the order of the text. -/
theorem ops_wp (hN : NamesOk P) {cf : CallF} (hcf : CfOk P gl cf) {r : Option Nat} {n : Nat} {ops : Array Oper} (Q : Exit → Act → World → Prop) : ∀ (rest : List Oper) (i : Nat) {β : Inj} {tm tm' : List Value} {a : Act} {h h' : Heap} {w : World},
    ops.toList.drop i = rest → opsRun P gl cf ops rest tm h = some (tm', h') → Sim β h w → Gl gl β → LRel β tm a.tmps.toList →
    (∀ a' w' β', Step β h w β' h' w' → LRel β' tm' a'.tmps.toList → a'.defers = a.defers → Q .normal a' w') → wpOpsIn (fence r) n P ops Q (List.range' i rest.length) a w
  | [], i, β, tm, tm', a, h, h', w, hd, hr, hs, hg, ht, hk => by
    simp only [opsRun, Option.some.injEq, Prod.mk.injEq] at hr
    obtain ⟨rfl, rfl⟩ := hr
    exact hk a w β (Step.refl hs) ht rfl
  | o :: rest, i, β, tm, tm', a, h, h', w, hd, hr, hs, hg, ht, hk => by
    have ho : ops[i]? = some o := by
      have : (ops.toList.drop i)[0]? = some o := by rw [hd]; rfl
      rw [List.getElem?_drop] at this
      rw [← Array.getElem?_toList]; simpa using this
    have hd' : ops.toList.drop (i + 1) = rest := by rw [← List.drop_drop, hd]; rfl
    simp only [List.length_cons, List.range'_succ, wpOpsIn, ho]
    simp only [opsRun] at hr
    split at hr
    · next hw =>
      rw [wanted_rel ht hw]
      simp only [if_true]
      split at hr
      · next v u hop =>
        refine op_wp hN hcf hs hg ht hop _ _ fun v' w' β' hst hv => ?_
        refine ops_wp hN hcf Q rest (i + 1) hd' hr hst.sim (hg.mono hst.le) (put_rel (ht.mono hst.le) o.dst hv) fun a' w2 β2 h1 h2 h3 => ?_
        exact hk a' w2 β2 (hst.trans h1) h2 (h3.trans (put_defers a o.dst v'))
      · cases hr
    · next hw =>
      rw [wanted_rel ht hw]
      simp only [Bool.false_eq_true, if_false]
      refine ⟨fun _ _ => trivial, ?_⟩
      refine ops_wp hN hcf Q rest (i + 1) hd' hr hs hg (put_rel ht o.dst (.undef β)) fun a' w2 β2 h1 h2 h3 => ?_
      exact hk a' w2 β2 h1 h2 (h3.trans (put_defers a o.dst undef))
    · cases hr

theorem region_wp (hN : NamesOk P) {cf : CallF} (hcf : CfOk P gl cf) {r : Option Nat} {n : Nat} {id : Nat} {ops : Array Oper} (Q : Exit → Act → World → Prop) {tm tm' : List Value} {a : Act} {h h' : Heap} {w : World}
    (hr : opsRun P gl cf ops ops.toList tm h = some (tm', h')) (hs : Sim β h w) (hg : Gl gl β) (ht : LRel β tm a.tmps.toList)
    (hk : ∀ a' w' β', Step β h w β' h' w' → LRel β' tm' a'.tmps.toList → a'.defers = a.defers → Q .normal a' w') : (Code.region id ops false).wpIn (fence r) n P Q a w := by
  refine wpIn_region ?_
  have := ops_wp hN hcf (r := r) (n := n) Q ops.toList 0 (by simp) hr hs hg ht hk
  rwa [← List.range_eq_range', Array.length_toList] at this

/-- A loop whose rounds are counted beforehand. -/
theorem wpIn_loop_by {F : Fence} {n : Nat} {c : Code} {Q : Exit → Act → World → Prop} (I : Nat → Act → World → Prop) (hz : ∀ a w, ¬ I 0 a w)
    (round : ∀ j a w, I (j + 1) a w → c.wpIn F n P (Exit.then (I j) Q) a w) {j : Nat} {a : Act} {w : World} (h₀ : I j a w) : (Code.loop c).wpIn F n P Q a w := by
  intro b k cs hro hb hr
  have key : ∀ j a w, I j a w → ∃ e a' w', Q e a' w' ∧ ArrivesIn (Machine.fenced P F) P (lone (b.atR a (.code c :: .inLoop c :: k)) cs w) b k cs e a' w' := by
    intro j
    induction j with
    | zero => exact fun a w h => absurd h (hz a w)
    | succ j ih =>
      intro a w hI
      obtain ⟨e, a₁, w₁, hq, harr⟩ := round j a w hI b (.inLoop c :: k) cs hro hb hr
      cases e with
      | normal =>
        obtain ⟨e₂, a₂, w₂, hq₂, harr₂⟩ := ih a₁ w₁ hq
        exact ⟨e₂, a₂, w₂, hq₂, .of_steps (StepsIn.trans harr (.one (fenced_calm hb hr rfl) stepR_inLoop)) harr₂⟩
      | exit id => exact ⟨_, a₁, w₁, hq, .pass (x := .inLoop c) rfl (fun _ _ => .inl (by simp)) harr⟩
      | goto l => exact ⟨_, a₁, w₁, hq, .pass (x := .inLoop c) rfl (fun _ _ => .inl (by simp)) harr⟩
      | ret => exact ⟨_, a₁, w₁, hq, .pass (x := .inLoop c) rfl (fun _ _ => .inl (by simp)) harr⟩
      | panic ch => exact ⟨_, a₁, w₁, hq, .pass (x := .inLoop c) rfl (fun _ _ => .inl (by simp)) harr⟩
      | outgrown => exact ⟨_, a₁, w₁, hq, .pass (x := .inLoop c) rfl (fun _ _ => .inl (by simp)) harr⟩
  obtain ⟨e, a', w', hq, harr⟩ := key j a w h₀
  exact ⟨e, a', w', hq, .of_steps (.one (fenced_calm hb hr rfl) stepR_loop) harr⟩

/-- What a draw region's check must give. -/
def DrawsOk (P : Program) (gl : Nat → Bool) (cf : CallF) (c : Code) : Prop :=
  ∀ id ops, c = .region id ops true → ∀ β tm tm' (a : Act) h h' (w : World) (r : Option Nat) (n : Nat) (Q : Exit → Act → World → Prop), drawX P gl cf ops tm h = some (tm', h') → Sim β h w → Gl gl β → LRel β tm a.tmps.toList →
    (∀ a' w' β', Step β h w β' h' w' → LRel β' tm' a'.tmps.toList → a'.defers = a.defers → Q .normal a' w') → (Code.region id ops true).wpIn (fence r) n P Q a w

/-- The parts of a code. -/
inductive Part : Code → Code → Prop where
  | refl (c : Code) : Part c c
  | seqL {c a b : Code} (h : Part c a) : Part c (.seq a b)
  | seqR {c a b : Code} (h : Part c b) : Part c (.seq a b)
  | condT {c a b : Code} {o : Operand} (h : Part c a) : Part c (.cond o a b)
  | condF {c a b : Code} {o : Operand} (h : Part c b) : Part c (.cond o a b)
  | block {c a : Code} {id : Nat} (h : Part c a) : Part c (.block id a)
  | loop {c a : Code} (h : Part c a) : Part c (.loop a)

/-- The mark of a loop over a function. -/
def mark (b : Nat) : Deferred := { target := .collected b, args := #[] }
/-- The calls put off: marks that have come since, of blocks that nobody has turned. -/
def Marks (w : World) (ds : List Deferred) (β : Inj) (h : Heap) (w' : World) (ds' : List Deferred) : Prop :=
  ∃ ms : List Nat, ds' = ms.map mark ++ ds ∧ ms.Nodup ∧ ∀ b ∈ ms, w.heap.size ≤ b ∧ b < w'.heap.size ∧ w'.heap[b]? = some (.deferred (some [])) ∧ ¬ Wr β h b
theorem Marks.same {w w' : World} {ds ds' : List Deferred} {h : Heap} (e : ds' = ds) : Marks w ds β h w' ds' := ⟨[], by simpa using e, by simp, by simp⟩
theorem Marks.trans {β₁ β₂ : Inj} {w w₁ w₂ : World} {ds ds₁ ds₂ : List Deferred} {h₁ h₂ : Heap} (m : Marks w ds β₁ h₁ w₁ ds₁) (hsz : w.heap.size ≤ w₁.heap.size) (st : Step β₁ h₁ w₁ β₂ h₂ w₂) (m' : Marks w₁ ds₁ β₂ h₂ w₂ ds₂) : Marks w ds β₂ h₂ w₂ ds₂ := by
  obtain ⟨ms, rfl, hn, hb⟩ := m
  obtain ⟨ms', rfl, hn', hb'⟩ := m'
  refine ⟨ms' ++ ms, by simp, List.nodup_append.2 ⟨hn', hn, fun a ha b hb2 e => ?_⟩, fun b hm => ?_⟩
  · subst e
    have := (hb' a ha).1
    have := (hb a hb2).2.1
    omega
  · rcases List.mem_append.1 hm with hm | hm
    · obtain ⟨h1, h2⟩ := hb' b hm
      exact ⟨by omega, h2⟩
    · obtain ⟨h1, h2, h3, h4⟩ := hb b hm
      exact ⟨h1, Nat.lt_of_lt_of_le h2 st.size, (st.kept b h2 h4).trans h3, fun hw => h4 (st.back b h2 hw)⟩

/-- A block that no one names. -/
theorem step_alloc {h : Heap} {w : World} (hs : Sim β h w) (o : Obj) : Step β h w β h (w.alloc o) := by
  have hk : ∀ b, b < w.heap.size → (w.alloc o).heap[b]? = w.heap[b]? := fun b hb => by
    show (w.heap.push o)[b]? = _
    rw [Array.getElem?_push, if_neg (by omega)]
  refine ⟨β.le_refl, Nat.le_refl _, ⟨fun k sl hk => ⟨(hs.lt k sl hk).1, ?_⟩, fun k B sl h1 h2 => (hs.blk k B sl h1 h2).of_heap (hk _ (hs.lt k sl h2).2), hs.own, hs.wf⟩, ?_, rfl, rfl, rfl, fun b hb _ => hk b hb, fun _ _ h => h, fun _ _ h => .inl h, fun _ B h _ => ⟨B, h⟩⟩
  · have := (hs.lt k sl hk).2
    simp; omega
  · simp

/-- The record of a loop, laid. -/
theorem step_loop {h : Heap} {w : World} (hs : Sim β h w) {tm : List Value} {r : Loop} (hr : r.state = .ready) (hp : r.pending = none) (ht : LRel β tm r.tmps.toList) (ok : loopOk r.assign r.body = true) :
    ∃ β', Step β h w β' (h.push (.loop .ready tm r.params.toList r.assign r.body ok)) (w.alloc (.loop r)) ∧ ∃ sl, β' h.next = some sl ∧ sl.b = w.heap.size := by
  have ha : Allocs β w (.loop .ready tm r.params.toList r.assign r.body ok) (fun k => .func (.yield k) #[] #[]) (.func (.yield w.heap.size) #[] #[]) (w.alloc (.loop r)) := by
    refine ⟨by simp, rfl, rfl, rfl, fun b hb => ?_, ⟨w.heap.size, 0, 0, 0, 0, true⟩, rfl, fun β' k hle hk => ⟨⟨rfl, r, World.alloc_heap_new w _, ⟨hr, hp⟩, ht.mono hle, rfl, rfl, rfl⟩, ?_⟩⟩
    · show (w.heap.push _)[b]? = _
      rw [Array.getElem?_push, if_neg (by omega)]
    · exact .yield (sl := ⟨w.heap.size, 0, 0, 0, 0, true⟩) hk rfl rfl
  obtain ⟨β', h1, h2⟩ := ha.step hs
  obtain ⟨sl, h3, h4⟩ := h2.inv_yield
  refine ⟨β', h1, sl, h3, ?_⟩
  simp only [Value.func.injEq, Fn.yield.injEq] at h4
  exact h4.1.symm

/-- A record that is left, its real block turned. -/
theorem step_drop {h : Heap} {w w' : World} (hs : Sim β h w) {k : Nat} {B₀ : Blk} {sl : Slot} (hk : h.get k = some B₀) (hb : β k = some sl) (hw : B₀.wr = true) (ha : At w w' sl.b) : Step β h w β (h.del k) w' := by
  have hget : ∀ k' B', (h.del k).get k' = some B' → k' ≠ k ∧ h.get k' = some B' := fun k' B' hg => by
    rw [h.get_del] at hg
    split at hg
    · cases hg
    · next hne => exact ⟨hne, hg⟩
  have hown : ∀ k' B' sl', k' ≠ k → h.get k' = some B' → β k' = some sl' → sl'.b ≠ sl.b := fun k' B' sl' hne h1 h2 => (hs.own k k' B₀ B' sl sl' (Ne.symm hne) hk h1 hb h2 hw).symm
  refine ⟨β.le_refl, Nat.le_refl _, ⟨?_, ?_, ?_, Heap.wf_del hs.wf k⟩, by rw [ha.size]; exact Nat.le_refl _, ha.os, ha.tape, ha.output, ?_, ?_, fun _ _ h => .inl h, ?_⟩
  · intro k' sl' h1
    rw [ha.size]
    exact hs.lt k' sl' h1
  · intro k' B' sl' h1 h2
    obtain ⟨hne, h1⟩ := hget _ _ h1
    exact (hs.blk k' B' sl' h1 h2).of_heap (ha.kept _ (hown k' B' sl' hne h1 h2))
  · intro k₁ k₂ B₁ B₂ sl₁ sl₂ hne h1 h2 h3 h4 h5
    exact hs.own k₁ k₂ B₁ B₂ sl₁ sl₂ hne (hget _ _ h1).2 (hget _ _ h2).2 h3 h4 h5
  · intro b hb' hn
    refine ha.kept b ?_
    rintro rfl
    exact hn ⟨k, B₀, sl, hk, hw, hb, rfl⟩
  · rintro b hb' ⟨k', B', sl', h1, h2, h3, h4⟩
    exact ⟨k', B', sl', (hget _ _ h1).2, h2, h3, h4⟩
  · intro k' B' h1 h2
    exact ⟨B', (hget _ _ h1).2⟩

theorem at_putObj (w : World) (b : Nat) (o : Obj) : At w (w.putObj b o) b := ⟨by simp, rfl, rfl, rfl, fun b' hb => World.putObj_heap_other hb⟩

theorem bodied_some {P : Program} {g : FuncId} (h : bodied P g = true) : ∃ fn, P.funcs[g]? = some fn ∧ fn.body.isSome = true := by
  unfold bodied at h
  split at h
  · next fn hf => exact ⟨fn, hf, h⟩
  · cases h

theorem nr_and1 {a b : Bool} (h : (a && b) = true) : a = true := by simp only [Bool.and_eq_true] at h; exact h.1
theorem nr_and2 {a b : Bool} (h : (a && b) = true) : b = true := by simp only [Bool.and_eq_true] at h; exact h.2

/-- A code, as the evaluator runs it. -/
theorem code_wp (hN : NamesOk P) {cf : CallF} (hcf : CfOk P gl cf) {r : Option Nat} {n N : Nat} : ∀ (c : Code), (r = none ∨ noRange c = true) → (∀ d, Part d c → DrawsOk P gl cf d) → ∀ {β : Inj} {tm tm' : List Value} {a : Act} {h h' : Heap} {w : World} {e : Exit} (Q : Exit → Act → World → Prop),
    codeRun P gl cf N c tm h = some (e, tm', h') → Sim β h w → Gl gl β → LRel β tm a.tmps.toList →
    (∀ a' w' β', Step β h w β' h' w' → LRel β' tm' a'.tmps.toList → Marks w a.defers β' h' w' a'.defers → Q e a' w') → c.wpIn (fence r) n P Q a w := by
  intro c
  induction c with
  | skip =>
    intro hnr hdr β tm tm' a h h' w e Q hr hs hg ht hk
    simp only [codeRun, Option.some.injEq, Prod.mk.injEq] at hr
    obtain ⟨rfl, rfl, rfl⟩ := hr
    exact wpIn_skip (hk a w β (Step.refl hs) ht (.same rfl))
  | region id ops draw =>
    intro hnr hdr β tm tm' a h h' w e Q hr hs hg ht hk
    cases draw
    · simp only [codeRun] at hr
      obtain ⟨⟨tm2, h2⟩, hop, he⟩ := Option.map_eq_some_iff.1 hr
      simp only [Prod.mk.injEq] at he
      obtain ⟨rfl, rfl, rfl⟩ := he
      exact region_wp hN hcf Q hop hs hg ht fun a' w' β' h1 h2 h3 => hk a' w' β' h1 h2 (.same h3)
    · simp only [codeRun] at hr
      obtain ⟨⟨tm2, h2⟩, hop, he⟩ := Option.map_eq_some_iff.1 hr
      simp only [Prod.mk.injEq] at he
      obtain ⟨rfl, rfl, rfl⟩ := he
      exact hdr _ (.refl _) id ops rfl β tm tm2 a h h2 w r n Q hop hs hg ht fun a' w' β' h1 h2 h3 => hk a' w' β' h1 h2 (.same h3)
  | seq x y ihx ihy =>
    intro hnr hdr β tm tm' a h h' w e Q hr hs hg ht hk
    simp only [codeRun] at hr
    refine wpIn_seq ?_
    split at hr
    · next tm1 h1 hx =>
      refine ihx (hnr.imp id nr_and1) (fun d hd => hdr d (.seqL hd)) _ hx hs hg ht fun a1 w1 β1 hst1 ht1 hd1 => ?_
      exact ihy (hnr.imp id nr_and2) (fun d hd => hdr d (.seqR hd)) _ hr hst1.sim (hg.mono hst1.le) ht1 fun a2 w2 β2 hst2 ht2 hd2 => hk a2 w2 β2 (hst1.trans hst2) ht2 (hd1.trans hst1.size hst2 hd2)
    · next hne =>
      refine ihx (hnr.imp id nr_and1) (fun d hd => hdr d (.seqL hd)) _ hr hs hg ht fun a1 w1 β1 hst1 ht1 hd1 => ?_
      have := hk a1 w1 β1 hst1 ht1 hd1
      cases e with
      | normal => exact absurd hr (hne _ _)
      | _ => exact this
  | cond o x y ihx ihy =>
    intro hnr hdr β tm tm' a h h' w e Q hr hs hg ht hk
    simp only [codeRun] at hr
    split at hr
    · next t hev =>
      have hc : a.eval o = .bool t := by
        have := ev_rel (β := β) hg ht o
        rw [hev] at this
        exact this.inv_bool
      cases t
      · exact wpIn_cond hc (ihy (hnr.imp id nr_and2) (fun d hd => hdr d (.condF hd)) Q hr hs hg ht hk)
      · exact wpIn_cond hc (ihx (hnr.imp id nr_and1) (fun d hd => hdr d (.condT hd)) Q hr hs hg ht hk)
    · cases hr
  | block id x ih =>
    intro hnr hdr β tm tm' a h h' w e Q hr hs hg ht hk
    simp only [codeRun] at hr
    refine wpIn_block ?_
    split at hr
    · next id' tm1 h1 hx =>
      refine ih hnr (fun d hd => hdr d (.block hd)) _ hx hs hg ht fun a1 w1 β1 hst1 ht1 hd1 => ?_
      split at hr
      · next he =>
        simp only [Option.some.injEq, Prod.mk.injEq] at hr
        obtain ⟨rfl, rfl, rfl⟩ := hr
        simp only [Exit.inBlock, he, if_true]
        exact hk a1 w1 β1 hst1 ht1 hd1
      · next he =>
        simp only [Option.some.injEq, Prod.mk.injEq] at hr
        obtain ⟨rfl, rfl, rfl⟩ := hr
        simp only [Exit.inBlock, he, if_false]
        exact hk a1 w1 β1 hst1 ht1 hd1
    · next hne =>
      refine ih hnr (fun d hd => hdr d (.block hd)) _ hr hs hg ht fun a1 w1 β1 hst1 ht1 hd1 => ?_
      have := hk a1 w1 β1 hst1 ht1 hd1
      cases e with
      | exit id' => exact absurd hr (hne _ _ _)
      | _ => exact this
  | loop x ih =>
    intro hnr hdr β tm tm' a h h' w e Q hr hs hg ht hk
    simp only [codeRun] at hr
    refine wpIn_loop_by (fun j a1 w1 => ∃ β1 tm1 h1, Step β h w β1 h1 w1 ∧ LRel β1 tm1 a1.tmps.toList ∧ Marks w a.defers β1 h1 w1 a1.defers ∧ iter (codeRun P gl cf N x) j tm1 h1 = some (e, tm', h')) ?_ ?_ (j := N) ⟨β, tm, h, Step.refl hs, ht, .same rfl, hr⟩
    · rintro a1 w1 ⟨β1, tm1, h1, _, _, _, h5⟩
      simp [iter] at h5
    · rintro j a1 w1 ⟨β1, tm1, h1, hst1, ht1, hd1, hit⟩
      simp only [iter] at hit
      split at hit
      · next tm2 h2 hx =>
        refine ih hnr (fun d hd => hdr d (.loop hd)) _ hx hst1.sim (hg.mono hst1.le) ht1 fun a2 w2 β2 hst2 ht2 hd2 => ?_
        exact ⟨β2, tm2, h2, hst1.trans hst2, ht2, hd1.trans hst1.size hst2 hd2, hit⟩
      · next hne =>
        refine ih hnr (fun d hd => hdr d (.loop hd)) _ hit hst1.sim (hg.mono hst1.le) ht1 fun a2 w2 β2 hst2 ht2 hd2 => ?_
        have := hk a2 w2 β2 (hst1.trans hst2) ht2 (hd1.trans hst1.size hst2 hd2)
        cases e with
        | normal => exact absurd hit (hne _ _)
        | _ => exact this
  | exit id =>
    intro hnr hdr β tm tm' a h h' w e Q hr hs hg ht hk
    simp only [codeRun, Option.some.injEq, Prod.mk.injEq] at hr
    obtain ⟨rfl, rfl, rfl⟩ := hr
    exact wpIn_exit (hk a w β (Step.refl hs) ht (.same rfl))
  | ret =>
    intro hnr hdr β tm tm' a h h' w e Q hr hs hg ht hk
    simp only [codeRun, Option.some.injEq, Prod.mk.injEq] at hr
    obtain ⟨rfl, rfl, rfl⟩ := hr
    exact wpIn_ret (hk a w β (Step.refl hs) ht (.same rfl))
  | label l =>
    intro hnr hdr β tm tm' a h h' w e Q hr hs hg ht hk
    simp only [codeRun, Option.some.injEq, Prod.mk.injEq] at hr
    obtain ⟨rfl, rfl, rfl⟩ := hr
    exact wpIn_label (hk a w β (Step.refl hs) ht (.same rfl))
  | rangeFunc f ps x y _ _ =>
    intro hnr hdr β tm tm' a h h' w e Q hr hs hg ht hk
    rcases hnr with rfl | hnr
    · simp only [codeRun] at hr
      split at hr
      · next g first captured hfv =>
        split at hr
        · next hok =>
          split at hr
          · next hgb =>
            split at hr
            · next v2 h2 hcall =>
              obtain ⟨e2, hend, he⟩ := Option.map_eq_some_iff.1 hr
              simp only [Prod.mk.injEq] at he
              obtain ⟨rfl, rfl, rfl⟩ := he
              refine wpIn_rangeFunc fun fnI hFn => ?_
              have hs0 : Step β h w β h (w.alloc (.deferred (some []))) := step_alloc hs _
              obtain ⟨β1, hst1, sl, hsl, hslb⟩ := step_loop hs0.sim (tm := tm) (r := { state := .ready, pending := none, fn := fnI, tmps := a.tmps, params := ps, assign := x, body := y, defers := w.heap.size }) rfl rfl ht hok
              have hst01 := hs0.trans hst1
              have hf := ev_rel (β := β) hg ht f
              rw [hfv] at hf
              obtain ⟨first', captured', hfe, hfr, hcr⟩ := hf.inv_fn
              have hslb' : sl.b = w.heap.size + 1 := by rw [hslb]; simp
              have hargs : LRel β1 (first.toList ++ [Value.func (.yield h.next) #[] #[]] ++ captured.toList) (first' ++ #[Value.func (.yield (w.heap.size + 1)) #[] #[]] ++ captured').toList := by
                simp only [Array.toList_append]
                refine (((ARel.toList.1 hfr).mono hst01.le).append ?_).append ((ARel.toList.1 hcr).mono hst01.le)
                exact .cons (by have := VRel.yield hsl (a := #[]) (c := #[]) rfl rfl; rwa [hslb'] at this) (.nil _)
              obtain ⟨fn, hfn, hres⟩ := hcf.fn g _ _ _ h2 hgb.1 hcall β1 _ _ hst1.sim (hg.mono hst01.le) hargs
              obtain ⟨fn2, hfn2, hbody⟩ := bodied_some hgb.2
              rw [hfn2] at hfn
              obtain rfl := Option.some.inj hfn
              have hent := run_callFunc_enter hN hfn2 hbody (first' ++ #[Value.func (.yield (w.heap.size + 1)) #[] #[]] ++ captured')
              have hcalls : Calls P g (first' ++ #[Value.func (.yield (w.heap.size + 1)) #[] #[]] ++ captured') ((w.alloc (.deferred (some []))).alloc (.loop { state := .ready, pending := none, fn := fnI, tmps := a.tmps, params := ps, assign := x, body := y, defers := w.heap.size })) (RetRel β1 (h.push (.loop .ready tm ps.toList x y hok)) ((w.alloc (.deferred (some []))).alloc (.loop { state := .ready, pending := none, fn := fnI, tmps := a.tmps, params := ps, assign := x, body := y, defers := w.heap.size })) v2 h2) := by
                rcases hres with ⟨_, hc⟩ | ⟨v', w', β', hc, _⟩
                · exact hc
                · rw [hent] at hc; cases hc
              have henter : (Instr.enterLoop fnI a.tmps ps x y (fence none).round).run P w = .ok (w.heap.size + 1, [mark w.heap.size]) ((w.alloc (.deferred (some []))).alloc (.loop { state := .ready, pending := none, fn := fnI, tmps := a.tmps, params := ps, assign := x, body := y, defers := w.heap.size })) := run_enterLoop_outer fnI a.tmps ps x y
              have hresv : (resolve a.eval (rangeCall f (w.heap.size + 1)) 0).run P ((w.alloc (.deferred (some []))).alloc (.loop { state := .ready, pending := none, fn := fnI, tmps := a.tmps, params := ps, assign := x, body := y, defers := w.heap.size })) = .ok { target := .fn (.func g) captured', args := first' ++ #[Value.func (.yield (w.heap.size + 1)) #[] #[]] } ((w.alloc (.deferred (some []))).alloc (.loop { state := .ready, pending := none, fn := fnI, tmps := a.tmps, params := ps, assign := x, body := y, defers := w.heap.size })) := by
                have he : resolve a.eval (rangeCall f (w.heap.size + 1)) 0 = Deferred.ofValue (a.eval f) #[Value.func (.yield (w.heap.size + 1)) #[] #[]] := by
                  unfold resolve rangeCall
                  simp only [List.map_toArray, List.map_cons, List.map_nil]
                  rfl
                rw [he, hfe]
                rfl
              refine ⟨_, _, _, _, _, g, _, _, henter, hresv, fun _ _ => trivial, hent _, fun hd => by simp [fence, Fence.wide] at hd, callsIn_fence (hcalls.mono ?_)⟩
              rintro e' w3 ⟨v', β3, rfl, hst3, hv3⟩
              cases hB : h2.get h.next with
              | none => rw [hB] at hend; cases hend
              | some B =>
                rw [hB] at hend
                have hsl3 := hst3.le _ _ hsl
                cases B with
                | cells _ _ _ _ => cases hend
                | map _ => cases hend
                | loop st tm2 ps2 asg2 body2 ok2 =>
                  obtain ⟨_, r, hr1, hr2, _⟩ := hst3.sim.blk _ _ _ hB hsl3
                  rw [hslb'] at hr1
                  have hmk : Marks w a.defers β3 (h2.del h.next) (w3.putObj (w.heap.size + 1) (.loop { r with state := .exhausted })) ([mark w.heap.size] ++ a.defers) := by
                    have hnw : ¬ Wr β1 (h.push (.loop .ready tm ps.toList x y hok)) w.heap.size := fun hw => by
                      have := hst1.back w.heap.size (by simp) hw
                      obtain ⟨k, B, sl0, _, _, h3, h4⟩ := this
                      have := (hs.lt k sl0 h3).2
                      omega
                    have hsz : w.heap.size < ((w.alloc (.deferred (some []))).alloc (.loop { state := .ready, pending := none, fn := fnI, tmps := a.tmps, params := ps, assign := x, body := y, defers := w.heap.size })).heap.size := by simp; omega
                    refine ⟨[w.heap.size], rfl, by simp, fun b hb => ?_⟩
                    obtain rfl := List.mem_singleton.1 hb
                    refine ⟨Nat.le_refl _, ?_, ?_, fun hw => ?_⟩
                    · rw [World.putObj_size]; exact Nat.lt_of_lt_of_le hsz hst3.size
                    · rw [World.putObj_heap_other (by omega), hst3.kept _ hsz hnw]
                      show ((w.heap.push _).push _)[w.heap.size]? = _
                      rw [Array.getElem?_push, if_neg (by simp), Array.getElem?_push, if_pos rfl]
                    · obtain ⟨k, B, sl0, h1, h2', h3, h4⟩ := hw
                      refine hnw (hst3.back _ hsz ⟨k, B, sl0, ?_, h2', h3, h4⟩)
                      rw [Heap.get_del] at h1
                      split at h1
                      · cases h1
                      · exact h1
                  have hdrop : Step β3 h2 w3 β3 (h2.del h.next) (w3.putObj (w.heap.size + 1) (.loop { r with state := .exhausted })) := step_drop hst3.sim hB hsl3 rfl (by rw [hslb']; exact at_putObj _ _ _)
                  have hall := (hst01.trans hst3).trans hdrop
                  have htm := ht.mono (hst01.trans hst3).le
                  have hfin := hk { a with defers := [mark w.heap.size] ++ a.defers } _ β3 hall htm hmk
                  have hnb : r.state ≠ .busy := by
                    cases st <;> simp only [LStRel] at hr2 <;> first | (rw [hr2.1]; simp; done) | cases hend
                  refine ⟨r.pending, _, run_endLoop hr1 hnb, ?_⟩
                  cases st with
                  | ready =>
                    obtain rfl := Option.some.inj hend
                    have hp : r.pending = none := hr2.2
                    rw [hp] at hfin ⊢
                    exact hfin
                  | busy => cases hend
                  | ret =>
                    obtain rfl := Option.some.inj hend
                    have hp : r.pending = some .ret := hr2.2
                    rw [hp] at hfin ⊢
                    exact wpIn_ret hfin
                  | exit id =>
                    obtain rfl := Option.some.inj hend
                    have hp : r.pending = some (.exit id) := hr2.2
                    rw [hp] at hfin ⊢
                    exact wpIn_exit hfin
            · cases hr
          · cases hr
        · cases hr
      · cases hr
    · cases hnr
  | scope x _ => intro hnr hdr β tm tm' a h h' w e Q hr; simp [codeRun] at hr
  | goto l => intro hnr hdr β tm tm' a h h' w e Q hr; simp [codeRun] at hr
  | refuse s => intro hnr hdr β tm tm' a h h' w e Q hr; simp [codeRun] at hr
end Go.Ab
