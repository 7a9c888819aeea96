/- A closure that recovers, called where nothing panics: it does nothing. -/
import Derived.Test.YtcngigfjdlgfbaaGreatDoorAbTab
namespace Go.Ab
open Go Go.RowKit
variable {β : Inj} {P : Program} {gl : Nat → Bool}

theorem op_value {cf : CallF} {tm : List Value} {a : Act} {h : Heap} {w : World} {o : Oper} {v : Value} {u : Upd} (hs : Sim β h w) (hg : Gl gl β) (ht : LRel β tm a.tmps.toList) (hc : callsValue o = false) (hr : opRun P cf (ev gl tm) o h = some (v, u)) :
    ∃ v' w' β', Step β h w β' (u.app h) w' ∧ VRel β' v v' ∧ ((execOp a.eval o).run P w = .ok (.value v') w' ∨ ((execOp a.eval o).run P w = .ok .skip w' ∧ v' = undef)) := by
  have hρ := ev_rel (β := β) hg ht
  unfold opRun at hr
  split at hr
  · next v0 hp =>
    simp only [Option.some.injEq, Prod.mk.injEq] at hr
    obtain ⟨rfl, rfl⟩ := hr
    obtain ⟨v', h1, h2⟩ := opPure_sim hρ hp w
    exact ⟨v', w, β, Step.refl hs, h2, .inl h1⟩
  · split at hr
    · next v0 hp =>
      simp only [Option.some.injEq, Prod.mk.injEq] at hr
      obtain ⟨rfl, rfl⟩ := hr
      obtain ⟨v', h1, h2⟩ := opRead_sim hρ hs hp
      exact ⟨v', w, β, Step.refl hs, h2, .inl h1⟩
    · split at hr
      · next B f hp =>
        simp only [Option.some.injEq, Prod.mk.injEq] at hr
        obtain ⟨rfl, rfl⟩ := hr
        obtain ⟨v', w', h1, h2⟩ := opAlloc_sim hρ (w := w) hp
        obtain ⟨β', h3, h4⟩ := h2.step hs
        exact ⟨v', w', β', h3, h4, .inl h1⟩
      · obtain ⟨v', w', β', h1, h2, h3⟩ := opEff_sim hρ hc hs hr
        rcases h1 with h1 | ⟨h1, rfl⟩
        · exact ⟨v', w', β', h2, h3, .inl h1⟩
        · exact ⟨undef, w', β', h2, h3, .inr ⟨h1, rfl⟩⟩

theorem opsS {cf : CallF} {ops : Array Oper} {cs : List Frame} (Q : Exit → Act → List Frame → World → Prop) : ∀ (rest : List Oper) (i : Nat) {β : Inj} {tm tm' : List Value} {a : Act} {h h' : Heap} {w : World},
    ops.toList.drop i = rest → (rest.all fun o => !callsValue o) = true → opsRun P gl cf ops rest tm h = some (tm', h') → Sim β h w → Gl gl β → LRel β tm a.tmps.toList →
    (∀ a' w' β', Step β h w β' h' w' → LRel β' tm' a'.tmps.toList → a'.defers = a.defers → Q .normal a' cs w') → wpOpsS P ops Q (List.range' i rest.length) a cs w
  | [], i, β, tm, tm', a, h, h', w, hd, _, hr, hs, hg, ht, hk => by
    simp only [opsRun, Option.some.injEq, Prod.mk.injEq] at hr
    obtain ⟨rfl, rfl⟩ := hr
    exact hk a w β (Step.refl hs) ht rfl
  | o :: rest, i, β, tm, tm', a, h, h', w, hd, hall, hr, hs, hg, ht, hk => by
    have ho : ops[i]? = some o := by
      have : (ops.toList.drop i)[0]? = some o := by rw [hd]; rfl
      rw [List.getElem?_drop] at this
      rw [← Array.getElem?_toList]; simpa using this
    have hd' : ops.toList.drop (i + 1) = rest := by rw [← List.drop_drop, hd]; rfl
    simp only [List.all_cons, Bool.and_eq_true, Bool.not_eq_true'] at hall
    simp only [List.length_cons, List.range'_succ, wpOpsS, ho]
    simp only [opsRun] at hr
    split at hr
    · next hw =>
      rw [wanted_rel ht hw]
      simp only [if_true]
      split at hr
      · next v u hop =>
        obtain ⟨v', w', β', hst, hv, hrun⟩ := op_value hs hg ht hall.1 hop
        have hgo := opsS (cs := cs) Q rest (i + 1) hd' (by simpa using hall.2) hr hst.sim (hg.mono hst.le) (put_rel (ht.mono hst.le) o.dst hv) fun a' w2 β2 h1 h2 h3 => hk a' w2 β2 (hst.trans h1) h2 (h3.trans (put_defers a o.dst v'))
        rcases hrun with hrun | ⟨hrun, rfl⟩
        · rw [hrun]; exact hgo
        · rw [hrun]; exact hgo
      · cases hr
    · next hw =>
      rw [wanted_rel ht hw]
      simp only [Bool.false_eq_true, if_false]
      exact opsS (cs := cs) Q rest (i + 1) hd' (by simpa using hall.2) hr hs hg (put_rel ht o.dst (.undef β)) fun a' w2 β2 h1 h2 h3 => hk a' w2 β2 h1 h2 (h3.trans (put_defers a o.dst undef))
    · cases hr

/-- The closure's run, where recover finds nothing. -/
noncomputable def idleRun (P : Program) (fn : Func) (ops0 ops1 : Array Oper) (c : Operand) (n : Nat) : Bool :=
  match ops0.toList with
  | o :: rest => match o.dst with
    | some d => match opsRun P noGl noCf ops0 rest ((List.replicate n junk ++ List.replicate (fn.ntmps - n) undef).set d .nilIface) ⟨0, .nil⟩ with
      | some (tm1, h1) => match opsRun P noGl noCf ops1 ops1.toList tm1 h1 with
        | some (tm2, _) => match ev noGl tm2 c with
          | .bool false => (rest.all fun o => !callsValue o) && (ops1.toList.all fun o => !callsValue o) && o.guard.isNone && fn.results.size == 0
          | _ => false
        | none => false
      | none => false
    | none => false
  | [] => false

theorem idle_ok {fC : FuncId} {fn : Func} {i0 i1 n : Nat} {o0 : Oper} {rest0 : List Oper} {ops1 : Array Oper} {c : Operand} {X : Code} (hf : P.funcs[fC]? = some fn) (hb : fn.body = some (.seq (.region i0 (o0 :: rest0).toArray false) (.seq (.region i1 ops1 false) (.cond c X .skip))))
    (ho : o0.op = .call { callee := .builtin .recover, args := #[], argTypes := #[] }) (hrun : idleRun P fn (o0 :: rest0).toArray ops1 c n = true) (args : Array Value) (w : World) (hn : args.size = n) :
    CallsDIn Fence.wide 0 P fC args .returning w fun e u' w' => (∃ v, e = .returned v) ∧ u' = .returning ∧ Below w.heap.size w w' := by
  subst hn
  unfold idleRun at hrun
  simp only at hrun
  split at hrun
  · next d hd =>
    split at hrun
    · next tm1 h1 hr1 =>
      split at hrun
      · next tm2 h2 hr2 =>
        split at hrun
        · next hev =>
          simp only [Bool.and_eq_true, beq_iff_eq, Option.isNone_iff_eq_none] at hrun
          obtain ⟨⟨⟨hall0, hall1⟩, hgd⟩, hres⟩ := hrun
          refine callsDIn_recovers hf hb fun c₀ cs hu => ?_
          refine wpS_seq (wpS_region ?_)
          have hjunk : ∀ (l : List Value), LRel β0 (List.replicate l.length junk) l := fun l => ⟨by simp, fun i v v' h1 h2 => by
            rw [List.getElem?_replicate] at h1
            split at h1
            · obtain rfl := Option.some.inj h1; exact .junk v'
            · cases h1⟩
          have hrep : ∀ k, LRel β0 (List.replicate k undef) (List.replicate k undef) := fun k => ⟨rfl, fun i v v' h1 h2 => by
            rw [List.getElem?_replicate] at h1 h2
            split at h1
            · next hi => rw [if_pos hi] at h2; obtain rfl := Option.some.inj h1; obtain rfl := Option.some.inj h2; exact .undef _
            · cases h1⟩
          have ht0 : LRel β0 (List.replicate args.size junk ++ List.replicate (fn.ntmps - args.size) undef) (args ++ Array.replicate (fn.ntmps - args.size) undef).toList := by
            simp only [Array.toList_append, Array.toList_replicate]
            have := hjunk args.toList
            rw [Array.length_toList] at this
            exact this.append (hrep _)
          have hw0 : ∀ t, Region.wanted o0 (yielded (o0 :: rest0).toArray t) = true := fun t => by simp [Region.wanted, hgd]
          have hrec : ∀ (ρ : Operand → Value), (execOp ρ o0).run P w = .ok .recover w := fun ρ => by
            unfold execOp
            simp only [ho, resolve, Sem.run_bind, Sem.run_pure, Result.andThen_ok, invoke]
            rfl
          have hnone : recoverD (c₀ :: cs) = none := by simp [recoverD, hu]
          show wpOpsS P (o0 :: rest0).toArray _ (List.range (rest0.length + 1)) _ _ w
          rw [List.range_eq_range', List.range'_succ]
          rw [wpOpsS]
          simp only [List.getElem?_toArray, List.getElem?_cons_zero, hw0, if_true, hrec, hnone]
          rw [hd]
          refine opsS (cf := noCf) (gl := noGl) _ rest0 1 (by simp) hall0 hr1 (sim_nil 0 w) gl_nil (put_rel ht0 (some d) (v := .nilIface) .nilIface) fun a1 w1 β1 hst1 ht1 hd1 => ?_
          refine wpS_seq (wpS_region ?_)
          rw [← Array.length_toList, List.range_eq_range']
          refine opsS (cf := noCf) (gl := noGl) _ ops1.toList 0 (by simp) hall1 hr2 hst1.sim (gl_nil.mono hst1.le) ht1 fun a2 w2 β2 hst2 ht2 hd2 => ?_
          refine wpS_cond (t := false) ?_ ?_
          · have := ev_rel (gl_nil.mono (hst1.trans hst2).le) ht2 c
            rw [hev] at this
            exact this.inv_bool
          · show Code.wpS P .skip _ a2 (c₀ :: cs) w2
            refine wpS_of_wp (wp_skip ?_)
            refine ⟨hd2.trans (hd1.trans (put_defers _ _ _)), .returning, by cases c₀; simp_all, .tuple #[], ?_, ⟨⟨_, rfl⟩, rfl, below_of_step (hst1.trans hst2)⟩⟩
            have : fn.results = #[] := Array.eq_empty_of_size_eq_zero hres
            simp [results, this]
        · cases hrun
      · cases hrun
    · cases hrun
  · cases hrun
end Go.Ab
