/- The evaluator of small memories: a part (AbCall). -/
import Derived.Test.YtcngigfjdlgfbaaGreatDoorAbCode
namespace Go.Ab
open Go
variable {β : Inj} {P : Program} {gl : Nat → Bool}

def resAt (tmps : Array Value) : ResultVar → Sem Value
  | .tmp t => pure (tmps.getD t undef)
  | .cell x t => do loadVar t (← asAddr (tmps.getD x undef))
theorem results_eq (fn : Func) (tmps : Array Value) : results fn tmps = (do let vs ← fn.results.mapM (resAt tmps); pure (if h : vs.size = 1 then vs[0] else .tuple vs)) := by
  unfold results
  congr 1

theorem results_list {a : Act} {h : Heap} {w : World} (hs : Sim β h w) {tm : List Value} (ht : LRel β tm a.tmps.toList) : ∀ (l : List ResultVar) {vs : List Value}, resultsRun P tm h l = some vs →
    ∃ vs', (l.mapM (resAt a.tmps)).run P w = .ok vs' w ∧ LRel β vs vs'
  | [], vs, h => by simp only [resultsRun, Option.some.injEq] at h; subst h; exact ⟨[], by simp, .nil β⟩
  | .tmp t :: l, vs, hr => by
    simp only [resultsRun] at hr
    obtain ⟨vs0, h0, rfl⟩ := Option.map_eq_some_iff.1 hr
    obtain ⟨vs', h1, h2⟩ := results_list hs ht l h0
    have hv := ht.getD t
    rw [show a.tmps.toList.getD t undef = a.tmps.getD t undef by simp [List.getD, Array.getD_eq_getD_getElem?]] at hv
    refine ⟨a.tmps.getD t undef :: vs', ?_, .cons hv h2⟩
    rw [List.mapM_cons]
    simp only [Sem.run_bind, resAt, Sem.run_pure, Result.andThen_ok, h1]
  | .cell x t :: l, vs, hr => by
    simp only [resultsRun] at hr
    split at hr
    · next v hl =>
      obtain ⟨vs0, h0, rfl⟩ := Option.map_eq_some_iff.1 hr
      obtain ⟨vs', h1, h2⟩ := results_list hs ht l h0
      have hv := ht.getD x
      rw [show a.tmps.toList.getD x undef = a.tmps.getD x undef by simp [List.getD, Array.getD_eq_getD_getElem?]] at hv
      obtain ⟨ad, he, v', hrun, hvr⟩ := load_sim (P := P) hs hl hv
      refine ⟨v' :: vs', ?_, .cons hvr h2⟩
      rw [List.mapM_cons]
      simp only [Sem.run_bind, resAt, he, asAddr, Sem.run_pure, Result.andThen_ok, hrun, h1]
    · cases hr

theorem results_sim {fn : Func} {a : Act} {h : Heap} {w : World} (hs : Sim β h w) {tm : List Value} (ht : LRel β tm a.tmps.toList) {vs : List Value} (hr : resultsRun P tm h fn.results.toList = some vs) :
    ∃ v', (results fn a.tmps).run P w = .ok v' w ∧ VRel β (packResults vs) v' := by
  obtain ⟨vs', h1, h2⟩ := results_list (P := P) hs ht fn.results.toList hr
  have hm : (fn.results.mapM (resAt a.tmps)).run P w = .ok vs'.toArray w := by
    rw [Array.mapM_eq_mapM_toList]
    simp only [Sem.run_map, h1, Result.andThen_ok]
  refine ⟨if h : vs'.toArray.size = 1 then vs'.toArray[0] else .tuple vs'.toArray, ?_, ?_⟩
  · rw [results_eq]
    simp only [Sem.run_bind, hm, Result.andThen_ok, Sem.run_pure]
  · match vs, vs', h2 with
    | [], vs', h2 => rw [h2.inv_nil]; exact .tuple rfl fun i v v' h => by simp at h
    | [v], vs', h2 =>
      obtain ⟨v', r, rfl, hv, hr⟩ := h2.inv_cons
      rw [hr.inv_nil]
      exact hv
    | v :: u :: vs, vs', h2 =>
      have hl := h2.1
      have hne : ¬ vs'.toArray.size = 1 := by simp only [List.size_toArray]; simp only [List.length_cons] at hl; omega
      rw [dif_neg hne]
      exact .tuple (by simpa using hl) fun i x x' h3 h4 => h2.2 i x x' (by simpa using h3) (by simpa using h4)

theorem BRel.not_deferred {B : Blk} {sl : Slot} {w : World} (h : BRel β B sl w) {d : Option (List Deferred)} (hd : w.heap[sl.b]? = some (.deferred d)) : False := by
  cases B with
  | cells cs t sz wr => obtain ⟨_, _, _, cs', fr, h4, _⟩ := h; rw [hd] at h4; cases h4
  | map es => obtain ⟨_, es', clock, h2, _⟩ := h; rw [hd] at h2; cases h2
  | loop st tm ps asg body ok => obtain ⟨_, r, h2, _⟩ := h; rw [hd] at h2; cases h2

/-- A mark that is taken. -/
theorem step_shut {β₀ : Inj} {h₀ h : Heap} {w₀ w : World} (st : Step β₀ h₀ w₀ β h w) {b : Nat} {d d' : Option (List Deferred)} (hb : w₀.heap.size ≤ b) (hd : w.heap[b]? = some (.deferred d)) : Step β₀ h₀ w₀ β h (w.putObj b (.deferred d')) := by
  refine ⟨st.le, st.next, ⟨fun k sl hk => ?_, fun k B sl h1 h2 => ?_, st.sim.own, st.sim.wf⟩, ?_, st.os, st.tape, st.output, fun b' hb' hw => ?_, st.back, st.fresh, st.keys⟩
  · rw [World.putObj_size]; exact st.sim.lt k sl hk
  · have hB := st.sim.blk k B sl h1 h2
    refine hB.of_heap (World.putObj_heap_other fun e => ?_)
    rw [← e] at hd
    exact hB.not_deferred hd
  · rw [World.putObj_size]; exact st.size
  · rw [World.putObj_heap_other (by omega)]
    exact st.kept b' hb' hw

theorem leaves_marks {F : Fence} {n : Nat} {fn : Func} {β₀ β' : Inj} {h₀ h' : Heap} {w₀ : World} {tm : List Value} {tmps : Array Value} {vs : List Value} (hres : resultsRun P tm h' fn.results.toList = some vs) (ht : LRel β' tm tmps.toList) :
    ∀ (ms : List Nat) (w' : World), ms.Nodup → (∀ b ∈ ms, w₀.heap.size ≤ b ∧ w'.heap[b]? = some (.deferred (some []))) → Step β₀ h₀ w₀ β' h' w' → LeavesInM F n P fn tmps (RetRel β₀ h₀ w₀ (packResults vs) h') (ms.map mark) .returning w'
  | [], w', _, _, st => by
    obtain ⟨v', h1, h2⟩ := results_sim (P := P) (fn := fn) (a := { tmps := tmps, defers := [] }) st.sim ht hres
    exact ⟨v', h1, v', β', rfl, st, h2⟩
  | b :: ms, w', hn, hb, st => by
    obtain ⟨h1, h2⟩ := hb b (by simp)
    obtain ⟨hn1, hn2⟩ := List.nodup_cons.1 hn
    refine ⟨by simp, .inl ⟨b, _, rfl, run_takeDeferred h2, ?_⟩⟩
    refine leaves_marks hres ht ms _ hn2 (fun b' hm => ?_) (step_shut st h1 h2)
    obtain ⟨h3, h4⟩ := hb b' (by simp [hm])
    exact ⟨h3, by rw [World.putObj_heap_other (by rintro rfl; exact hn1 hm)]; exact h4⟩

/-- What is asked of a function that a law of its own tells. -/
def PrimOk (P : Program) (gl : Nat → Bool) (f : FuncId) (p : Prim) : Prop :=
  ∀ cf, CfOk P gl cf → ∀ args h v h', p cf args h = some (v, h') → ∀ β w (args' : Array Value), Sim β h w → Gl gl β → LRel β args args'.toList →
    ∃ fn, P.funcs[f]? = some fn ∧ ((fn.body.isSome = true ∧ Calls P f args' w (RetRel β h w v h')) ∨
      (∃ v' w' β', (callFunc f args').run P w = .ok (.value v') w' ∧ Step β h w β' h' w' ∧ VRel β' v v'))

def PrimsOk (P : Program) (gl : Nat → Bool) (pr : FuncId → Option Prim) : Prop := ∀ f p, pr f = some p → PrimOk P gl f p

/-- The draw regions of the program's text. -/
def AllDraws (P : Program) (gl : Nat → Bool) : Prop := ∀ cf, CfOk P gl cf → ∀ (f : FuncId) (fn : Func) (c d : Code), P.funcs[f]? = some fn → fn.body = some c → Part d c → DrawsOk P gl cf d

theorem body_calls (hN : NamesOk P) {cf : CallF} (hcf : CfOk P gl cf) {N : Nat} {f : FuncId} {fn : Func} {c : Code} (hf : P.funcs[f]? = some fn) (hb : fn.body = some c) (hd : ∀ d, Part d c → DrawsOk P gl cf d)
    {args : List Value} {h h' : Heap} {tm : List Value} {e : Exit} {vs : List Value} (hr : codeRun P gl cf N c (args ++ List.replicate (fn.ntmps - args.length) undef) h = some (e, tm, h')) (he : e = .normal ∨ e = .ret)
    (hres : resultsRun P tm h' fn.results.toList = some vs) {w : World} {args' : Array Value} (hs : Sim β h w) (hg : Gl gl β) (ha : LRel β args args'.toList) :
    Calls P f args' w (RetRel β h w (packResults vs) h') := by
  refine (callsIn_wide (n := 0)).1 (callsIn_of_wp_marks (F := Fence.wide) hf hb trivial ?_)
  have hrep : ∀ k, LRel β (List.replicate k undef) (List.replicate k undef) := fun k => ⟨rfl, fun i v v' h1 h2 => by
    rw [List.getElem?_replicate] at h1 h2
    split at h1
    · next hi => rw [if_pos hi] at h2; obtain rfl := Option.some.inj h1; obtain rfl := Option.some.inj h2; exact .undef β
    · cases h1⟩
  have ht : LRel β (args ++ List.replicate (fn.ntmps - args.length) undef) (args' ++ Array.replicate (fn.ntmps - args'.size) undef).toList := by
    have : args'.size = args.length := by rw [ha.1]; simp
    rw [this]
    simp only [Array.toList_append, Array.toList_replicate]
    exact ha.append (hrep _)
  refine code_wp (r := none) hN hcf c (.inl rfl) hd _ hr hs hg ht fun a w' β' hst ht' hd' => ?_
  obtain ⟨ms, hms, hnd, hb'⟩ := hd'
  simp only [List.append_nil] at hms
  have key := leaves_marks (P := P) (F := Fence.wide) (n := 0) (fn := fn) hres ht' ms w' hnd (fun b hm => ⟨(hb' b hm).1, (hb' b hm).2.2.1⟩) hst
  rw [← hms] at key
  rcases he with rfl | rfl
  · exact key
  · exact key

theorem foldl_sets : ∀ (l : List (Tmp × Value)) (T : Array Value), (l.foldl (fun tmps (p : Tmp × Value) => tmps.setIfInBounds p.1 p.2) T).toList = setTs T.toList l
  | [], _ => rfl
  | p :: l, T => by
    simp only [List.foldl_cons, setTs]
    rw [foldl_sets l, setTs, Array.toList_setIfInBounds]
theorem LRel.set {l l' : List Value} (h : LRel β l l') (i : Nat) {v v' : Value} (hv : VRel β v v') : LRel β (l.set i v) (l'.set i v') := by
  refine ⟨by simp [h.1], fun j u u' h1 h2 => ?_⟩
  rw [List.getElem?_set] at h1 h2
  split at h1
  · next he =>
    rw [if_pos he] at h2
    split at h1
    · split at h2
      · obtain rfl := Option.some.inj h1; obtain rfl := Option.some.inj h2; exact hv
      · cases h2
    · cases h1
  · next he => rw [if_neg he] at h2; exact h.2 j u u' h1 h2
theorem setTs_rel : ∀ (ps : List Tmp) {tm tm' args args' : List Value}, LRel β tm tm' → LRel β args args' → LRel β (setTs tm (ps.zip args)) (setTs tm' (ps.zip args'))
  | [], _, _, _, _, ht, _ => by simpa [setTs] using ht
  | p :: ps, _, _, [], _, ht, ha => by rw [ha.inv_nil]; simpa [setTs] using ht
  | p :: ps, _, _, v :: vs, _, ht, ha => by
    obtain ⟨v', r', rfl, hv, hrr⟩ := ha.inv_cons
    exact setTs_rel ps (ht.set p hv) hrr

theorem codeDraws_parts {cf : CallF} (hD : ∀ (d c : Code), Part d c → codeDraws c = true → DrawsOk P gl cf d) {c : Code} (h : codeDraws c = true) : ∀ d, Part d c → DrawsOk P gl cf d := fun d hd => hD d c hd h

/-- One round, as the evaluator runs it. -/
theorem yield_ok (hN : NamesOk P) {cf : CallF} (hcf : CfOk P gl cf) (hD : ∀ (d c : Code), Part d c → codeDraws c = true → DrawsOk P gl cf d) {N k : Nat} {args : List Value} {h h' : Heap} {v : Value} (hr : yieldRun (codeRun P gl cf N) k args h = some (v, h')) {w : World} {args' : Array Value} {sl : Slot}
    (hs : Sim β h w) (hg : Gl gl β) (ha : LRel β args args'.toList) (hb : β k = some sl) :
    ∃ fn tmps asg body, (Instr.yield sl.b args').run P w = .ok (.round sl.b fn tmps asg body) w ∧ ∀ (r : Option Nat) (n : Nat), RoundIn (fence r) n P sl.b fn tmps asg body w (RetRel β h w v h') := by
  unfold yieldRun at hr
  split at hr
  · next tm ps asg body ok hk =>
    split at hr
    · next hlen =>
      split at hr
      · next tm1 h1 hasg =>
        split at hr
        · next tm' ps' asg' body' ok' hk1 =>
          split at hr
          · next e x h2 hbody =>
            split at hr
            · next st2 tm2 ps2 asg2 body2 ok2 b st hk2 hlst =>
              simp only [Option.some.injEq, Prod.mk.injEq] at hr
              obtain ⟨rfl, rfl⟩ := hr
              obtain ⟨_, lr, hr1, hr2, htm, hps, rfl, rfl⟩ := hs.blk _ _ _ hk hb
              have hsz : args'.size = lr.params.size := by
                have := ha.1
                rw [← Array.length_toList, ← this, hlen, ← hps]; simp
              refine ⟨lr.fn, _, lr.assign, lr.body, run_yield hr1 hsz, fun r n => ?_⟩
              simp only [loopOk, Bool.and_eq_true] at ok
              obtain ⟨⟨⟨ok1, ok2'⟩, ok3⟩, ok4⟩ := ok
              have hset : LRel β (setTs tm (ps.zip args)) ((lr.params.zip args').foldl (fun tmps (t, a) => tmps.setIfInBounds t a) lr.tmps).toList := by
                rw [← Array.foldl_toList, Array.toList_zip, hps]
                have := setTs_rel ps htm ha
                rw [← foldl_sets (ps.zip args'.toList) lr.tmps] at this
                exact this
              refine roundIn_of_wpIn trivial ?_
              refine code_wp (r := some sl.b) hN hcf lr.assign (.inr ok3) (codeDraws_parts hD ok1) _ hasg hs hg (a := { tmps := _, defers := [] }) hset fun a1 w1 β1 hst1 ht1 _ => ?_
              have hb1 := hst1.le _ _ hb
              obtain ⟨_, lr1, hr11, hr12, htm1, hps1, hasg1, hbody1⟩ := hst1.sim.blk _ _ _ hk1 hb1
              have hst2 : Step β1 h1 w1 β1 (h1.set k (.loop .busy tm' ps' asg' body' ok')) (w1.putObj sl.b (.loop { lr1 with state := .busy })) :=
                Step.at_ hst1.sim hk1 hb1 rfl (at_putObj _ _ _) ⟨by assumption, { lr1 with state := .busy }, World.putObj_heap_same (hst1.sim.lt _ _ hb1).2, rfl, htm1, hps1, hasg1, hbody1⟩
              refine ⟨_, run_beginRound hr11 hr12.1, ?_⟩
              have hst12 := hst1.trans hst2
              refine code_wp (r := some sl.b) hN hcf lr.body (.inr ok4) (codeDraws_parts hD ok2') _ hbody hst2.sim (hg.mono hst12.le) ht1 fun a2 w2 β2 hst3 ht2 _ => ?_
              have hb2 := hst3.le _ _ hb1
              obtain ⟨hmap, lr2, hr21, hr22, htm2, hps2, hasg2, hbody2⟩ := hst3.sim.blk _ _ _ hk2 hb2
              have hst13 := hst12.trans hst3
              have fin : ∀ jump : Option Code, b = jump.isNone → LStRel st (if jump.isNone then .ready else .done) jump →
                  ∃ v w', (Instr.endRound sl.b jump).run P w2 = .ok v w' ∧ RetRel β h w (.bool b) (h2.set k (.loop st tm2 ps2 asg2 body2 ok2)) (.returned v) w' := fun jump hj hst => by
                refine ⟨_, _, run_endRound jump hr21, .bool jump.isNone, β2, rfl, hst13.trans (Step.at_ hst3.sim hk2 hb2 rfl (at_putObj _ _ _) ⟨hmap, _, World.putObj_heap_same (hst3.sim.lt _ _ hb2).2, hst, htm2, hps2, hasg2, hbody2⟩), ?_⟩
                rw [hj]; exact .bool _
              cases e with
              | normal => simp only [lstOf, Option.some.injEq, Prod.mk.injEq] at hlst; obtain ⟨rfl, rfl⟩ := hlst; exact fin none rfl ⟨rfl, rfl⟩
              | ret => simp only [lstOf, Option.some.injEq, Prod.mk.injEq] at hlst; obtain ⟨rfl, rfl⟩ := hlst; exact fin (some .ret) rfl ⟨rfl, rfl⟩
              | exit id => simp only [lstOf, Option.some.injEq, Prod.mk.injEq] at hlst; obtain ⟨rfl, rfl⟩ := hlst; exact fin (some (.exit id)) rfl ⟨rfl, rfl⟩
              | _ => cases hlst
            · cases hr
          · cases hr
        · cases hr
      · cases hr
    · cases hr
  · cases hr

/-- A text that is looked over draws as it may. -/
def DrawsText (P : Program) (gl : Nat → Bool) : Prop := ∀ cf, CfOk P gl cf → ∀ (d c : Code), Part d c → codeDraws c = true → DrawsOk P gl cf d

theorem call_ok (hN : NamesOk P) {pr : FuncId → Option Prim} (hp : PrimsOk P gl pr) (hD : AllDraws P gl) (hT : DrawsText P gl) : ∀ n, CfOk P gl (callRun P gl pr n)
  | 0 => ⟨fun f args h v h' _ hr => by simp [callRun] at hr, fun k args h v h' hr => by simp [callRun] at hr⟩
  | n + 1 => by
    have ih := call_ok hN hp hD hT n
    refine ⟨fun f args h v h' hfY hr β w args' hs hg ha => ?_, fun k args h v h' hr β w args' sl hs hg ha hb => ?_⟩
    · simp only [callRun] at hr
      rw [if_neg (by omega)] at hr
      split at hr
      · next p hpf => exact hp f p hpf _ ih args h v h' hr β w args' hs hg ha
      · split at hr
        · next fn hf =>
          split at hr
          · next c hb =>
            refine ⟨fn, hf, .inl ⟨by simp [hb], ?_⟩⟩
            split at hr
            · next tm h2 hcr =>
              obtain ⟨vs, hres, he⟩ := Option.map_eq_some_iff.1 hr
              simp only [Prod.mk.injEq] at he
              obtain ⟨rfl, rfl⟩ := he
              exact body_calls hN ih hf hb (fun d hd => hD _ ih f fn c d hf hb hd) hcr (.inl rfl) hres hs hg ha
            · next tm h2 hcr =>
              obtain ⟨vs, hres, he⟩ := Option.map_eq_some_iff.1 hr
              simp only [Prod.mk.injEq] at he
              obtain ⟨rfl, rfl⟩ := he
              exact body_calls hN ih hf hb (fun d hd => hD _ ih f fn c d hf hb hd) hcr (.inr rfl) hres hs hg ha
            · cases hr
          · cases hr
        · cases hr
    · simp only [callRun] at hr
      rw [if_pos (by omega), Nat.add_sub_cancel_left] at hr
      exact yield_ok hN ih (hT _ ih) hr hs hg ha hb
end Go.Ab
