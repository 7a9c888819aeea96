/- A function that puts off one call, of a closure that does nothing where nothing panics: as the evaluator runs it. -/
import Derived.Test.YtcngigfjdlgfbaaGreatDoorAbMemo
import Derived.Recover
import Derived.ControlIn
namespace Go.Ab
open Go Go.RowKit
variable {β : Inj} {P : Program} {gl : Nat → Bool}

/-- The function without the call that is put off. -/
noncomputable def sDefer (P : Program) (gl : Nat → Bool) (fn : Func) (r0 rest : Code) (d : Tmp) : Prim := fun cf args h =>
  match codeRun P gl cf 40 r0 (args ++ List.replicate (fn.ntmps - args.length) undef) h with
  | some (.normal, tm, h1) => if d < tm.length then
      match codeRun P gl cf 40 rest (tm.set d junk) h1 with
      | some (.ret, tm', h') => (resultsRun P tm' h' fn.results.toList).map fun vs => (packResults vs, h')
      | _ => none
    else none
  | _ => none

/-- A call that was put off, of a function that recovers: within the wide fence. -/
theorem callsDIn_recovers {n : Nat} {f : FuncId} {fn : Func} {c : Code} {args : Array Value} {u : FrameMode} {w : World} {Bool : Ending → FrameMode → World → Prop} (hf : P.funcs[f]? = some fn) (hb : fn.body = some c)
    (h : ∀ (c₀ : Frame) (cs : List Frame), c₀.mode = u → c.wpS P (bodyPostS P fn c₀ cs Bool) { tmps := args ++ Array.replicate (fn.ntmps - args.size) undef, defers := [] } (c₀ :: cs) w) : CallsDIn Fence.wide n P f args u w Bool := by
  refine ⟨trivial, fun c₀ cs hu _ => ?_⟩
  have hin : Frame.enter P f args .deferred = ({ (default : Frame) with fn := f, kind := .deferred } : Frame).at { tmps := args ++ Array.replicate (fn.ntmps - args.size) undef, defers := [] } [.code c] := by
    simp [Frame.enter, Frame.at, hf, hb]
  obtain ⟨e, a', cs', w', hq, harr⟩ := h c₀ cs hu { (default : Frame) with fn := f, kind := .deferred } [] rfl rfl
  rw [← hin] at harr
  rcases e with _ | _ | _ | _ | chain | _
  · obtain ⟨hd, u', rfl, v, hr, hR⟩ := hq
    exact ⟨.returned v, u', w', _, hR, comesIn_wide.2 (Steps.trans harr (.one step_end)), rfl, rfl, rfl, hd, fn, hf, hr⟩
  · exact hq.elim
  · exact hq.elim
  · obtain ⟨hd, u', rfl, v, hr, hR⟩ := hq
    obtain ⟨todo, hs⟩ := harr
    exact ⟨.returned v, u', w', _, hR, comesIn_wide.2 hs, rfl, rfl, rfl, hd, fn, hf, hr⟩
  · obtain ⟨hd, u', rfl, hR⟩ := hq
    obtain ⟨todo, hs⟩ := harr
    exact ⟨.panicked chain, u', w', _, hR, comesIn_wide.2 hs, rfl, rfl, rfl, hd, fn, hf⟩
  · obtain ⟨u', hR⟩ := hq
    exact ⟨.outgrown, u', w', { (default : Frame) with fn := f, kind := .deferred }, hR, comesIn_wide.2 (harr.resolve_left (by simp)), rfl, rfl, trivial⟩

theorem leaves_marks_then {F : Fence} {n : Nat} {fn : Func} {β₀ β' : Inj} {h₀ h' : Heap} {w₀ : World} {tmps : Array Value} {Bool : Ending → World → Prop} {tl : List Deferred} :
    ∀ (ms : List Nat) (w' : World), ms.Nodup → (∀ b ∈ ms, w₀.heap.size ≤ b ∧ w'.heap[b]? = some (.deferred (some []))) → Step β₀ h₀ w₀ β' h' w' →
      (∀ w'', Step β₀ h₀ w₀ β' h' w'' → (∀ b, b ∉ ms → w''.heap[b]? = w'.heap[b]?) → LeavesInM F n P fn tmps Bool tl .returning w'') → LeavesInM F n P fn tmps Bool (ms.map mark ++ tl) .returning w'
  | [], w', _, _, st, hk => hk w' st fun _ _ => rfl
  | b :: ms, w', hn, hb, st, hk => by
    obtain ⟨h1, h2⟩ := hb b (by simp)
    obtain ⟨hn1, hn2⟩ := List.nodup_cons.1 hn
    refine ⟨by simp, .inl ⟨b, _, rfl, run_takeDeferred h2, ?_⟩⟩
    refine leaves_marks_then ms _ hn2 (fun b' hm => ?_) (step_shut st h1 h2) fun w'' st' hsame => hk w'' st' fun b' hb' => ?_
    · obtain ⟨h3, h4⟩ := hb b' (by simp [hm])
      exact ⟨h3, by rw [World.putObj_heap_other (by rintro rfl; exact hn1 hm)]; exact h4⟩
    · simp only [List.mem_cons, not_or] at hb'
      rw [hsame b' hb'.2, World.putObj_heap_other hb'.1]

theorem defer_ok (hN : NamesOk P) {fW fC : FuncId} {fn fnC : Func} {r0 rest : Code} {i1 : Nat} {mk df : Oper} {d : Tmp} {cap : Array Operand}
    (hf : P.funcs[fW]? = some fn) (hb : fn.body = some (.seq r0 (.seq (.region i1 #[mk, df] false) rest)))
    (hmk : mk.op = .makeFunc (.func fC) #[] cap) (hmd : mk.dst = some d) (hmg : mk.guard = none) (hdf : df.op = .defer { callee := .value (.tmp d), args := #[], argTypes := #[] }) (hdg : df.guard = none) (hdd : df.dst = none)
    (hfC : P.funcs[fC]? = some fnC) (hbC : fnC.body.isSome = true)
    (hidle : ∀ (args : Array Value) (w : World), args.size = cap.size → CallsDIn Fence.wide 0 P fC args .returning w fun e u' w' => (∃ v, e = .returned v) ∧ u' = .returning ∧ Below w.heap.size w w')
    (hd0 : codeDraws r0 = true) (hd1 : codeDraws rest = true) : PrimOk P gl fW (sDefer P gl fn r0 rest d) := by
  intro cf hcf args h v h' hp β w args' hs hg ha
  refine ⟨fn, hf, .inl ⟨by simp [hb], ?_⟩⟩
  unfold sDefer at hp
  split at hp
  · next tm h1 hr0 =>
    split at hp
    · next hlt =>
      split at hp
      · next tm2 h2 hrest =>
        obtain ⟨vs, hres, he⟩ := Option.map_eq_some_iff.1 hp
        simp only [Prod.mk.injEq] at he
        obtain ⟨rfl, rfl⟩ := he
        refine (callsIn_wide (n := 0)).1 (callsIn_of_wp_marks (F := Fence.wide) hf hb trivial ?_)
        have hrep : ∀ k, LRel β (List.replicate k undef) (List.replicate k undef) := fun k => ⟨rfl, fun i v v' h1 h2 => by
          rw [List.getElem?_replicate] at h1 h2
          split at h1
          · next hi => rw [if_pos hi] at h2; obtain rfl := Option.some.inj h1; obtain rfl := Option.some.inj h2; exact .undef β
          · cases h1⟩
        have ht : LRel β (args ++ List.replicate (fn.ntmps - args.length) undef) (args' ++ Array.replicate (fn.ntmps - args'.size) undef).toList := by
          have : args'.size = args.length := by rw [ha.1]; simp
          rw [this]
          simp only [Array.toList_append, Array.toList_replicate]
          exact ha.append (hrep _)
        refine wpIn_seq ?_
        refine code_wp (r := none) hN hcf r0 (.inl rfl) (codeDraws_parts (drawsText_of hN _ hcf) hd0) _ hr0 hs hg ht fun a1 w1 β1 hst1 ht1 hm1 => ?_
        refine wpIn_seq (wpIn_region ?_)
        have hsz : d < a1.tmps.size := by have := ht1.1; rw [← Array.length_toList, ← this]; exact hlt
        have hev : (a1.put (some d) (.func (.func fC) #[] (cap.map a1.eval))).eval (.tmp d) = .func (.func fC) #[] (cap.map a1.eval) := by
          simp [Act.put, Act.eval, hsz]
        have hw1 : Region.wanted mk (yielded #[mk, df] a1.tmps) = true := by simp [Region.wanted, hmg]
        have hw2 : ∀ t, Region.wanted df (yielded #[mk, df] t) = true := fun t => by simp [Region.wanted, hdg]
        show wpOpsIn (fence none) 0 P #[mk, df] _ [0, 1] a1 w1
        simp only [wpOpsIn, List.getElem?_toArray, List.getElem?_cons_zero, List.getElem?_cons_succ, hw1, if_true]
        refine ⟨fun _ _ => trivial, ?_⟩
        rw [Oper.semAt_eq _ _ _ (fun c hc => by rw [hmk] at hc; cases hc)]
        have hrun1 : (execOp a1.eval mk).run P w1 = .ok (.value (.func (.func fC) #[] (cap.map a1.eval))) w1 := by
          unfold execOp
          simp [hmk, Instr.makeFunc]
        rw [hrun1]
        rw [Oper.uponIn_value]
        rw [hmd, if_pos (hw2 _)]
        refine ⟨fun _ _ => trivial, ?_⟩
        have hrun2 : (df.semAt (fence none).round (a1.put (some d) (.func (.func fC) #[] (cap.map a1.eval))).eval).run P w1 = .ok (.defer { target := .fn (.func fC) (cap.map a1.eval), args := #[] }) w1 := by
          show (execOp (a1.put (some d) (.func (.func fC) #[] (cap.map a1.eval))).eval df).run P w1 = _
          unfold execOp
          simp only [hdf, resolve, hev, Deferred.ofValue, Sem.run_bind, Sem.run_pure, Result.andThen_ok]
          simp
        rw [hrun2]
        show Code.wpIn (fence none) 0 P rest _ ({ (a1.put (some d) (.func (.func fC) #[] (cap.map a1.eval))) with defers := { target := .fn (.func fC) (cap.map a1.eval), args := #[] } :: (a1.put (some d) (.func (.func fC) #[] (cap.map a1.eval))).defers }.put df.dst undef) w1
        rw [hdd]
        have ht1' : LRel β1 (tm.set d junk) (a1.put (some d) (.func (.func fC) #[] (cap.map a1.eval))).tmps.toList := by
          have := put_rel ht1 (some d) (v := junk) (.junk (.func (.func fC) #[] (cap.map a1.eval)))
          exact this
        refine code_wp (r := none) hN hcf rest (.inl rfl) (codeDraws_parts (drawsText_of hN _ hcf) hd1) _ hrest hst1.sim (hg.mono hst1.le) (a := { (a1.put (some d) (.func (.func fC) #[] (cap.map a1.eval))) with defers := _ }) ht1' fun a2 w2 β2 hst2 ht2 hm2 => ?_
        have hst12 := hst1.trans hst2
        obtain ⟨ms1, hd1', hn1, hb1⟩ := hm1
        obtain ⟨ms2, hd2', hn2, hb2⟩ := hm2
        simp only [List.append_nil] at hd1'
        have hdd2 : a2.defers = ms2.map mark ++ ({ target := .fn (.func fC) (cap.map a1.eval), args := #[] } :: ms1.map mark) := by
          rw [hd2']
          show _ ++ (_ :: (a1.put (some d) _).defers) = _
          rw [put_defers, hd1']
        show LeavesInM Fence.wide 0 P fn a2.tmps (RetRel β h w (packResults vs) h2) a2.defers .returning w2
        rw [hdd2]
        refine leaves_marks_then ms2 w2 hn2 (fun b hm => ⟨Nat.le_trans hst1.size (hb2 b hm).1, (hb2 b hm).2.2.1⟩) hst12 fun w3 hst3 hsame => ?_
        refine ⟨by simp, .inr ⟨fun hd => by simp [Fence.wide] at hd, .func fC, cap.map a1.eval, fC, #[] ++ cap.map a1.eval, rfl, run_callFunc_enter hN hfC hbC _ _, fun _ _ => trivial, ?_⟩⟩
        refine (hidle (#[] ++ cap.map a1.eval) w3 (by simp)).mono ?_
        rintro e u' w4 ⟨⟨v, rfl⟩, rfl, hbelow⟩
        show LeavesInM Fence.wide 0 P fn a2.tmps (RetRel β h w (packResults vs) h2) (ms1.map mark) .returning w4
        refine leaves_marks (P := P) hres ht2 ms1 w4 hn1 (fun b hm => ⟨(hb1 b hm).1, ?_⟩) (hst3.trans (step_of_below hst3.sim hbelow))
        obtain ⟨h4, h5, h6, h7⟩ := hb1 b hm
        have hlt2 : b < w2.heap.size := Nat.lt_of_lt_of_le h5 hst2.size
        have hnot : b ∉ ms2 := fun hmem => by have := (hb2 b hmem).1; omega
        have h8 : w2.heap[b]? = some (.deferred (some [])) := (hst2.kept b h5 h7).trans h6
        have h9 : w3.heap[b]? = some (.deferred (some [])) := (hsame b hnot).trans h8
        rw [hbelow.block b ?_, h9]
        exact (Array.getElem?_eq_some_iff.1 h9).1
      · cases hp
    · cases hp
  · cases hp

/-! ### The same for the fast evaluator -/
section
noncomputable def retOnly (x : Exit) (bad r : Bool) : Bool := Exit.rec (motive := fun _ => Bool) bad (fun _ => bad) (fun _ => bad) r (fun _ => bad) bad x
noncomputable def fDefer (P : Program) (gl : Nat → Bool) (bad : Bool) (fn : Func) (r0 rest : Code) (d : Tmp) : PrimF := fun cf args h K =>
  cnd (Nat.ble fn.ntmps 256 && Nat.ble args.length fn.ntmps && Nat.blt d fn.ntmps)
    (initF args 0 env0 fun e => codeF r0 ⟨P, gl, cf, 40, fn.ntmps, bad⟩ e h fun x e h1 => exitF x
      (putF fn.ntmps (some d) e junk fun e => codeF rest ⟨P, gl, cf, 40, fn.ntmps, bad⟩ e h1 fun x e h2 => retOnly x bad (resF P e h2 bad fn.results.toList fun vs => K (packResults vs) h2))
      (fun _ => bad) bad) bad
theorem fDefer_ref (bad : Bool) (fn : Func) (r0 rest : Code) (d : Tmp) (cf : FuncId → List Value → Heap → (Value → Heap → Bool) → Bool) (cr : CallF) (hcf : ∀ f args h K, Ref bad (cf f args h K) (cr f args h) fun r => K r.1 r.2) (args : List Value) (h : Heap) (K : Value → Heap → Bool) :
    Ref bad (fDefer P gl bad fn r0 rest d cf args h K) (sDefer P gl fn r0 rest d cr args h) fun r => K r.1 r.2 := by
  unfold fDefer
  refine cnd_ref (fun hb => ?_) (fun _ => .bad)
  simp only [Bool.and_eq_true, Nat.ble_eq, Nat.blt_eq] at hb
  obtain ⟨⟨hb1, hb2⟩, hb3⟩ := hb
  obtain ⟨e', h3, h4⟩ := initF_eq args 0 env0 (by omega)
  rw [h3]
  have hr : EnvRel fn.ntmps e' (args ++ List.replicate (fn.ntmps - args.length) undef) := by
    refine ⟨by simp; omega, hb1, fun t => ?_⟩
    rw [h4]
    split
    · next ht => rw [Nat.sub_zero, List.getD_eq_getElem?_getD, List.getD_eq_getElem?_getD, List.getElem?_append_left (by omega)]
    · next ht =>
      rw [env0_get, List.getD_eq_getElem?_getD, List.getElem?_append_right (by omega), List.getElem?_replicate]
      split <;> rfl
  let cx : Cx := ⟨P, gl, cf, 40, fn.ntmps, bad⟩
  have hcf' : CfRef cx cr := fun f args h K => hcf f args h K
  rcases codeF_ref hcf' r0 (h := h) (K := fun x e h1 => exitF x
      (putF fn.ntmps (some d) e junk fun e => codeF rest cx e h1 fun x e h2 => retOnly x bad (resF P e h2 bad fn.results.toList fun vs => K (packResults vs) h2))
      (fun _ => bad) bad) hr with h5 | ⟨ex, l1, g1, e1, h6, hr1, h7⟩
  · exact .inl h5
  · refine (show Ref bad (codeF r0 cx e' h _) _ _ from ?_)
    rw [h7]
    dsimp only
    cases ex with
    | normal =>
      dsimp only [exitF]
      obtain ⟨e2, h8, h9⟩ := putF_eq hr1 (some d) junk
      have h9' := fun (K : Env → Bool) => h9 K
      rw [show (putF fn.ntmps (some d) e1 junk fun e => codeF rest cx e g1 fun x e h2 => retOnly x bad (resF P e h2 bad fn.results.toList fun vs => K (packResults vs) h2)) = _ from h9' _]
      rcases codeF_ref hcf' rest (h := g1) (K := fun x e h2 => retOnly x bad (resF P e h2 bad fn.results.toList fun vs => K (packResults vs) h2)) h8 with h10 | ⟨ex2, l2, g2, e3, h11, hr3, h12⟩
      · exact .inl h10
      · rw [h12]
        dsimp only
        cases ex2 with
        | ret =>
          dsimp only [retOnly]
          rcases resF_ref hr3 fn.results.toList (fun vs => K (packResults vs) g2) (P := P) (h := g2) (bad := bad) with h13 | ⟨vs, h13, h14⟩
          · exact .inl h13
          · refine .of (r := (packResults vs, g2)) ?_ h14
            have h6' : codeRun P gl cr 40 r0 (args ++ List.replicate (fn.ntmps - args.length) undef) h = some (.normal, l1, g1) := h6
            have h11' : codeRun P gl cr 40 rest (l1.set d junk) g1 = some (.ret, l2, g2) := h11
            have hlen : d < l1.length := by rw [hr1.1]; exact hb3
            simp only [sDefer, h6', if_pos hlen, h11', h13, Option.map_some]
        | _ => exact .inl rfl
    | _ => exact .inl rfl
end
end Go.Ab
