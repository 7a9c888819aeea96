/- The evaluator of small memories: a part (AbEff4). -/
import Derived.Test.YtcngigfjdlgfbaaGreatDoorAbEff3
namespace Go.Ab
open Go
variable {β : Inj} {P : Program}

/-- An operation's outcome that is a value, or nothing. -/
def Ends (r : Result Next) (v' : Value) (w' : World) : Prop := r = .ok (.value v') w' ∨ (r = .ok .skip w' ∧ v' = undef)

def callsValue (o : Oper) : Bool := match o.op with
  | .call { callee := .value _, .. } => true
  | _ => false

theorem map_two {ρ' : Operand → Value} {args : Array Operand} {a b : Operand} (h : args.toList = [a, b]) : args.map ρ' = #[ρ' a, ρ' b] := by
  apply Array.ext'; simp [h]

set_option maxHeartbeats 2000000 in
theorem opEff_sim {ρ ρ' : Operand → Value} (hρ : ∀ x, VRel β (ρ x) (ρ' x)) {cf : CallF} {o : Oper} (hnc : callsValue o = false) {v : Value} {u : Upd} {h : Heap} {w : World} (hs : Sim β h w) (hv : opEff P cf ρ o h = some (v, u)) :
    ∃ v' w' β', Ends ((execOp ρ' o).run P w) v' w' ∧ Step β h w β' (u.app h) w' ∧ VRel β' v v' := by
  unfold opEff at hv
  unfold execOp
  split at hv
  · next t a x ho =>
    simp only [ho]
    have ha := hρ a
    have hx := hρ x
    split at hv
    · next k i hka =>
      rw [hka] at ha
      obtain ⟨sl, hb, hm, he⟩ := ha.inv_ptr
      split at hv
      · next hsz =>
        obtain ⟨u', hst, he2⟩ := Option.map_eq_some_iff.1 hv
        simp only [Prod.mk.injEq] at he2
        obtain ⟨rfl, rfl⟩ := he2
        have hj : ρ x ≠ Ab.junk := by
          intro e
          rw [e] at hst
          unfold storeAt at hst
          split at hst
          · split at hst
            · next hc => exact absurd hc.2 (by simp [Value.cells, scalar])
            · cases hst
          · cases hst
        have hc := hx.cells hj
        obtain ⟨w', hr, hstep⟩ := store_sim (P := P) hs hst hb (ARel.toList.1 hc)
        refine ⟨undef, w', β, .inr ⟨?_, rfl⟩, hstep, .undef β⟩
        have hr2 : (storeVar t ⟨sl.b, sl.s + i, none⟩ (ρ' x)).run P w = .ok () w' := by
          simp only [storeVar, Sem.run_bind, run_size hsz, Result.andThen_ok, Sem.run_ite]
          rw [if_neg (by simp [hc.1])]
          exact hr
        simp only [Instr.storeAt, Sem.run_bind, he, Instr.sureAddr, Sem.run_pure, Result.andThen_ok, hr2]
      · cases hv
    · cases hv
  · next t m k x ho =>
    simp only [ho]
    have hm := hρ m
    have hk := hρ k
    split at hv
    · next kt et r hu hma =>
      rw [hma] at hm
      split at hv
      · next es hr =>
        split at hv
        · next hkk =>
          obtain ⟨es2, hins, he⟩ := Option.map_eq_some_iff.1 hv
          simp only [Prod.mk.injEq] at he
          obtain ⟨rfl, rfl⟩ := he
          obtain ⟨w', hrun, hstep⟩ := mapUpdate_sim (P := P) hs hu hkk hr hins hm (hρ x)
          exact ⟨undef, w', β, .inr ⟨by rw [hk.keyP_eq (keyOk_P hkk)]; simp [hrun], rfl⟩, hstep, .undef β⟩
        · cases hv
      · cases hv
    · cases hv
  · next t m k x ho =>
    simp only [ho]
    have hm := hρ m
    have hk := hρ k
    split at hv
    · next kt et r hu hma =>
      rw [hma] at hm
      split at hv
      · next es hr =>
        split at hv
        · next hkk =>
          obtain ⟨es2, hins, he⟩ := Option.map_eq_some_iff.1 hv
          simp only [Prod.mk.injEq] at he
          obtain ⟨rfl, rfl⟩ := he
          obtain ⟨w', hrun, hstep⟩ := mapUpdate_sim (P := P) hs hu hkk hr hins hm (hρ x)
          exact ⟨undef, w', β, .inr ⟨by rw [hk.keyP_eq (keyOk_P hkk)]; simp [hrun], rfl⟩, hstep, .undef β⟩
        · cases hv
      · cases hv
    · cases hv
  · next f args ats ho => simp [callsValue, ho] at hnc
  · next args ats ho =>
    simp only [ho]
    split at hv
    · next s x t t' ha ht =>
      obtain ⟨v', w', β', hr, hstep, hvr⟩ := append_sim (P := P) (ty := o.type) hs hv (hρ s) (hρ x)
      refine ⟨v', w', β', .inl ?_, hstep, hvr⟩
      have hat : ats = #[t, t'] := by apply Array.ext'; simp [ht]
      simp only [resolve, Sem.run_bind, Sem.run_pure, Result.andThen_ok, invoke, builtin, map_two ha, hat, hr]
    · cases hv
  · next args ats ho =>
    simp only [ho]
    split at hv
    · next d s t ts ha ht =>
      obtain ⟨v', w', β', hr, hstep, hvr⟩ := copy_sim (P := P) (ts := ts) (ty := o.type) hs hv (hρ d) (hρ s)
      refine ⟨v', w', β', .inl ?_, hstep, hvr⟩
      have hat : ats = (t :: ts).toArray := by apply Array.ext'; simp [ht]
      simp only [resolve, Sem.run_bind, Sem.run_pure, Result.andThen_ok, invoke, builtin, map_two ha, hat, hr]
    · cases hv
  · next args ats ho =>
    simp only [ho]
    have hl : LRel β (args.toList.map ρ) (args.toList.map ρ') := LRel.map _ fun x _ => hρ x
    split at hv
    · next x t hm ht =>
      rw [hm] at hl
      obtain ⟨y, r, hy, hyr, hrr⟩ := hl.inv_cons
      have := hrr.inv_nil
      subst this
      obtain ⟨v', w', β', hr, hstep, hvr⟩ := clear_sim (P := P) (ty := o.type) hs hv hyr
      refine ⟨v', w', β', .inl ?_, hstep, hvr⟩
      have hat : ats = #[t] := by apply Array.ext'; simp [ht]
      have ha : args.map ρ' = #[y] := by apply Array.ext'; simp [hy]
      simp only [resolve, Sem.run_bind, Sem.run_pure, Result.andThen_ok, invoke, builtin, ha, hat, hr]
    · cases hv
  · next args ats ho =>
    simp only [ho]
    have hl : LRel β (args.toList.map ρ) (args.toList.map ρ') := LRel.map _ fun x _ => hρ x
    split at hv
    · next n c hm =>
      rw [hm] at hl
      obtain ⟨y, r, hy, hyr, hrr⟩ := hl.inv_cons
      have := hrr.inv_nil
      subst this
      obtain ⟨rfl, rfl, rfl⟩ := hyr.inv_nilSlice
      simp only [Option.some.injEq, Prod.mk.injEq] at hv
      obtain ⟨rfl, rfl⟩ := hv
      have hat : args.map ρ' = #[.slice none 0 0] := by apply Array.ext'; simp [hy]
      refine ⟨.pointer none, w, β, .inl ?_, Step.refl hs, .nilPtr⟩
      simp only [resolve, Sem.run_bind, Sem.run_pure, Result.andThen_ok, invoke, builtin, hat, Lib.run_unsafeSliceData_nil]
    · next a n c hm =>
      rw [hm] at hl
      obtain ⟨y, r, hy, hyr, hrr⟩ := hl.inv_cons
      have := hrr.inv_nil
      subst this
      obtain ⟨ab, ao, asp⟩ := a
      obtain ⟨sl, i', c', hb, hmp, hsp, rfl, hx1, ho1, hn1, hi1, hz1⟩ := hyr.inv_slice
      subst hsp
      split at hv
      · next hc =>
        simp only [Option.some.injEq, Prod.mk.injEq] at hv
        obtain ⟨rfl, rfl⟩ := hv
        have hcap : capOf c ≤ c' := by
          unfold capOf; split
          · next hc => exact ho1 hc
          · next hc => rw [hx1 (by omega)]; exact Nat.le_refl _
        have hi2 : i' = sl.s + ao := by rcases hi1 with h1 | ⟨h1, h2⟩; exact h1; exact absurd h2 (by omega)
        subst hi2
        have hat : args.map ρ' = #[.slice (some ⟨sl.b, sl.s + ao, none⟩) n c'] := by apply Array.ext'; simp [hy]
        refine ⟨.pointer (some ⟨sl.b, sl.s + ao, none⟩), w, β, .inl ?_, Step.refl hs, .ptr hb hmp⟩
        simp only [resolve, Sem.run_bind, Sem.run_pure, Result.andThen_ok, invoke, builtin, hat, Lib.run_unsafeSliceData_row (P := P) w ats o.type ⟨sl.b, sl.s + ao, none⟩ n c' (by omega)]
      · cases hv
    · cases hv
  · next args ats ho =>
    simp only [ho]
    have hl : LRel β (args.toList.map ρ) (args.toList.map ρ') := LRel.map _ fun x _ => hρ x
    split at hv
    · next kk pt hm hpt =>
      rw [hm] at hl
      obtain ⟨y, r, hy, hyr, hrr⟩ := hl.inv_cons
      obtain ⟨z, r2, rfl, hzr, hrr2⟩ := hrr.inv_cons
      have := hrr2.inv_nil
      subst this
      cases hyr.inv_nilPtr
      cases hzr.inv_int
      simp only [Option.some.injEq, Prod.mk.injEq] at hv
      obtain ⟨rfl, rfl⟩ := hv
      have hat : args.map ρ' = #[.pointer none, .int kk 0] := by apply Array.ext'; simp [hy]
      refine ⟨strOf [], w, β, .inl ?_, Step.refl hs, .string _⟩
      have hmax : IntKind.i64.max = 9223372036854775807 := by decide
      have hdef : Builtin.unsafeString_ ats o.type #[.pointer none, .int kk 0] =
          (do
            let n ← asInt (.int kk 0)
            let some pt := ats[0]? | stuck "unsafe.String: no argument types"
            if n < 0 then runtimePanic (.error "unsafe.String: len out of range")
            if n > IntKind.i64.max then unsupported (.unsafePointer "String: a length above the largest int")
            if n = 0 then pure (.string .empty)
            else runtimePanic (.error "unsafe.String: ptr is nil and len is not zero")) := rfl
      simp only [resolve, Sem.run_bind, Sem.run_pure, Result.andThen_ok, invoke, builtin, hat, hdef, asInt, asIntOf, hpt, Sem.run_ite]
      rw [if_neg (by omega), if_neg (by omega)]
      rfl
    · next k i kk n pt hm hpt =>
      rw [hm] at hl
      obtain ⟨y, r, hy, hyr, hrr⟩ := hl.inv_cons
      obtain ⟨z, r2, rfl, hzr, hrr2⟩ := hrr.inv_cons
      have := hrr2.inv_nil
      subst this
      cases hzr.inv_int
      have hat : args.map ρ' = #[y, .int kk n] := by apply Array.ext'; simp [hy]
      split at hv
      · next cs e e' hk hu =>
        split at hv
        · next hc =>
          obtain ⟨rfl, hsz, hn, hmx, hlen⟩ := hc
          split at hv
          · next l hb =>
            simp only [Option.some.injEq, Prod.mk.injEq] at hv
            obtain ⟨rfl, rfl⟩ := hv
            obtain ⟨w', hr, hstep⟩ := unsafeString_sim (P := P) (kk := kk) (ats := ats) (ty := o.type) hs hk hpt hu hsz hn hmx hlen hb hyr
            refine ⟨strOf l, w', β, .inl ?_, hstep, .string _⟩
            simp only [resolve, Sem.run_bind, Sem.run_pure, Result.andThen_ok, invoke, builtin, hat, hr]
          · cases hv
        · cases hv
      · cases hv
    · cases hv
  · next s d x ho =>
    simp only [ho]
    have hx := hρ x
    split at hv
    · next t k h1 h2 ha =>
      rw [ha] at hx
      split at hv
      · next cs t' wr hk =>
        split at hv
        · next hc =>
          obtain ⟨rfl, hsz, hpos⟩ := hc
          simp only [Option.some.injEq, Prod.mk.injEq] at hv
          obtain ⟨rfl, rfl⟩ := hv
          obtain ⟨sl, hb, hm, he⟩ := hx.inv_ptr
          obtain ⟨_, _, _, cs', fr, hw, hn, hcells, _⟩ := hs.row hk hb
          obtain ⟨j, hj, hjs⟩ := sizeOf?_some hsz
          obtain ⟨v0, hv0, _⟩ := hcells 0 _ (List.getElem?_eq_getElem hpos)
          have hlt := (Array.getElem?_eq_some_iff.1 hv0).1
          have hsh : w.shape? sl.b = some (t, cs'.size) := by simp [World.shape?, hw]
          refine ⟨ρ' x, w, β, .inl ?_, Step.refl hs, hρ x⟩
          rw [he]
          simp only [Sem.run_bind, Lib.run_to_unsafe (P := P) w ⟨sl.b, sl.s + 0, none⟩ h1 h2 hj (by omega) hsh hlt, Result.andThen_ok, Sem.run_pure]
        · cases hv
      · cases hv
    · next t k h1 h2 ha =>
      rw [ha] at hx
      split at hv
      · next cs t' wr hk =>
        split at hv
        · next hc =>
          obtain ⟨rfl, hsz, hpos⟩ := hc
          simp only [Option.some.injEq, Prod.mk.injEq] at hv
          obtain ⟨rfl, rfl⟩ := hv
          obtain ⟨sl, hb, hm, he⟩ := hx.inv_ptr
          have hs0 := hs.row0 hk hb
          obtain ⟨_, _, _, cs', fr, hw, hn, hcells, _⟩ := hs.row hk hb
          obtain ⟨j, hj, hjs⟩ := sizeOf?_some hsz
          have hco := cellsOf_of hsz
          obtain ⟨v0, hv0, _⟩ := hcells (cs.length - 1) _ (List.getElem?_eq_getElem (by omega))
          have hlt := (Array.getElem?_eq_some_iff.1 hv0).1
          have hsh : w.shape? sl.b = some (t, cs'.size) := by simp [World.shape?, hw]
          have hlies : liesAt P P.depth t (cs'.size / P.cellsOf t) (sl.s + 0) t 1 = true := by
            refine liesAt_row hco hpos _ _ _ (by rw [hs0]; simp) ?_
            rw [hs0, hco]
            simp only [Nat.add_zero, Nat.zero_div, Nat.zero_add]
            exact (Nat.le_div_iff_mul_le hpos).2 (by omega)
          refine ⟨ρ' x, w, β, .inl ?_, Step.refl hs, hρ x⟩
          rw [he]
          simp only [Sem.run_bind, Lib.run_from_unsafe (P := P) w ⟨sl.b, sl.s + 0, none⟩ h1 h2 hj hsh hlies, Result.andThen_ok, Sem.run_pure]
        · cases hv
      · cases hv
    · cases hv
  · cases hv
end Go.Ab
