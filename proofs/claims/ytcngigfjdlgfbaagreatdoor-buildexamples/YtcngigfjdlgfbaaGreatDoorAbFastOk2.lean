/- The evaluator of small memories: a part (AbFastOk2). -/
import Derived.Test.YtcngigfjdlgfbaaGreatDoorAbFastOk
namespace Go.Ab
open Go

/-- A call of the fast evaluator tells the truth. -/
def CfRef (cx : Cx) (cf : CallF) : Prop := ∀ f args h K, Ref cx.bad (cx.cf f args h K) (cf f args h) fun r => K r.1 r.2

noncomputable abbrev OutK (h : Heap) (K : Value → Heap → Bool) (r : Value × Upd) : Bool := K r.1 (r.2.app h)

theorem outF_ref {bad : Bool} {r : Option (Value × Upd)} {h : Heap} {K : Value → Heap → Bool} {run : Option (Value × Upd)} (hr : ∀ x, r = some x → run = some x) : Ref bad (outF bad r h K) run (OutK h K) := by
  unfold outF
  refine bnd_ref fun x hx => .of (hr x hx) ?_
  obtain ⟨v, u⟩ := x
  show appF u h (fun h => fVal v fun v => K v h) = _
  rw [appF_eq, fVal_eq]

theorem opEff_noCf {P : Program} {cf : CallF} {ρ : Operand → Value} {o : Oper} {h : Heap} (hc : callsValue o = false) : opEff P noCf ρ o h = opEff P cf ρ o h := by
  obtain ⟨dst, op, ty, pos, after, guard⟩ := o
  cases op <;> try rfl
  rename_i c
  obtain ⟨callee, args, ats⟩ := c
  cases callee with
  | value f => simp [callsValue] at hc
  | invoke r m => rfl
  | builtin b => cases b <;> rfl
theorem opRun_noCf {P : Program} {cf : CallF} {ρ : Operand → Value} {o : Oper} {h : Heap} (hc : callsValue o = false) : opRun P noCf ρ o h = opRun P cf ρ o h := by
  unfold opRun
  rw [opEff_noCf hc]

variable {cx : Cx} {cf : CallF} {ρ : Operand → Value} {h : Heap} {K : Value → Heap → Bool} {dst : Option Tmp} {ty : TypeId} {pos : String} {after : Array Edge} {guard : Option (Nat × Bool)}

theorem gen_ref {o : Oper} (hc : callsValue o = false) : Ref cx.bad (gen cx o ρ h K) (opRun cx.P cf ρ o h) (OutK h K) :=
  outF_ref fun x hx => by rw [← opRun_noCf hc]; exact hx

/-- Where an operation hangs on the operands alone. -/
theorem run_pure {P : Program} {o : Oper} {v : Value} (hp : opPure P ρ o = some v) : opRun P cf ρ o h = some (v, .no) := by
  unfold opRun; rw [hp]

theorem move_ref {x : Operand} : Ref cx.bad (cMove x cx ⟨dst, .move x, ty, pos, after, guard⟩ ρ h K) (opRun cx.P cf ρ ⟨dst, .move x, ty, pos, after, guard⟩ h) (OutK h K) :=
  .of (run_pure (v := ρ x) rfl) (fVal_eq _ _)
theorem assign_ref {x : Operand} : Ref cx.bad (cMove x cx ⟨dst, .assign x, ty, pos, after, guard⟩ ρ h K) (opRun cx.P cf ρ ⟨dst, .assign x, ty, pos, after, guard⟩ h) (OutK h K) :=
  .of (run_pure (v := ρ x) rfl) (fVal_eq _ _)

theorem boolF_ref {α : Type} {v : Value} {bad : Bool} {K : Bool → Bool} {run : Option α} {K' : α → Bool} (hh : ∀ b, v = .bool b → Ref bad (K b) run K') : Ref bad (boolF v bad K) run K' := by
  rcases boolF_eq v bad K with ⟨h1, _⟩ | ⟨b, h1, h2⟩
  · rw [h1]; exact .bad
  · rw [h2]; exact hh b h1
theorem intF_ref {α : Type} {v : Value} {bad els : Bool} {K : IntKind → Int → Bool} {run : Option α} {K' : α → Bool} (he : Ref bad els run K') (hh : ∀ k n, v = .int k n → Ref bad (K k n) run K') : Ref bad (intF v els K) run K' := by
  rcases intF_eq v els K with ⟨h1, _⟩ | ⟨k, n, h1, h2⟩
  · rw [h1]; exact he
  · rw [h2]; exact hh k n h1
theorem ptrF_ref {α : Type} {v : Value} {bad els : Bool} {K : Option Addr → Bool} {run : Option α} {K' : α → Bool} (he : Ref bad els run K') (hh : ∀ a, v = .pointer a → Ref bad (K a) run K') : Ref bad (ptrF v els K) run K' := by
  rcases ptrF_eq v els K with ⟨h1, _⟩ | ⟨a, h1, h2⟩
  · rw [h1]; exact he
  · rw [h2]; exact hh a h1
theorem stringF_ref {α : Type} {v : Value} {bad : Bool} {K : ByteArray → Bool} {run : Option α} {K' : α → Bool} (hh : ∀ s, v = .string s → Ref bad (K s) run K') : Ref bad (stringF v bad K) run K' := by
  rcases stringF_eq v bad K with ⟨h1, _⟩ | ⟨a, h1, h2⟩
  · rw [h1]; exact .bad
  · rw [h2]; exact hh a h1
theorem sliceF_ref {α : Type} {v : Value} {bad : Bool} {K : Option Addr → Nat → Nat → Bool} {run : Option α} {K' : α → Bool} (hh : ∀ a n c, v = .slice a n c → Ref bad (K a n c) run K') : Ref bad (sliceF v bad K) run K' := by
  rcases sliceF_eq v bad K with ⟨h1, _⟩ | ⟨a, n, c, h1, h2⟩
  · rw [h1]; exact .bad
  · rw [h2]; exact hh a n c h1
theorem funcF_ref {α : Type} {v : Value} {bad : Bool} {K : Fn → Array Value → Array Value → Bool} {run : Option α} {K' : α → Bool} (hh : ∀ f a c, v = .func f a c → Ref bad (K f a c) run K') : Ref bad (funcF v bad K) run K' := by
  rcases funcF_eq v bad K with ⟨h1, _⟩ | ⟨f, a, c, h1, h2⟩
  · rw [h1]; exact .bad
  · rw [h2]; exact hh f a c h1
theorem aggF_ref {α : Type} {v : Value} {bad : Bool} {K : Array Value → Bool} {run : Option α} {K' : α → Bool} (hh : ∀ a, v = .agg a → Ref bad (K a) run K') : Ref bad (aggF v bad K) run K' := by
  rcases aggF_eq v bad K with ⟨h1, _⟩ | ⟨a, h1, h2⟩
  · rw [h1]; exact .bad
  · rw [h2]; exact hh a h1
theorem tupleF_ref {α : Type} {v : Value} {bad : Bool} {K : Array Value → Bool} {run : Option α} {K' : α → Bool} (hh : ∀ a, v = .tuple a → Ref bad (K a) run K') : Ref bad (tupleF v bad K) run K' := by
  rcases tupleF_eq v bad K with ⟨h1, _⟩ | ⟨a, h1, h2⟩
  · rw [h1]; exact .bad
  · rw [h2]; exact hh a h1
theorem natF_ref {α : Type} {j : Int} {bad : Bool} {K : Nat → Bool} {run : Option α} {K' : α → Bool} (hh : ∀ n : Nat, j = n → Ref bad (K n) run K') : Ref bad (natF j bad K) run K' := by
  cases j with
  | ofNat n => exact hh n rfl
  | negSucc n => exact .bad
theorem addrF_ref {α : Type} {a : Option Addr} {bad : Bool} {K : Nat → Nat → Bool} {run : Option α} {K' : α → Bool} (hh : ∀ b i, a = some ⟨b, i, none⟩ → Ref bad (K b i) run K') : Ref bad (addrF a bad K) run K' := by
  rcases a with _ | ⟨b, i, _ | s⟩
  · exact .bad
  · exact hh b i rfl
  · exact .bad
theorem rowF_ref {α : Type} {k : Nat} {bad : Bool} {K : List Value → TypeId → Nat → Bool → Bool} {run : Option α} {K' : α → Bool} (hh : ∀ cs t sz wr, h.get k = some (.cells cs t sz wr) → Ref bad (K cs t sz wr) run K') : Ref bad (rowF h k bad K) run K' := by
  unfold rowF
  refine bnd_ref fun B hB => ?_
  cases B with
  | cells cs t sz wr => exact hh cs t sz wr hB
  | map es => exact .bad
  | loop => exact .bad

theorem pick_ref {c a b : Operand} : Ref cx.bad (cPick c a b cx ⟨dst, .pick c a b, ty, pos, after, guard⟩ ρ h K) (opRun cx.P cf ρ ⟨dst, .pick c a b, ty, pos, after, guard⟩ h) (OutK h K) := by
  unfold cPick
  refine boolF_ref fun t ht => ?_
  refine cnd_ref (fun hb => ?_) (fun hb => ?_)
  · rw [fVal_eq]; exact .of (run_pure (v := ρ a) (by simp [opPure, ht, hb])) rfl
  · rw [fVal_eq]; exact .of (run_pure (v := ρ b) (by simp [opPure, ht, hb])) rfl

theorem newF_ref {b : Blk} {f : Nat → Value} {o : Oper} (hp : opPure cx.P ρ o = none) (hr : opRead cx.P ρ o h = none) (ha : opAlloc cx.P ρ o = some (b, f)) (hf : ∀ k, f k = .pointer (some ⟨k, 0, none⟩)) :
    Ref cx.bad (newF b h K) (opRun cx.P cf ρ o h) (OutK h K) := by
  refine .of (r := (f h.next, .push b)) (by unfold opRun; rw [hp, hr, ha]) ?_
  unfold newF
  rw [fNat_eq]
  have := appF_eq (.push b) h (fun h' => K (Value.pointer (some ⟨h.next, 0, none⟩)) h')
  rw [hf]
  exact this

theorem alloc_ref {t : TypeId} : Ref cx.bad (cAlloc t cx ⟨dst, .alloc t, ty, pos, after, guard⟩ ρ h K) (opRun cx.P cf ρ ⟨dst, .alloc t, ty, pos, after, guard⟩ h) (OutK h K) := by
  unfold cAlloc
  refine bnd_ref fun b hb => ?_
  unfold allocB at hb
  split at hb
  · next z hz =>
    split at hb
    · next hs =>
      obtain rfl := Option.some.inj hb
      exact newF_ref (f := fun k => .pointer (some ⟨k, 0, none⟩)) rfl rfl (by simp only [opAlloc, hz, hs, if_true]) fun _ => rfl
    · cases hb
  · cases hb
theorem box_ref {t : TypeId} {x : Operand} : Ref cx.bad (cBox t x cx ⟨dst, .box t x, ty, pos, after, guard⟩ ρ h K) (opRun cx.P cf ρ ⟨dst, .box t x, ty, pos, after, guard⟩ h) (OutK h K) := by
  unfold cBox
  refine cnd_ref (fun hb => ?_) (fun _ => gen_ref rfl)
  rw [scalF_eq] at hb
  rw [fVal_eq]
  have hc : (ρ x).cells = #[ρ x] := by
    generalize ρ x = v at hb
    cases v <;> first | rfl | (simp [scalar] at hb)
  refine newF_ref (f := fun k => .pointer (some ⟨k, 0, none⟩)) rfl rfl ?_ fun _ => rfl
  simp only [opAlloc, hc]
  rw [if_pos (by simp [hb])]

theorem load_ref {t : TypeId} {a : Operand} : Ref cx.bad (cLoad t a cx ⟨dst, .load t a, ty, pos, after, guard⟩ ρ h K) (opRun cx.P cf ρ ⟨dst, .load t a, ty, pos, after, guard⟩ h) (OutK h K) := by
  have hrun : ∀ v, loadV cx.P t h (ρ a) = some v → opRun cx.P cf ρ ⟨dst, .load t a, ty, pos, after, guard⟩ h = some (v, .no) := fun v hv => by
    show (match opRead cx.P ρ ⟨dst, .load t a, ty, pos, after, guard⟩ h with | some v => some (v, Upd.no) | none => _) = _
    simp only [opRead, hv]
  unfold cLoad
  refine cnd_ref (fun hb => ?_) (fun _ => bnd_ref fun v hv => .of (hrun v hv) rfl)
  refine ptrF_ref .bad fun ad had => addrF_ref fun b i hbi => rowF_ref fun cs te sz wr hg => bnd_ref fun v hv => .of (hrun v ?_) rfl
  rw [nth_eq] at hv
  unfold plainT at hb
  simp only [Bool.and_eq_true, Bool.not_eq_true'] at hb
  obtain ⟨hb1, hb2⟩ := hb
  cases hu : cx.P.underlying t with
  | none => rw [hu] at hb1; cases hb1
  | some u => simp only [loadV, hu, had, hbi, hg, hb2, Bool.false_eq_true, if_false, hv]

theorem store_ref {t : TypeId} {a x : Operand} : Ref cx.bad (cStore t a x cx ⟨dst, .store t a x, ty, pos, after, guard⟩ ρ h K) (opRun cx.P cf ρ ⟨dst, .store t a x, ty, pos, after, guard⟩ h) (OutK h K) := by
  have hrun : ∀ r, storeV cx.P t (ρ a) (ρ x) h = some r → opRun cx.P cf ρ ⟨dst, .store t a x, ty, pos, after, guard⟩ h = some r := fun r hr => by
    show opEff cx.P cf ρ ⟨dst, .store t a x, ty, pos, after, guard⟩ h = _
    exact hr
  unfold cStore
  refine cnd_ref (fun hb => ?_) (fun _ => outF_ref hrun)
  simp only [Bool.and_eq_true, scalF_eq] at hb
  obtain ⟨hb1, hb2⟩ := hb
  have hc : (ρ x).cells = #[ρ x] := by
    generalize ρ x = v at hb2
    cases v <;> first | rfl | (simp [scalar] at hb2)
  refine ptrF_ref .bad fun ad had => addrF_ref fun b i hbi => rowF_ref fun cs te sz wr hg => cnd_ref (fun hw => ?_) (fun _ => .bad)
  rw [fVal_eq, setNth_eq]
  by_cases hlt : i < cs.length
  · rw [if_pos hlt, HT.setK_eq]
    refine .of (r := (undef, .set b (.cells (cs.set i (ρ x)) te sz true))) (hrun _ ?_) rfl
    have hs1 : sizeOf? cx.P t = some 1 := by simpa [size1] using hb1
    subst hw
    simp only [storeV, had, hbi, hc, hs1, List.size_toArray, List.length_cons, List.length_nil, storeAt, hg]
    rw [if_pos trivial, if_pos ⟨by omega, by simpa using hb2⟩]
    simp only [Option.map_some]
    rw [List.set_eq_take_append_cons_drop, if_pos hlt]
    simp
  · rw [if_neg hlt]; exact .bad
end Go.Ab
