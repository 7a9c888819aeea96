/- Answers that are known: a closed call's answer, used within other runs. -/
import Derived.Test.YtcngigfjdlgfbaaGreatDoorAbPrims
namespace Go.Ab
open Go Go.RowKit
variable {β : Inj} {P : Program} {gl : Nat → Bool}

theorem step_of_below {h : Heap} {w w' : World} (hs : Sim β h w) (hb : Below w.heap.size w w') : Step β h w β h w' :=
  { le := β.le_refl, next := Nat.le_refl _
    sim := { lt := fun k sl hk => ⟨(hs.lt k sl hk).1, Nat.lt_of_lt_of_le (hs.lt k sl hk).2 hb.size⟩
             blk := fun k B sl h1 h2 => (hs.blk k B sl h1 h2).of_heap (hb.block _ (hs.lt k sl h2).2)
             own := hs.own, wf := hs.wf }
    size := hb.size, os := hb.os, tape := hb.tape, output := hb.output
    kept := fun b h1 _ => hb.block b h1
    back := fun _ _ h => h, fresh := fun _ _ h => .inl h, keys := fun _ B h _ => ⟨B, h⟩ }

/-- What is known of a call of plain values, in every world. -/
def Known (P : Program) (f : FuncId) (args : List Value) (v : Value) : Prop :=
  ∃ fn, P.funcs[f]? = some fn ∧ fn.body.isSome = true ∧ ∀ w, Calls P f args.toArray w fun e w' => e = .returned v ∧ Below w.heap.size w w'

theorem LRel.of_bares {β : Inj} {l : List Value} (h : l.all bare = true) : LRel β l l := by
  induction l with
  | nil => exact .nil β
  | cons v l ih =>
    simp only [List.all_cons, Bool.and_eq_true] at h
    exact .cons (.of_bare h.1) (ih h.2)
theorem VRel.bare_eq {β : Inj} {v v' : Value} (hv : bare v = true) (h : VRel β v v') : v' = v := by
  cases h <;> first | rfl | (simp [bare] at hv)
theorem LRel.bares_eq {β : Inj} : ∀ {l l' : List Value}, l.all bare = true → LRel β l l' → l' = l
  | [], l', _, h => h.inv_nil
  | v :: l, l', hb, h => by
    simp only [List.all_cons, Bool.and_eq_true] at hb
    obtain ⟨v', r, rfl, hv, hr⟩ := h.inv_cons
    rw [hv.bare_eq hb.1, hr.bares_eq hb.2]

theorem VRel.plain_eq {β : Inj} {v v' : Value} (hv : plain v = true) (h : VRel β v v') : v' = v := by
  have key : ∀ {a a' : Array Value}, ARel β a a' → (∀ x ∈ a.toList, ∀ y, VRel β x y → y = x) → a' = a := fun {a a'} ha hx => by
    refine Array.ext ha.1.symm fun i h1 h2 => ?_
    have := ha.2 i a[i] a'[i] (Array.getElem?_eq_getElem h2) (Array.getElem?_eq_getElem h1)
    exact hx _ (by simp) _ this
  unfold plain at hv
  split at hv
  · next cs =>
    obtain ⟨a', rfl, ha⟩ := h.inv_agg
    rw [key ha fun x hx y hy => hy.bare_eq (List.all_eq_true.1 hv x hx)]
  · next cs =>
    obtain ⟨a', rfl, ha⟩ := h.inv_tuple
    rw [key ha fun x hx y hy => ?_]
    have := List.all_eq_true.1 hv x hx
    split at this
    · next ds =>
      obtain ⟨b', rfl, hb⟩ := hy.inv_agg
      rw [key hb fun z hz u hu => hu.bare_eq (List.all_eq_true.1 this z hz)]
    · exact hy.bare_eq this
  · exact h.bare_eq hv

theorem known_of_run {cf : CallF} (hcf : CfOk P noGl cf) {f : FuncId} {fn : Func} {args : List Value} {n : Nat} {v : Value} {h' : Heap} (hr : cf f args ⟨n, .nil⟩ = some (v, h')) (ha : args.all bare = true) (hv : plain v = true) (hY : f < YB) (hf : P.funcs[f]? = some fn) (hb : fn.body.isSome = true)
    (hN : NamesOk P) : Known P f args v := by
  refine ⟨fn, hf, hb, fun w => ?_⟩
  obtain ⟨fn', hfn, h⟩ := hcf.fn f args _ v h' hY hr β0 w args.toArray (sim_nil n w) gl_nil (by simpa using LRel.of_bares ha)
  rcases h with ⟨_, h⟩ | ⟨v', w', β', h1, _, _⟩
  · refine h.mono ?_
    rintro e w' ⟨v', β', rfl, h2, h3⟩
    exact ⟨by rw [h3.plain_eq hv], below_of_step h2⟩
  · rw [run_callFunc_enter hN hf hb] at h1
    cases h1

def bytesEq : List UInt8 → List UInt8 → Bool
  | [], [] => true
  | a :: x, b :: y => Nat.beq a.toNat b.toNat && bytesEq x y
  | _, _ => false
theorem bytesEq_eq : ∀ {a b : List UInt8}, bytesEq a b = true → a = b
  | [], [], _ => rfl
  | a :: x, b :: y, h => by
    simp only [bytesEq, Bool.and_eq_true, Nat.beq_eq] at h
    rw [UInt8.toNat_inj.1 h.1, bytesEq_eq h.2]
/-- Surely the same plain value. -/
noncomputable def bareEq : Value → Value → Bool
  | .bool a, .bool b => a == b
  | .int k a, .int k' b => ikEq k k' && intEq a b
  | .string a, .string b => bytesEq a.data.toList b.data.toList
  | _, _ => false
theorem bareEq_eq {a b : Value} (h : bareEq a b = true) : a = b := by
  unfold bareEq at h
  split at h
  · rw [beq_iff_eq.1 h]
  · simp only [Bool.and_eq_true, intEq_eq, beq_iff_eq] at h; rw [ikEq_eq h.1, h.2]
  · next a b =>
    have h := bytesEq_eq h
    obtain ⟨⟨a⟩⟩ := a
    obtain ⟨⟨b⟩⟩ := b
    simp only at h
    rw [h]
  · cases h
noncomputable def argsEq : List Value → List Value → Bool
  | [], [] => true
  | a :: x, b :: y => bareEq a b && argsEq x y
  | _, _ => false
theorem argsEq_eq : ∀ {a b : List Value}, argsEq a b = true → a = b
  | [], [], _ => rfl
  | a :: x, b :: y, h => by
    simp only [argsEq, Bool.and_eq_true] at h
    rw [bareEq_eq h.1, argsEq_eq h.2]
theorem bareEq_bare {a b : Value} (h : bareEq a b = true) : bare b = true := by
  unfold bareEq at h
  split at h <;> first | rfl | cases h
theorem argsEq_bares : ∀ {a b : List Value}, argsEq a b = true → b.all bare = true
  | [], [], _ => rfl
  | a :: x, b :: y, h => by
    simp only [argsEq, Bool.and_eq_true] at h
    simp only [List.all_cons, Bool.and_eq_true]
    exact ⟨bareEq_bare h.1, argsEq_bares h.2⟩

/-- Surely the same answer. -/
noncomputable def partEq : Value → Value → Bool
  | .agg a, .agg b => argsEq a.toList b.toList
  | a, b => bareEq a b
noncomputable def partsEq : List Value → List Value → Bool
  | [], [] => true
  | a :: x, b :: y => partEq a b && partsEq x y
  | _, _ => false
noncomputable def ansEq : Value → Value → Bool
  | .tuple a, .tuple b => partsEq a.toList b.toList
  | a, b => partEq a b
theorem arr_eq {a b : Array Value} (h : a.toList = b.toList) : a = b := by
  have := congrArg List.toArray h
  simpa using this
theorem partEq_eq {a b : Value} (h : partEq a b = true) : a = b := by
  unfold partEq at h
  split at h
  · rw [arr_eq (argsEq_eq h)]
  · exact bareEq_eq h
theorem partsEq_eq : ∀ {a b : List Value}, partsEq a b = true → a = b
  | [], [], _ => rfl
  | a :: x, b :: y, h => by
    simp only [partsEq, Bool.and_eq_true] at h
    rw [partEq_eq h.1, partsEq_eq h.2]
theorem ansEq_eq {a b : Value} (h : ansEq a b = true) : a = b := by
  unfold ansEq at h
  split at h
  · rw [arr_eq (partsEq_eq h)]
  · exact partEq_eq h

/-- A table of answers. -/
noncomputable def look : List (List Value × Value) → List Value → Option Value
  | [], _ => none
  | (a, v) :: r, args => if argsEq a args then some v else look r args
noncomputable def sMemo (tab : List (List Value × Value)) : Prim := fun _ args h => (look tab args).map fun v => (v, h)
def TabOk (P : Program) (f : FuncId) (tab : List (List Value × Value)) : Prop := ∀ r ∈ tab, Known P f r.1 r.2 ∧ plain r.2 = true
theorem look_mem : ∀ {tab : List (List Value × Value)} {args : List Value} {v : Value}, look tab args = some v → (args, v) ∈ tab ∧ args.all bare = true
  | [], _, _, h => nomatch h
  | (a, u) :: r, args, v, h => by
    simp only [look] at h
    split at h
    · next he =>
      obtain rfl := Option.some.inj h
      rw [argsEq_eq he]
      exact ⟨by simp, argsEq_bares he⟩
    · obtain ⟨h1, h2⟩ := look_mem h
      exact ⟨by simp [h1], h2⟩
theorem memo_ok {f : FuncId} {tab : List (List Value × Value)} (ht : TabOk P f tab) : PrimOk P gl f (sMemo tab) := by
  intro cf _ args h v h' hp β w args' hs _ ha
  unfold sMemo at hp
  obtain ⟨u, hu, he⟩ := Option.map_eq_some_iff.1 hp
  simp only [Prod.mk.injEq] at he
  obtain ⟨rfl, rfl⟩ := he
  obtain ⟨hm, hb⟩ := look_mem hu
  obtain ⟨⟨fn, hf, hbody, hcalls⟩, hv⟩ := ht _ hm
  refine ⟨fn, hf, .inl ⟨hbody, ?_⟩⟩
  have hargs : args' = args.toArray := by
    have := LRel.bares_eq hb ha
    simpa using congrArg List.toArray this
  rw [hargs]
  refine (hcalls w).mono ?_
  rintro e w' ⟨rfl, h2⟩
  exact ⟨u, β, rfl, step_of_below hs h2, .of_plain hv⟩

/-! ### The same for the fast evaluator -/
section
noncomputable def bareEqF (a b : Value) : Bool := bareEq a b
noncomputable def fMemo (bad : Bool) (tab : List (List Value × Value)) : PrimF := fun _ args h K => List.rec (motive := fun _ => Bool) bad (fun r _ ih => cnd (argsEq r.1 args) (fVal r.2 fun v => K v h) ih) tab
theorem fMemo_ref (bad : Bool) (tab : List (List Value × Value)) (cf : FuncId → List Value → Heap → (Value → Heap → Bool) → Bool) (cr : CallF) (args : List Value) (h : Heap) (K : Value → Heap → Bool) : Ref bad (fMemo bad tab cf args h K) (sMemo tab cr args h) fun r => K r.1 r.2 := by
  unfold sMemo
  induction tab with
  | nil => exact .inl rfl
  | cons r tab ih =>
    obtain ⟨a, v⟩ := r
    show Ref bad (cnd (argsEq a args) (fVal v fun v => K v h) (fMemo bad tab cf args h K)) _ _
    simp only [look]
    refine cnd_ref (fun hb => ?_) (fun hb => ?_)
    · rw [fVal_eq, if_pos hb]; exact .of rfl rfl
    · rw [if_neg (by rw [hb]; simp)]; exact ih
end

/-- The fast evaluator's word that the answer is v. -/
theorem of_fastV {gl : Nat → Bool} {pf : FuncId → Option (PrimF)} {pr : FuncId → Option Prim} (hp : PrimsRef false pf pr) {n : Nat} {f : FuncId} {args : List Value} {h : Heap} {v : Value} (hr : callF P gl pf false n f args h (fun u _ => ansEq v u) = true) :
    ∃ h', callRun P gl pr n f args h = some (v, h') := by
  rcases callF_ref (P := P) (gl := gl) hp n f args h (fun u _ => ansEq v u) with h1 | ⟨⟨u, h'⟩, h1, h2⟩
  · rw [hr] at h1; cases h1
  · rw [hr] at h2
    exact ⟨h', by rw [h1, ansEq_eq h2.symm]⟩

/-- A row of a table: the fast evaluator's word, and what is closed about it. -/
theorem known_row (hN : NamesOk P) {pf : FuncId → Option (PrimF)} {pr : FuncId → Option Prim} (hp : PrimsRef false pf pr) {n : Nat} (hcf : CfOk P noGl (callRun P noGl pr n)) {f : FuncId} {args : List Value} {v : Value}
    (hr : callF P noGl pf false n f args ⟨0, .nil⟩ (fun u _ => ansEq v u) = true) (hc : (args.all bare && plain v && Nat.blt f YB && bodied P f) = true) : Known P f args v := by
  simp only [Bool.and_eq_true] at hc
  obtain ⟨⟨⟨h1, h2⟩, h3⟩, h4⟩ := hc
  obtain ⟨fn, hf, hb⟩ := bodied_some h4
  obtain ⟨h', hr'⟩ := of_fastV hp hr
  exact known_of_run hcf hr' h1 h2 (by simpa [Nat.blt_eq] using h3) hf hb hN
theorem tab_nil {f : FuncId} : TabOk P f [] := fun _ h => by cases h
theorem tab_cons {f : FuncId} {a : List Value} {v : Value} {tab : List (List Value × Value)} (h : Known P f a v) (hv : plain v = true) (ht : TabOk P f tab) : TabOk P f ((a, v) :: tab) := fun r hr => by
  rcases List.mem_cons.1 hr with rfl | hr
  · exact ⟨h, hv⟩
  · exact ht r hr
end Go.Ab
