/- The evaluator of small memories: a part (AbDraw4). -/
import Derived.Test.YtcngigfjdlgfbaaGreatDoorAbAny
namespace Go.Ab
open Go
variable {P : Program} {gl : Nat → Bool}

theorem Step.room {β : Inj} {h : Heap} {w : World} (hs : Sim β h w) (m : Nat) : Step β h w β { h with next := h.next + m } w :=
  ⟨β.le_refl, Nat.le_add_right _ _, ⟨fun k sl hk => ⟨Nat.lt_of_lt_of_le (hs.lt k sl hk).1 (Nat.le_add_right _ _), (hs.lt k sl hk).2⟩, hs.blk, hs.own, fun k B hk => Nat.lt_of_lt_of_le (hs.wf k B hk) (Nat.le_add_right _ _)⟩, Nat.le_refl _, rfl, rfl, rfl,
    fun _ _ _ => rfl, fun _ _ h => h, fun _ _ h => .inl h, fun _ B h _ => ⟨B, h⟩⟩

/-- A region that draws its order. -/
theorem draws_of (hN : NamesOk P) {cf : CallF} (hcf : CfOk P gl cf) {id : Nat} {ops : Array Oper} (hO : Ordd ops (befAt (befs ops))) (hB : Back ops) (hC : Region.departs ops = true → (Region.linearise .gc ops 0).length = ops.size) :
    DrawsOk P gl cf (.region id ops true) := by
  intro id' ops' heq β tm tm' a h h' w r n Q hr hs hg ht hk
  cases heq
  refine wpIn_region_draw fun t => ?_
  have hst0 : Step β h w β { h with next := h.next + ops.size } { w with drawn := w.drawn + 1 } :=
    (Step.of_heap hs rfl rfl rfl rfl : Step β h w β h { w with drawn := w.drawn + 1 }).trans (Step.room (w := { w with drawn := w.drawn + 1 }) (hs.of_heap rfl) ops.size)
  unfold drawX at hr
  split at hr
  · unfold drawA at hr
    split at hr
    · next fin hfin =>
      split at hr
      · next hall =>
        simp only [Option.some.injEq, Prod.mk.injEq] at hr
        obtain ⟨rfl, rfl⟩ := hr
        have hL := schedule_topo hB hC (P.follows .mixedOrders) t
        have hoff : Off { h with next := h.next + ops.size } (tm, { h with next := h.next + ops.size }, []) := ⟨rfl, fun _ _ => rfl⟩
        have hlen : (Region.schedule (P.follows .mixedOrders) ops t).length = ops.size := hL.length
        exact ordA hN hO hL (base := h.next) (fin := fin) (a₀ := a) hg rfl (Nat.le_refl _) (textA_off _ _ hoff hfin) hk _ [] β _ a _ rfl (by rw [hlen]; exact hall) hoff hst0 (fun i hi _ => hs.none_of_ge (by omega)) ht rfl
      · cases hr
    · cases hr
  have hst0 : True := trivial
  obtain ⟨st, en, hR, h0, h1, h2⟩ := drawRun_run hO hr
  have hL := schedule_topo hB hC (P.follows .mixedOrders) t
  have hst0 : Step β h w β { h with next := h.next + ops.size } { w with drawn := w.drawn + 1 } :=
    (Step.of_heap hs rfl rfl rfl rfl : Step β h w β h { w with drawn := w.drawn + 1 }).trans (Step.room (w := { w with drawn := w.drawn + 1 }) (hs.of_heap rfl) ops.size)
  refine draw_ops (β₀ := β) (h := h) (w₀ := w) (a₀ := a) hN hcf hO hR (by rw [h0]) hL hg ?_ _ [] β _ a 0 [] rfl ⟨Nat.zero_le _, ?_, ?_, ?_, ?_, ?_, ?_, ?_, rfl⟩
  · intro a' w' β' h3 h4 h5
    exact hk a' w' β' (by rw [h2]; exact h3) (by rw [← h1]; exact h4) h5
  · intro e _ _; simp
  · intro i B; simp
  · rw [h0]; exact hst0
  · rw [h0]; exact Nat.le_refl _
  · intro i B hi hb
    rw [h0] at hb
    have : h.get (h.next + i) = some B := hb
    have := hs.wf _ _ this
    omega
  · intro i hi _ _
    exact hs.none_of_ge (by omega)
  · rw [h0]
    refine ⟨by rw [ht.1, Array.length_toList], fun t v' hv => ⟨fun i o hi => by simp at hi, fun _ v h3 => ?_⟩⟩
    exact ht.2 t v v' h3 (by rw [Array.getElem?_toList]; exact hv)

/-! ### What is checked of a region's text -/
theorem fold_bit (g : Nat → Nat) (i : Nat) : ∀ (es : List Edge) (s : Nat), (es.foldl (fun s e => if Region.binds .any e then s ||| 2 ^ e.on ||| g e.on else s) s).testBit i = true ↔
    s.testBit i = true ∨ ∃ e ∈ es, Region.binds .any e = true ∧ (e.on = i ∨ (g e.on).testBit i = true)
  | [], s => by simp
  | e :: es, s => by
    rw [List.foldl_cons, fold_bit g i es]
    cases hb : Region.binds .any e with
    | false =>
      simp only [Bool.false_eq_true, if_false]
      constructor
      · rintro (h | ⟨e', h1, h2⟩)
        · exact .inl h
        · exact .inr ⟨e', List.mem_cons_of_mem _ h1, h2⟩
      · rintro (h | ⟨e', h1, h2, h3⟩)
        · exact .inl h
        · rcases List.mem_cons.1 h1 with rfl | h1
          · rw [hb] at h2; cases h2
          · exact .inr ⟨e', h1, h2, h3⟩
    | true =>
      simp only [if_true, Nat.testBit_or, Bool.or_eq_true, Nat.testBit_two_pow, decide_eq_true_eq]
      constructor
      · rintro (((h | h) | h) | ⟨e', h1, h2⟩)
        · exact .inl h
        · exact .inr ⟨e, List.mem_cons_self, hb, .inl h⟩
        · exact .inr ⟨e, List.mem_cons_self, hb, .inr h⟩
        · exact .inr ⟨e', List.mem_cons_of_mem _ h1, h2⟩
      · rintro (h | ⟨e', h1, h2, h3⟩)
        · exact .inl (.inl (.inl h))
        · rcases List.mem_cons.1 h1 with rfl | h1
          · rcases h3 with h3 | h3
            · exact .inl (.inl (.inr h3))
            · exact .inl (.inr h3)
          · exact .inr ⟨e', h1, h2, h3⟩

def maskOf (acc : Array Nat) (o : Oper) : Nat := o.after.foldl (fun s e => if Region.binds .any e then s ||| 2 ^ e.on ||| acc.getD e.on 0 else s) 0

theorem fold_push : ∀ (l : List Oper) (acc : Array Nat), (l.foldl (fun acc o => acc.push (maskOf acc o)) acc).size = acc.size + l.length ∧
    (∀ i, i < acc.size → (l.foldl (fun acc o => acc.push (maskOf acc o)) acc)[i]? = acc[i]?) ∧
    ∀ i o, l[i]? = some o → ∃ acc', (l.foldl (fun acc o => acc.push (maskOf acc o)) acc)[acc.size + i]? = some (maskOf acc' o) ∧ ∀ k, k < acc.size + i → acc'[k]? = (l.foldl (fun acc o => acc.push (maskOf acc o)) acc)[k]?
  | [], acc => ⟨by simp, fun _ _ => rfl, fun i o h => by simp at h⟩
  | o :: l, acc => by
    obtain ⟨h1, h2, h3⟩ := fold_push l (acc.push (maskOf acc o))
    simp only [Array.size_push] at h1 h2 h3
    refine ⟨by rw [List.foldl_cons, h1, List.length_cons]; omega, fun i hi => ?_, fun i o' ho => ?_⟩
    · rw [List.foldl_cons, h2 i (by omega), Array.getElem?_push, if_neg (by omega)]
    · rw [List.foldl_cons]
      cases i with
      | zero =>
        simp only [List.getElem?_cons_zero, Option.some.injEq] at ho
        subst ho
        refine ⟨acc, ?_, fun k hk => ?_⟩
        · rw [Nat.add_zero, h2 _ (by omega), Array.getElem?_push, if_pos rfl]
        · rw [h2 k (by omega), Array.getElem?_push, if_neg (by omega)]
      | succ i =>
        obtain ⟨acc', h4, h5⟩ := h3 i o' (by simpa using ho)
        refine ⟨acc', ?_, fun k hk => h5 k (by omega)⟩
        rw [show acc.size + (i + 1) = acc.size + 1 + i by omega]; exact h4

theorem before_eq (ops : Array Oper) : Region.before ops = ops.toList.foldl (fun acc o => acc.push (maskOf acc o)) #[] := by
  unfold Region.before
  rw [← Array.foldl_toList]; rfl

theorem bef_iff {ops : Array Oper} (hB : Back ops) (j i : Nat) : befAt (befs ops) j i = true ↔ ∃ o, ops[j]? = some o ∧ ∃ e ∈ o.after, Region.binds .any e = true ∧ (e.on = i ∨ befAt (befs ops) e.on i = true) := by
  have hg : ∀ k, (befs ops).getD k 0 = (Region.before ops).getD k 0 := fun k => by simp [befs, List.getD, Array.getD_eq_getD_getElem?]
  obtain ⟨h1, _, h3⟩ := fold_push ops.toList #[]
  rw [← before_eq] at h1 h3
  simp only [List.size_toArray, List.length_nil, Nat.zero_add, Array.getElem?_toList, Array.length_toList] at h1 h3
  cases ho : ops[j]? with
  | none =>
    simp only [befAt, hg]
    have hn : ¬ j < ops.size := fun hj => by rw [Array.getElem?_eq_getElem hj] at ho; cases ho
    rw [Array.getD_eq_getD_getElem?, Array.getElem?_eq_none (by omega)]
    simp
  | some o =>
    obtain ⟨acc', h4, h5⟩ := h3 j o ho
    simp only [befAt, hg]
    rw [Array.getD_eq_getD_getElem?, h4, Option.getD_some, maskOf, ← Array.foldl_toList, fold_bit (fun k => acc'.getD k 0)]
    simp only [Nat.zero_testBit, Bool.false_eq_true, false_or, Option.some.injEq, exists_eq_left', Array.mem_toList_iff]
    constructor
    · rintro ⟨e, he, hb, hh⟩
      refine ⟨e, he, hb, hh.imp id fun hh => ?_⟩
      have hlt : e.on < j := by
        rcases hB j o ho e he with h | ⟨h, _⟩
        · exact h
        · rw [h] at hb; cases hb
      rw [Array.getD_eq_getD_getElem?, h5 _ hlt, ← Array.getD_eq_getD_getElem?] at hh
      exact hh
    · rintro ⟨e, he, hb, hh⟩
      refine ⟨e, he, hb, hh.imp id fun hh => ?_⟩
      have hlt : e.on < j := by
        rcases hB j o ho e he with h | ⟨h, _⟩
        · exact h
        · rw [h] at hb; cases hb
      rw [Array.getD_eq_getD_getElem?, h5 _ hlt, ← Array.getD_eq_getD_getElem?]
      exact hh

theorem Back.lt {ops : Array Oper} (hB : Back ops) {j : Nat} {o : Oper} (ho : ops[j]? = some o) {e : Edge} (he : e ∈ o.after) (hb : Region.binds .any e = true) : e.on < j := by
  rcases hB j o ho e he with h | ⟨h, _⟩
  · exact h
  · rw [h] at hb; cases hb

theorem backOk_sound : ∀ (l : List Oper) (j : Nat), backOk l j = true → ∀ i o, l[i]? = some o → ∀ e ∈ o.after, e.on < j + i ∨ Region.binds .any e = false ∧ Region.binds .text e = false
  | [], _, _, i, o, ho, _, _ => by simp at ho
  | o' :: l, j, h, i, o, ho, e, he => by
    simp only [backOk, Bool.and_eq_true] at h
    cases i with
    | zero =>
      simp only [List.getElem?_cons_zero, Option.some.injEq] at ho
      subst ho
      have := List.all_eq_true.1 h.1 e (by simpa using he)
      simpa using this
    | succ i =>
      have := backOk_sound l (j + 1) h.2 i o (by simpa using ho) e he
      rw [show j + (i + 1) = j + 1 + i by omega]; exact this

theorem writerOk_sound {bs : List Nat} {j : Nat} {t : Tmp} : ∀ (l : List Oper) (k : Nat), writerOk bs j t l k = true → ∀ i o, l[i]? = some o → o.dst = some t → k + i = j ∨ befAt bs j (k + i) = true ∨ befAt bs (k + i) j = true
  | [], _, _, i, o, ho, _ => by simp at ho
  | o' :: l, k, h, i, o, ho, hd => by
    simp only [writerOk, Bool.and_eq_true] at h
    cases i with
    | zero =>
      simp only [List.getElem?_cons_zero, Option.some.injEq] at ho
      subst ho
      have h1 := h.1
      rw [hd] at h1
      simpa [or_assoc] using h1
    | succ i =>
      have := writerOk_sound l (k + 1) h.2 i o (by simpa using ho) hd
      rw [show k + (i + 1) = k + 1 + i by omega]; exact this

theorem operOk_sound {bs : List Nat} {all : List Oper} : ∀ (l : List Oper) (k : Nat), operOk bs all l k = true → ∀ i o, l[i]? = some o →
    (∀ t, Operand.tmp t ∈ o.op.operands → writerOk bs (k + i) t all 0 = true) ∧ ∀ g b, o.guard = some (g, b) → befAt bs (k + i) g = true
  | [], _, _, i, o, ho => by simp at ho
  | o' :: l, k, h, i, o, ho => by
    simp only [operOk, Bool.and_eq_true] at h
    cases i with
    | zero =>
      simp only [List.getElem?_cons_zero, Option.some.injEq] at ho
      subst ho
      refine ⟨fun t ht => ?_, fun g b hg => ?_⟩
      · exact List.all_eq_true.1 h.1.1 (.tmp t) (by simpa using ht)
      · have h1 := h.1.2
        rw [hg] at h1
        exact h1
    | succ i =>
      have := operOk_sound l (k + 1) h.2 i o (by simpa using ho)
      rw [show k + (i + 1) = k + 1 + i by omega]; exact this

theorem uniqOk_sound : ∀ (l : List Oper) (m : Nat), uniqOk l m = true → (∀ (i : Nat) (o : Oper) (t : Tmp), l[i]? = some o → o.dst = some t → m.testBit t = false) ∧
    ∀ (i j : Nat) (o o' : Oper) (t : Tmp), l[i]? = some o → l[j]? = some o' → o.dst = some t → o'.dst = some t → i = j
  | [], _, _ => ⟨fun i o t h => by simp at h, fun i j o o' t h => by simp at h⟩
  | x :: l, m, h => by
    cases hd : x.dst with
    | none =>
      simp only [uniqOk, hd] at h
      obtain ⟨h1, h2⟩ := uniqOk_sound l m h
      refine ⟨fun i o t ho ht => ?_, fun i j o o' t ho ho' ht ht' => ?_⟩
      · cases i with
        | zero =>
          simp only [List.getElem?_cons_zero, Option.some.injEq] at ho
          subst ho; rw [hd] at ht; cases ht
        | succ i => exact h1 i o t (by simpa using ho) ht
      · cases i with
        | zero =>
          simp only [List.getElem?_cons_zero, Option.some.injEq] at ho
          subst ho; rw [hd] at ht; cases ht
        | succ i =>
          cases j with
          | zero =>
            simp only [List.getElem?_cons_zero, Option.some.injEq] at ho'
            subst ho'; rw [hd] at ht'; cases ht'
          | succ j => rw [h2 i j o o' t (by simpa using ho) (by simpa using ho') ht ht']
    | some d =>
      simp only [uniqOk, hd, Bool.and_eq_true, Bool.not_eq_true'] at h
      obtain ⟨h1, h2⟩ := uniqOk_sound l _ h.2
      have h1' : ∀ (i : Nat) (o : Oper) (t : Tmp), l[i]? = some o → o.dst = some t → m.testBit t = false ∧ d ≠ t := fun i o t ho ht => by
        have := h1 i o t ho ht
        simp only [Nat.testBit_or, Bool.or_eq_false_iff, Nat.testBit_two_pow, decide_eq_false_iff_not] at this
        exact this
      refine ⟨fun i o t ho ht => ?_, fun i j o o' t ho ho' ht ht' => ?_⟩
      · cases i with
        | zero =>
          simp only [List.getElem?_cons_zero, Option.some.injEq] at ho
          subst ho; rw [hd] at ht
          obtain rfl := Option.some.inj ht
          exact h.1
        | succ i => exact (h1' i o t (by simpa using ho) ht).1
      · cases i with
        | zero =>
          simp only [List.getElem?_cons_zero, Option.some.injEq] at ho
          subst ho; rw [hd] at ht
          obtain rfl := Option.some.inj ht
          cases j with
          | zero => rfl
          | succ j => exact absurd rfl (h1' j o' _ (by simpa using ho') ht').2
        | succ i =>
          cases j with
          | zero =>
            simp only [List.getElem?_cons_zero, Option.some.injEq] at ho'
            subst ho'; rw [hd] at ht'
            obtain rfl := Option.some.inj ht'
            exact absurd rfl (h1' i o _ (by simpa using ho) ht).2
          | succ j => rw [h2 i j o o' t (by simpa using ho) (by simpa using ho') ht ht']

theorem drawOk_sound {ops : Array Oper} (h : drawOk ops = true) : Ordd ops (befAt (befs ops)) ∧ Back ops ∧ (Region.departs ops = true → (Region.linearise .gc ops 0).length = ops.size) := by
  simp only [drawOk, Bool.and_eq_true] at h
  obtain ⟨⟨⟨h1, h2⟩, h3⟩, h4⟩ := h
  have hB : Back ops := fun i o ho e he => by
    have := backOk_sound ops.toList 0 h1 i o (by simpa using ho) e he
    rwa [Nat.zero_add] at this
  have hbi := bef_iff hB
  have hlt : ∀ j i, befAt (befs ops) j i = true → i < j := by
    intro j
    induction j using Nat.strongRecOn with
    | _ j ih =>
      intro i hb
      obtain ⟨o, ho, e, he, hbe, hh⟩ := (hbi j i).1 hb
      have := hB.lt ho he hbe
      rcases hh with hh | hh
      · omega
      · have := ih _ this i hh; omega
  refine ⟨⟨hlt, ?_, ?_, ?_, ?_, ?_⟩, hB, ?_⟩
  · intro k
    induction k using Nat.strongRecOn with
    | _ k ih =>
      intro j i h5 h6
      obtain ⟨o, ho, e, he, hbe, hh⟩ := (hbi k j).1 h5
      refine (hbi k i).2 ⟨o, ho, e, he, hbe, .inr ?_⟩
      rcases hh with rfl | hh
      · exact h6
      · exact ih _ (hB.lt ho he hbe) j i hh h6
  · intro L hL pre j
    induction j using Nat.strongRecOn generalizing pre with
    | _ j ih =>
      intro suf heq i hb
      obtain ⟨o, ho, e, he, hbe, hh⟩ := (hbi j i).1 hb
      have hm := hL.deps pre j suf heq o ho e he hbe
      rcases hh with rfl | hh
      · exact hm
      · obtain ⟨p1, p2, rfl⟩ := List.append_of_mem hm
        exact List.mem_append_left _ (ih _ (hB.lt ho he hbe) p1 (p2 ++ j :: suf) (by rw [heq]; simp) i hh)
  · intro j o t ho ht i o' ho' hd
    have h5 := (operOk_sound ops.toList 0 h4 j o (by simpa using ho)).1 t ht
    rw [Nat.zero_add] at h5
    have := writerOk_sound ops.toList 0 h5 i o' (by simpa using ho') hd
    rwa [Nat.zero_add] at this
  · intro j o i b ho hg
    have h5 := (operOk_sound ops.toList 0 h4 j o (by simpa using ho)).2 i b hg
    rwa [Nat.zero_add] at h5
  · intro i j o o' t ho ho' ht ht'
    exact (uniqOk_sound ops.toList 0 h2).2 i j o o' t (by simpa using ho) (by simpa using ho') ht ht'
  · intro hd
    simp only [hd, Bool.not_true, Bool.false_or, beq_iff_eq] at h3
    exact h3

theorem codeDraws_sound (hN : NamesOk P) {cf : CallF} (hcf : CfOk P gl cf) : ∀ {d c : Code}, Part d c → codeDraws c = true → DrawsOk P gl cf d := by
  have key : ∀ c, codeDraws c = true → DrawsOk P gl cf c := by
    intro c h id ops heq
    subst heq
    obtain ⟨h1, h2, h3⟩ := drawOk_sound h
    exact draws_of hN hcf h1 h2 h3 id ops rfl
  intro d c hp
  induction hp with
  | refl => exact key _
  | seqL _ ih => intro h; simp only [codeDraws, Bool.and_eq_true] at h; exact ih h.1
  | seqR _ ih => intro h; simp only [codeDraws, Bool.and_eq_true] at h; exact ih h.2
  | condT _ ih => intro h; simp only [codeDraws, Bool.and_eq_true] at h; exact ih h.1
  | condF _ ih => intro h; simp only [codeDraws, Bool.and_eq_true] at h; exact ih h.2
  | block _ ih => intro h; simp only [codeDraws] at h; exact ih h
  | loop _ ih => intro h; simp only [codeDraws] at h; exact ih h

theorem drawsText_of (hN : NamesOk P) : DrawsText P gl := fun _ hcf _ _ hp h => codeDraws_sound hN hcf hp h

/-- Of each function's text. -/
def funcDraws (fn : Func) : Bool := match fn.body with | some c => codeDraws c | none => true

theorem allDraws_of (hN : NamesOk P) (h : ∀ (f : FuncId) (fn : Func), P.funcs[f]? = some fn → funcDraws fn = true) : AllDraws P gl := fun cf hcf f fn c d hf hb hp => by
  have := h f fn hf
  simp only [funcDraws, hb] at this
  exact codeDraws_sound hN hcf hp this
end Go.Ab
