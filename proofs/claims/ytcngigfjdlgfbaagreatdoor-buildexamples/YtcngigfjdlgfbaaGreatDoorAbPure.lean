/- The evaluator of small memories: a part (AbPure). -/
import Derived.Test.YtcngigfjdlgfbaaGreatDoorAbRel
import GoSem.Dispatch
import Derived.Laws.Strings
import Derived.Laws.StructEq
import Derived.Laws.Small
namespace Go.Ab
open Go

variable {β : Inj} {P : Program}

theorem VRel.inv_int {k : IntKind} {n : Int} {v' : Value} (h : VRel β (.int k n) v') : v' = .int k n := by cases h; rfl
theorem VRel.inv_bool {b : Bool} {v' : Value} (h : VRel β (.bool b) v') : v' = .bool b := by cases h; rfl
theorem VRel.inv_string {s : ByteArray} {v' : Value} (h : VRel β (.string s) v') : v' = .string s := by cases h; rfl
theorem VRel.inv_ptr {k i : Nat} {v' : Value} (h : VRel β (.pointer (some ⟨k, i, none⟩)) v') : ∃ sl, β k = some sl ∧ sl.isMap = false ∧ v' = .pointer (some ⟨sl.b, sl.s + i, none⟩) := by
  cases h with
  | ptr h hm => exact ⟨_, h, hm, rfl⟩
theorem VRel.inv_pointer {a : Addr} {v' : Value} (h : VRel β (.pointer (some a)) v') : ∃ sl, β a.block = some sl ∧ sl.isMap = false ∧ a.spot = none ∧ v' = .pointer (some ⟨sl.b, sl.s + a.off, none⟩) := by
  cases h with
  | ptr h hm => exact ⟨_, h, hm, rfl, rfl⟩
theorem VRel.inv_agg {a : Array Value} {v' : Value} (h : VRel β (.agg a) v') : ∃ a', v' = .agg a' ∧ ARel β a a' := by
  cases h with
  | agg hs h => exact ⟨_, rfl, hs, h⟩
theorem VRel.inv_tuple {a : Array Value} {v' : Value} (h : VRel β (.tuple a) v') : ∃ a', v' = .tuple a' ∧ ARel β a a' := by
  cases h with
  | tuple hs h => exact ⟨_, rfl, hs, h⟩
theorem VRel.inv_iface {t : TypeId} {v v' : Value} (h : VRel β (.iface t v) v') : ∃ u, v' = .iface t u ∧ VRel β v u := by
  cases h with
  | iface _ h => exact ⟨_, rfl, h⟩

theorem VRel.inv_nilIface {v' : Value} (h : VRel β .nilIface v') : v' = .nilIface := by cases h; rfl
theorem VRel.inv_nilSlice {n c : Nat} {v' : Value} (h : VRel β (.slice none n c) v') : n = 0 ∧ c = 0 ∧ v' = .slice none 0 0 := by cases h; exact ⟨rfl, rfl, rfl⟩
theorem VRel.inv_map {k : Nat} {v' : Value} (h : VRel β (.map (some k)) v') : ∃ sl, β k = some sl ∧ sl.isMap = true ∧ v' = .map (some sl.b) := by
  cases h with
  | map h hm => exact ⟨_, h, hm, rfl⟩
theorem VRel.inv_nilMap {v' : Value} (h : VRel β (.map none) v') : v' = .map none := by cases h; rfl
theorem VRel.inv_nilPtr {v' : Value} (h : VRel β (.pointer none) v') : v' = .pointer none := by cases h; rfl
theorem VRel.inv_slice {k i n c : Nat} {sp : Option Nat} {v' : Value} (h : VRel β (.slice (some ⟨k, i, sp⟩) n c) v') : ∃ sl i' c', β k = some sl ∧ sl.isMap = false ∧ sp = none ∧ v' = .slice (some ⟨sl.b, i', none⟩) n c' ∧
    (c < OPEN → c' = c) ∧ (OPEN ≤ c → c - OPEN ≤ c') ∧ n ≤ capOf c ∧ (i' = sl.s + i ∨ (n = 0 ∧ c' = 0)) ∧ (sl.sz = 0 ∨ i' + c' * sl.sz ≤ sl.n) := by
  cases h with
  | slice h hm hx ho hn hi hz => exact ⟨_, _, _, h, hm, rfl, rfl, hx, ho, hn, hi, hz⟩
theorem ARel.get {a a' : Array Value} (h : ARel β a a') {i : Nat} {v : Value} (hv : a[i]? = some v) : ∃ v', a'[i]? = some v' ∧ VRel β v v' := by
  have hi : i < a.size := (Array.getElem?_eq_some_iff.1 hv).1
  have hi' : i < a'.size := h.1 ▸ hi
  exact ⟨a'[i], Array.getElem?_eq_getElem hi', h.2 i v _ hv (Array.getElem?_eq_getElem hi')⟩
theorem LRel.get {a a' : List Value} (h : LRel β a a') {i : Nat} {v : Value} (hv : a[i]? = some v) : ∃ v', a'[i]? = some v' ∧ VRel β v v' := by
  have hi : i < a.length := (List.getElem?_eq_some_iff.1 hv).1
  have hi' : i < a'.length := h.1 ▸ hi
  exact ⟨a'[i], List.getElem?_eq_getElem hi', h.2 i v _ hv (List.getElem?_eq_getElem hi')⟩

theorem run_und {t : TypeId} {d : TypeDesc} (h : P.underlying t = some d) (w : World) : (underlying t).run P w = .ok d w := run_underlying h w
theorem run_info {t : TypeId} {i : TypeInfo} (h : P.info? t = some i) (w : World) : (typeInfo t).run P w = .ok i w := by simp [typeInfo, h]
theorem sizeOf?_some {t : TypeId} {n : Nat} (h : sizeOf? P t = some n) : ∃ i, P.info? t = some i ∧ i.size = n := by
  unfold sizeOf? at h
  cases hi : P.info? t with
  | none => simp [hi] at h
  | some i => exact ⟨i, rfl, by simpa [hi] using h⟩
theorem run_size {t : TypeId} {n : Nat} (h : sizeOf? P t = some n) (w : World) : (sizeOf t).run P w = .ok n w := by
  obtain ⟨i, hi, rfl⟩ := sizeOf?_some h
  simp [sizeOf, run_info hi]
theorem zeroOf_some {t : TypeId} {z : Value} (h : zeroOf P t = some z) : plain z = true ∧ ∃ i, P.info? t = some i ∧ i.zero = some z := by
  unfold zeroOf at h
  cases hi : P.info? t with
  | none => simp [hi] at h
  | some i =>
    simp only [hi] at h
    cases hz : i.zero with
    | none => simp [hz] at h
    | some z' =>
      simp only [hz] at h
      split at h
      · next hp => obtain rfl := Option.some.inj h; exact ⟨hp, i, rfl, hz⟩
      · cases h
theorem run_zero {t : TypeId} {z : Value} (h : zeroOf P t = some z) (w : World) : (zeroValue t).run P w = .ok z w := by
  obtain ⟨_, i, hi, hz⟩ := zeroOf_some h
  simp [zeroValue, run_info hi, hz]
theorem run_isAgg {t : TypeId} {d : TypeDesc} (h : P.underlying t = some d) (w : World) : (Go.isAgg t).run P w = .ok (Ab.isAgg P t) w := by
  simp only [Go.isAgg, Sem.run_bind, run_und h, Result.andThen_ok, Ab.isAgg, h]
  cases d <;> rfl

theorem bytesLt_eq : ∀ x y : List UInt8, bytesLt x y = Op.bytesLess x y
  | [], [] => rfl
  | _ :: _, [] => rfl
  | [], _ :: _ => rfl
  | a :: x, b :: y => by simp [bytesLt, Op.bytesLess, bytesLt_eq x y]

theorem ba_ext {a b : ByteArray} (h : a.data.toList = b.data.toList) : a = b := by
  cases a; cases b; simp only [ByteArray.mk.injEq]; exact Array.ext' h
theorem mk_append (a b : ByteArray) : (⟨(a.data.toList ++ b.data.toList).toArray⟩ : ByteArray) = a ++ b := by
  apply ba_ext; simp

/-! ### Two operands -/
theorem strOp_sim {op : BinOp} {x y : ByteArray} {v : Value} (h : strOp op x.data.toList y.data.toList = some v) (w : World) : (Op.stringOp op x y).run P w = .ok v w := by
  unfold strOp at h
  unfold Op.stringOp
  simp only [ByteArray.toList_eq]
  cases op <;> simp only [] at h <;> first
    | (simp only [Option.some.injEq] at h; subst h; simp [bytesLt_eq]; done)
    | (cases h; done)
    | skip
  split at h
  · next hl =>
    obtain rfl := Option.some.inj h
    simp only [Sem.run_ite, run_unsupported, Sem.run_pure]
    rw [if_neg]
    · simp only [strOf, mk_append]
    · have hx : x.data.toList.length = x.size := by simp
      have hy : y.data.toList.length = y.size := by simp
      rw [hx, hy] at hl
      have : IntKind.i64.max = 9223372036854775807 := by decide
      omega
  · cases h

theorem intCmp_sim {op : BinOp} {a b : Int} {r : Bool} (h : intCmp op a b = some r) (w : World) : (Op.intCmp op a b).run P w = .ok (.bool r) w := by
  unfold intCmp at h
  unfold Op.intCmp
  cases op <;> simp only [] at h <;> first
    | (simp only [Option.some.injEq] at h; subst h; rfl)
    | cases h

theorem intOp_sim {op : BinOp} {t : TypeId} {k : IntKind} {k' : IntKind} {a b : Int} {v : Value} (h : binOpV P op t (.int k a) (.int k' b) = some v) (w : World) : (binOp op t (.int k a) (.int k' b)).run P w = .ok v w := by
  simp only [binOpV] at h
  unfold binOp
  cases op <;> simp only [] at h <;> first
    | (split at h
       · next hb =>
         obtain rfl := Option.some.inj h
         simp only [Op.shift, Sem.run_ite]
         rw [if_neg (by omega)]
         rfl
       · cases h
       done)
    | (split at h
       · next hk =>
         subst hk
         simp only [ne_eq, not_true_eq_false, if_false]
         first
           | (obtain rfl := Option.some.inj h; rfl)
           | (split at h
              · cases h
              · next hb => obtain rfl := Option.some.inj h; simp [Op.intDiv, hb])
           | (obtain ⟨r, hr, rfl⟩ := Option.map_eq_some_iff.1 h; exact intCmp_sim hr w)
       · cases h)

theorem beq_bytes (a b : ByteArray) : (a.data.toList == b.data.toList) = (a == b) := by
  rw [beq_toListBytes, ByteArray.toList_eq, ByteArray.toList_eq]

theorem eqAt_sim {x y : Value} {b : Bool} {t : TypeId} (hb : eqAt P t x y = some b) (d : Nat) (w : World) : (Op.equalIn (d + 1) t x y).run P w = .ok b w := by
  unfold eqAt at hb
  split at hb
  · next hu => obtain rfl := Option.some.inj hb; exact run_equalIn_bool' w d t _ _ hu
  · next hu =>
    split at hb
    · next hk => subst hk; obtain rfl := Option.some.inj hb; exact run_equalIn_int w d t _ _ _ _ hu
    · cases hb
  · next hu => obtain rfl := Option.some.inj hb; rw [run_equalIn_string w d t _ _ hu]; simp [ByteArray.toList_eq]
  · cases hb

theorem eqAt_scalar {x y : Value} {b : Bool} {t : TypeId} (hb : eqAt P t x y = some b) : ∃ d, P.underlying t = some d ∧ isAgg P t = false := by
  unfold eqAt at hb
  split at hb
  · next hu => exact ⟨_, hu, by simp [isAgg, hu]⟩
  · next hu => exact ⟨_, hu, by simp [isAgg, hu]⟩
  · next hu => exact ⟨_, hu, by simp [isAgg, hu]⟩
  · cases hb

theorem run_part {t : TypeId} {d : TypeDesc} (hu : P.underlying t = some d) (ha : isAgg P t = false) {cs : Array Value} {off : Nat} {v : Value} (hv : cs[off]? = some v) (w : World) : (part t cs off).run P w = .ok v w := by
  simp [part, run_isAgg hu, ha, hv]

theorem eqFlat_sim {xs ys : Array Value} (d : Nat) (w : World) : ∀ (fs : List Field) (i : Nat) (l m : List Value) {b : Bool}, xs.toList.drop i = l → ys.toList.drop i = m → eqFlat P fs i l m = some b →
    (Op.eqFields (d + 1) xs ys fs).run P w = .ok b w
  | [], _, _, _, b, _, _, h => by simp only [eqFlat] at h; obtain rfl := Option.some.inj h; rfl
  | f :: fs, i, [], _, b, _, _, h => by simp [eqFlat] at h
  | f :: fs, i, _ :: _, [], b, _, _, h => by simp [eqFlat] at h
  | f :: fs, i, x :: l, y :: m, b, hl, hm, h => by
    simp only [eqFlat] at h
    split at h
    · next hc =>
      obtain ⟨ho, hn⟩ := hc
      have hx : xs[f.offset]? = some x := by
        have : (xs.toList.drop i)[0]? = some x := by rw [hl]; rfl
        rw [List.getElem?_drop] at this
        rw [ho, ← Array.getElem?_toList]; simpa using this
      have hy : ys[f.offset]? = some y := by
        have : (ys.toList.drop i)[0]? = some y := by rw [hm]; rfl
        rw [List.getElem?_drop] at this
        rw [ho, ← Array.getElem?_toList]; simpa using this
      have hl' : xs.toList.drop (i + 1) = l := by rw [← List.drop_drop, hl]; rfl
      have hm' : ys.toList.drop (i + 1) = m := by rw [← List.drop_drop, hm]; rfl
      unfold Op.eqFields
      rw [if_pos hn]
      split at h
      · next he =>
        obtain ⟨ds, hu, ha⟩ := eqAt_scalar he
        simp only [Sem.run_bind, run_part hu ha hx, run_part hu ha hy, Result.andThen_ok, eqAt_sim he d]
        simp only [Bool.not_true, Bool.false_eq_true, if_false]
        exact eqFlat_sim d w fs (i + 1) l m hl' hm' h
      · next he =>
        obtain ⟨ds, hu, ha⟩ := eqAt_scalar he
        obtain rfl := Option.some.inj h
        simp only [Sem.run_bind, run_part hu ha hx, run_part hu ha hy, Result.andThen_ok, eqAt_sim he d]
        rfl
      · cases h
    · cases h

/-- What is compared holds no address, or only the nils. -/
theorem eqAt_rel {x y x' y' : Value} {b : Bool} {t : TypeId} (h : eqAt P t x y = some b) (hx : VRel β x x') (hy : VRel β y y') : x' = x ∧ y' = y := by
  unfold eqAt at h
  split at h
  · exact ⟨hx.inv_bool, hy.inv_bool⟩
  · exact ⟨hx.inv_int, hy.inv_int⟩
  · exact ⟨hx.inv_string, hy.inv_string⟩
  · cases h
theorem eqFlat_rel : ∀ (fs : List Field) (i : Nat) {l m l' m' : List Value} {b : Bool}, eqFlat P fs i l m = some b → LRel β l l' → LRel β m m' → eqFlat P fs i l' m' = some b
  | [], _, _, _, _, _, _, h, _, _ => by simpa [eqFlat] using h
  | f :: fs, i, [], _, _, _, b, h, _, _ => by simp [eqFlat] at h
  | f :: fs, i, _ :: _, [], _, _, b, h, _, _ => by simp [eqFlat] at h
  | f :: fs, i, x :: l, y :: m, l', m', b, h, hl, hm => by
    obtain ⟨x', l', rfl, hx, hl'⟩ := hl.inv_cons
    obtain ⟨y', m', rfl, hy, hm'⟩ := hm.inv_cons
    simp only [eqFlat] at h ⊢
    split at h
    · next hc =>
      rw [if_pos hc]
      split at h
      · next he =>
        obtain ⟨rfl, rfl⟩ := eqAt_rel he hx hy
        rw [he]
        exact eqFlat_rel fs (i + 1) h hl' hm'
      · next he =>
        obtain ⟨rfl, rfl⟩ := eqAt_rel he hx hy
        rw [he]
        exact h
      · cases h
    · cases h

theorem run_binOp_eql {t : TypeId} {x y : Value} {b : Bool} (hi : ∀ k n k' n', ¬ (x = .int k n ∧ y = .int k' n')) (hs : ∀ s s', ¬ (x = .string s ∧ y = .string s')) (hf : ∀ k n k' n', ¬ (x = .float k n ∧ y = .float k' n'))
    (hc : ∀ k m n k' m' n', ¬ (x = .complex k m n ∧ y = .complex k' m' n')) {w : World} (h : (Op.equal t x y).run P w = .ok b w) :
    (binOp .eql t x y).run P w = .ok (.bool b) w ∧ (binOp .neq t x y).run P w = .ok (.bool !b) w := by
  cases x <;> cases y <;> first
    | (exact absurd ⟨rfl, rfl⟩ (hi _ _ _ _))
    | (exact absurd ⟨rfl, rfl⟩ (hs _ _))
    | (exact absurd ⟨rfl, rfl⟩ (hf _ _ _ _))
    | (exact absurd ⟨rfl, rfl⟩ (hc _ _ _ _ _ _))
    | (simp [binOp, h])

theorem run_equalIn_ptrs {t e : TypeId} (d : Nat) (hu : P.underlying t = some (.pointer e)) {n : Nat} (hn : sizeOf? P e = some n) (h0 : n ≠ 0) (a : Addr) (w : World) :
    (Op.equalIn (d + 1) t (.pointer (some a)) (.pointer (some a))).run P w = .ok true w := by
  simp only [Op.equalIn, Sem.run_bind, run_und hu, Result.andThen_ok, run_size hn, Sem.run_ite]
  rw [if_pos h0]
  simp [sameAddr]

set_option maxHeartbeats 4000000 in
theorem equalIn_sim {t : TypeId} {x y x' y' : Value} {b : Bool} (h : equalV P t x y = some b) (hx : VRel β x x') (hy : VRel β y y') (w : World) (d : Nat) : (Op.equalIn (d + 1 + 1) t x' y').run P w = .ok b w := by
  unfold equalV at h
  split at h
  · cases hx.inv_bool; cases hy.inv_bool
    split at h
    · next hu => obtain rfl := Option.some.inj h; exact run_equalIn_bool' w (d + 1) t _ _ hu
    · cases h
  · cases hx
    split at h
    · next hu => obtain rfl := Option.some.inj h; cases hy <;> simp only [Op.equalIn, Sem.run_bind, run_und hu, Result.andThen_ok, Sem.run_pure] <;> rfl
    · cases h
  · cases hy
    split at h
    · next hu => obtain rfl := Option.some.inj h; cases hx <;> simp only [Op.equalIn, Sem.run_bind, run_und hu, Result.andThen_ok, Sem.run_pure] <;> rfl
    · cases h
  · next a b' =>
    split at h
    · next e hu =>
      split at h
      · next hc =>
        obtain rfl := Option.some.inj h
        obtain ⟨rfl, hs⟩ := hc
        obtain ⟨sl, h1, _, _, rfl⟩ := hx.inv_pointer
        obtain ⟨sl', h2, _, _, rfl⟩ := hy.inv_pointer
        rw [h1] at h2
        obtain rfl := Option.some.inj h2
        cases hn : sizeOf? P e with
        | none => simp [hn] at hs
        | some n => exact run_equalIn_ptrs (d + 1) hu hn (by simpa [hn] using hs) _ w
      · cases h
    · cases h
  · cases hx
    split at h
    · next hu => obtain rfl := Option.some.inj h; cases hy <;> simp only [Op.equalIn, Sem.run_bind, run_und hu, Result.andThen_ok, Sem.run_pure] <;> rfl
    · cases h
  · cases hy
    split at h
    · next hu => obtain rfl := Option.some.inj h; cases hx <;> simp only [Op.equalIn, Sem.run_bind, run_und hu, Result.andThen_ok, Sem.run_pure] <;> rfl
    · cases h
  · cases hx
    split at h
    · next hu => obtain rfl := Option.some.inj h; cases hy <;> simp only [Op.equalIn, Sem.run_bind, run_und hu, Result.andThen_ok, Sem.run_pure] <;> rfl
    · cases h
  · cases hy
    split at h
    · next hu => obtain rfl := Option.some.inj h; cases hx <;> simp only [Op.equalIn, Sem.run_bind, run_und hu, Result.andThen_ok, Sem.run_pure] <;> rfl
    · cases h
  all_goals first
    | (cases hx <;> cases hy <;>
       (split at h
        · next hu => obtain rfl := Option.some.inj h; simp only [Op.equalIn, Sem.run_bind, run_und hu, Result.andThen_ok, Sem.run_pure]
        · cases h)
       done)
    | skip
  · obtain ⟨a', rfl, ha⟩ := hx.inv_agg
    obtain ⟨b', rfl, hb⟩ := hy.inv_agg
    split at h
    · next fs hu =>
      split at h
      · next hc =>
        have hf : P.fieldsOf t = fs := by simp [Program.fieldsOf, hu]
        rw [run_equalIn_struct w (d + 1) t a' b' (by rw [hf]; exact hu) hc.1, hf]
        exact eqFlat_sim d w fs.toList 0 _ _ (by simp) (by simp) (eqFlat_rel fs.toList 0 h (ARel.toList.1 ha) (ARel.toList.1 hb))
      · cases h
    · cases h
  · cases h

theorem equal_sim {t : TypeId} {x y x' y' : Value} {b : Bool} (h : equalV P t x y = some b) (hx : VRel β x x') (hy : VRel β y y') (w : World) : (Op.equal t x' y').run P w = .ok b w :=
  equalIn_sim h hx hy w 9998

/-- Neither of two values that 'equalV' compares is a number or a string, and the guard of a comparison goes through. -/
theorem equalV_eqs {t : TypeId} {x y x' y' : Value} {b : Bool} (h : equalV P t x y = some b) (hx : VRel β x x') (hy : VRel β y y') (op : BinOp) (xo yo : Operand) (w : World) :
    (eqGuard op t xo yo x' y').run P w = .ok () w ∧ (binOp .eql t x' y').run P w = .ok (.bool b) w ∧ (binOp .neq t x' y').run P w = .ok (.bool !b) w := by
  have he := equal_sim h hx hy w
  unfold equalV at h
  split at h
  all_goals first
    | (cases h; done)
    | (obtain ⟨a', rfl, ha⟩ := hx.inv_agg
       obtain ⟨b', rfl, hb⟩ := hy.inv_agg
       split at h
       · split at h
         · next hc => exact ⟨run_eqGuard_agg w op t xo yo a' b' hc.2, by simp [binOp, he], by simp [binOp, he]⟩
         · cases h
       · cases h
       done)
    | (cases hx <;> cases hy <;> (refine ⟨?_, ?_, ?_⟩ <;> first | (simp only [binOp, Sem.run_bind, he, Result.andThen_ok, Sem.run_pure]; done) | (cases op <;> rfl)))

theorem binOp_sim {op : BinOp} {t : TypeId} {xo yo : Operand} {x y x' y' : Value} {v : Value} (h : binOpV P op t x y = some v) (hx : VRel β x x') (hy : VRel β y y') (w : World) :
    (do eqGuard op t xo yo x' y'; binOp op t x' y' : Sem Value).run P w = .ok v w ∧ VRel β v v := by
  have h0 := h
  unfold binOpV at h
  split at h
  · next k a k' b =>
    cases hx.inv_int; cases hy.inv_int
    refine ⟨?_, ?_⟩
    · have hg : (eqGuard op t xo yo (.int k a) (.int k' b)).run P w = .ok () w := by cases op <;> rfl
      simp only [Sem.run_bind, hg, Result.andThen_ok]
      exact intOp_sim h0 w
    · clear h0
      cases op <;> simp only [] at h <;> first
        | (split at h
           · first
             | (obtain rfl := Option.some.inj h; exact .int _ _)
             | (obtain ⟨r, hr, rfl⟩ := Option.map_eq_some_iff.1 h; exact .bool _)
             | (split at h
                · cases h
                · obtain rfl := Option.some.inj h; exact .int _ _)
           · cases h
           done)
  · next a b =>
    cases hx.inv_string; cases hy.inv_string
    refine ⟨?_, ?_⟩
    · have hg : (eqGuard op t xo yo (.string a) (.string b)).run P w = .ok () w := by cases op <;> rfl
      simp only [Sem.run_bind, hg, Result.andThen_ok]
      have hb : binOp op t (.string a) (.string b) = Op.stringOp op a b := by cases op <;> rfl
      rw [hb]
      exact strOp_sim h w
    · unfold strOp at h
      cases op <;> simp only [] at h <;> first
        | (obtain rfl := Option.some.inj h; exact .bool _)
        | (split at h
           · obtain rfl := Option.some.inj h; exact .string _
           · cases h)
        | (cases h; done)
  · cases op <;> simp only [] at h <;> first
      | (cases h; done)
      | (obtain ⟨b, hb, rfl⟩ := Option.map_eq_some_iff.1 h
         obtain ⟨hg, he, hn⟩ := equalV_eqs hb hx hy .eql xo yo w
         exact ⟨by simp only [Sem.run_bind, hg, Result.andThen_ok]; exact he, .bool _⟩)
      | (obtain ⟨b, hb, rfl⟩ := Option.map_eq_some_iff.1 h
         obtain ⟨hg, he, hn⟩ := equalV_eqs hb hx hy .neq xo yo w
         exact ⟨by simp only [Sem.run_bind, hg, Result.andThen_ok]; exact hn, .bool _⟩)

theorem unOp_sim {op : UnOp} {x x' v : Value} (h : unOpV op x = some v) (hx : VRel β x x') (w : World) : (Op.unary op x').run P w = .ok v w ∧ VRel β v v := by
  unfold unOpV at h
  split at h
  · cases hx.inv_int; obtain rfl := Option.some.inj h; exact ⟨rfl, .int _ _⟩
  · cases hx.inv_int; obtain rfl := Option.some.inj h; exact ⟨rfl, .int _ _⟩
  · cases hx.inv_bool; obtain rfl := Option.some.inj h; exact ⟨rfl, .bool _⟩
  · cases h
end Go.Ab
