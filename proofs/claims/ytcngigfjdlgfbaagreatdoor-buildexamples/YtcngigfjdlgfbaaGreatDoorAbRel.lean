/- The evaluator of small memories: a part (AbRel). -/
import Derived.Test.YtcngigfjdlgfbaaGreatDoorAbEval
import Derived.Laws.Sem
import Derived.Laws.World
import Derived.Laws.Cells
import Derived.Laws.Entries
namespace Go.Ab

/-! ### Blocks by number -/
theorem HT.get_nil : ∀ p, HT.get p .nil = none
  | .e => rfl
  | .l _ => rfl
  | .r _ => rfl
theorem HT.get_set_same (b : Option Blk) : ∀ (p : Pth) (t : HT), HT.get p (HT.set b p t) = b
  | .e, .nil => rfl
  | .e, .node .. => rfl
  | .l p, .nil => HT.get_set_same b p .nil
  | .l p, .node _ l _ => HT.get_set_same b p l
  | .r p, .nil => HT.get_set_same b p .nil
  | .r p, .node _ _ r => HT.get_set_same b p r
theorem HT.get_set_ne (b : Option Blk) : ∀ (p q : Pth) (t : HT), q ≠ p → HT.get q (HT.set b p t) = HT.get q t
  | .e, .e, _, h => absurd rfl h
  | .e, .l q, .nil, _ => HT.get_nil q
  | .e, .r q, .nil, _ => HT.get_nil q
  | .e, .l _, .node .., _ => rfl
  | .e, .r _, .node .., _ => rfl
  | .l p, .e, .nil, _ => rfl
  | .l p, .e, .node .., _ => rfl
  | .l p, .l q, .nil, h => (HT.get_set_ne b p q .nil (fun e => h (by rw [e]))).trans (HT.get_nil q)
  | .l p, .l q, .node _ l _, h => HT.get_set_ne b p q l (fun e => h (by rw [e]))
  | .l p, .r q, .nil, _ => HT.get_nil q
  | .l p, .r q, .node .., _ => rfl
  | .r p, .e, .nil, _ => rfl
  | .r p, .e, .node .., _ => rfl
  | .r p, .r q, .nil, h => (HT.get_set_ne b p q .nil (fun e => h (by rw [e]))).trans (HT.get_nil q)
  | .r p, .r q, .node _ _ r, h => HT.get_set_ne b p q r (fun e => h (by rw [e]))
  | .r p, .l q, .nil, _ => HT.get_nil q
  | .r p, .l q, .node .., _ => rfl

def Pth.num : Pth → Nat
  | .e => 0
  | .l p => 2 * p.num + 1
  | .r p => 2 * p.num + 2
theorem num_pathF : ∀ (f n : Nat), n < f → (pathF f n).num = n
  | 0, _, h => absurd h (by omega)
  | f + 1, 0, _ => rfl
  | f + 1, k + 1, h => by
    have ih := num_pathF f (k / 2) (by omega)
    have hu : pathF (f + 1) (k + 1) = Nat.rec (motive := fun _ => Pth) (.l (pathF f (k / 2))) (fun _ _ => .r (pathF f (k / 2))) (k % 2) := rfl
    rw [hu]
    rcases Nat.mod_two_eq_zero_or_one k with hk | hk
    · rw [hk]; show 2 * (pathF f (k / 2)).num + 1 = k + 1; rw [ih]; omega
    · rw [hk]; show 2 * (pathF f (k / 2)).num + 2 = k + 1; rw [ih]; omega
theorem num_pathOf (n : Nat) : (pathOf n).num = n := num_pathF (n + 1) n (by omega)
theorem pathOf_ne {k j : Nat} (h : j ≠ k) : pathOf j ≠ pathOf k := fun e => h (by rw [← num_pathOf j, e, num_pathOf])

section
variable (h : Heap) (k j : Nat) (b : Blk)
theorem Heap.get_set_same : (h.set k b).get k = some b := HT.get_set_same _ _ _
theorem Heap.get_set_ne (hne : j ≠ k) : (h.set k b).get j = h.get j := HT.get_set_ne _ _ _ _ (pathOf_ne hne)
theorem Heap.get_del_same : (h.del k).get k = none := HT.get_set_same _ _ _
theorem Heap.get_del_ne (hne : j ≠ k) : (h.del k).get j = h.get j := HT.get_set_ne _ _ _ _ (pathOf_ne hne)
theorem Heap.get_push_same : (h.push b).get h.next = some b := HT.get_set_same _ _ _
theorem Heap.get_push_ne (hne : j ≠ h.next) : (h.push b).get j = h.get j := HT.get_set_ne _ _ _ _ (pathOf_ne hne)
@[simp] theorem Heap.next_set : (h.set k b).next = h.next := rfl
@[simp] theorem Heap.next_del : (h.del k).next = h.next := rfl
@[simp] theorem Heap.next_push : (h.push b).next = h.next + 1 := rfl
theorem Heap.get_set : (h.set k b).get j = if j = k then some b else h.get j := by
  split
  · next e => subst e; exact h.get_set_same j b
  · next e => exact h.get_set_ne k j b e
theorem Heap.get_del : (h.del k).get j = if j = k then none else h.get j := by
  split
  · next e => subst e; exact h.get_del_same j
  · next e => exact h.get_del_ne k j e
theorem Heap.get_push : (h.push b).get j = if j = h.next then some b else h.get j := by
  split
  · next e => subst e; exact h.get_push_same b
  · next e => exact h.get_push_ne j b e
end

/-! ### The relation of values -/
/-- Where a block of the small memory lies: the real block, the shift, the real block's size and element type, the cells of one element (0: no row), whether it is a map. -/
structure Slot where
  b : Nat
  s : Nat
  n : Nat
  t : TypeId
  sz : Nat
  isMap : Bool

abbrev Inj := Nat → Option Slot
def Inj.le (β β' : Inj) : Prop := ∀ k sl, β k = some sl → β' k = some sl
theorem Inj.le_refl (β : Inj) : β.le β := fun _ _ h => h
theorem Inj.le_trans {a b c : Inj} (h : a.le b) (h' : b.le c) : a.le c := fun k sl hk => h' k sl (h k sl hk)

def isYield : Fn → Bool
  | .yield _ => true
  | _ => false

inductive VRel (β : Inj) : Value → Value → Prop where
  | junk (v : Value) : VRel β (.chan (some 0)) v
  | bool (b : Bool) : VRel β (.bool b) (.bool b)
  | int (k : IntKind) (n : Int) : VRel β (.int k n) (.int k n)
  | float (k : FloatKind) (n : Nat) : VRel β (.float k n) (.float k n)
  | complex (k : FloatKind) (m n : Nat) : VRel β (.complex k m n) (.complex k m n)
  | string (s : ByteArray) : VRel β (.string s) (.string s)
  | nilPtr : VRel β (.pointer none) (.pointer none)
  | ptr {k i : Nat} {sl : Slot} (h : β k = some sl) (hm : sl.isMap = false) : VRel β (.pointer (some ⟨k, i, none⟩)) (.pointer (some ⟨sl.b, sl.s + i, none⟩))
  | nilSlice : VRel β (.slice none 0 0) (.slice none 0 0)
  | slice {k i n c i' c' : Nat} {sl : Slot} (h : β k = some sl) (hm : sl.isMap = false) (hx : c < OPEN → c' = c) (ho : OPEN ≤ c → c - OPEN ≤ c') (hn : n ≤ capOf c)
      (hi : i' = sl.s + i ∨ (n = 0 ∧ c' = 0)) (hz : sl.sz = 0 ∨ i' + c' * sl.sz ≤ sl.n) : VRel β (.slice (some ⟨k, i, none⟩) n c) (.slice (some ⟨sl.b, i', none⟩) n c')
  | nilMap : VRel β (.map none) (.map none)
  | map {k : Nat} {sl : Slot} (h : β k = some sl) (hm : sl.isMap = true) : VRel β (.map (some k)) (.map (some sl.b))
  | func {fn : Fn} {a a' c c' : Array Value} (hy : isYield fn = false) (ha : a.size = a'.size) (hc : c.size = c'.size) (ra : ∀ (i : Nat) v v', a[i]? = some v → a'[i]? = some v' → VRel β v v')
      (rc : ∀ (i : Nat) v v', c[i]? = some v → c'[i]? = some v' → VRel β v v') : VRel β (.func fn a c) (.func fn a' c')
  | yield {k : Nat} {sl : Slot} (h : β k = some sl) {a c : Array Value} (ha : a.size = 0) (hc : c.size = 0) : VRel β (.func (.yield k) a c) (.func (.yield sl.b) a c)
  | nilFunc : VRel β .nilFunc .nilFunc
  | iface (t : TypeId) {v v' : Value} (h : VRel β v v') : VRel β (.iface t v) (.iface t v')
  | nilIface : VRel β .nilIface .nilIface
  | agg {a a' : Array Value} (hs : a.size = a'.size) (h : ∀ (i : Nat) v v', a[i]? = some v → a'[i]? = some v' → VRel β v v') : VRel β (.agg a) (.agg a')
  | tuple {a a' : Array Value} (hs : a.size = a'.size) (h : ∀ (i : Nat) v v', a[i]? = some v → a'[i]? = some v' → VRel β v v') : VRel β (.tuple a) (.tuple a')

theorem VRel.mono {β β' : Inj} (hβ : β.le β') {v v' : Value} (h : VRel β v v') : VRel β' v v' := by
  induction h with
  | junk v => exact .junk v
  | bool b => exact .bool b
  | int k n => exact .int k n
  | float k n => exact .float k n
  | complex k m n => exact .complex k m n
  | string s => exact .string s
  | nilPtr => exact .nilPtr
  | ptr h hm => exact .ptr (hβ _ _ h) hm
  | nilSlice => exact .nilSlice
  | slice h hm hx ho hn hi hz => exact .slice (hβ _ _ h) hm hx ho hn hi hz
  | nilMap => exact .nilMap
  | map h hm => exact .map (hβ _ _ h) hm
  | yield h ha hc => exact .yield (hβ _ _ h) ha hc
  | func hy ha hc _ _ ra rc => exact .func hy ha hc (fun i v v' h h' => ra i v v' h h') (fun i v v' h h' => rc i v v' h h')
  | nilFunc => exact .nilFunc
  | iface t _ ih => exact .iface t ih
  | nilIface => exact .nilIface
  | agg hs _ ih => exact .agg hs fun i v v' h h' => ih i v v' h h'
  | tuple hs _ ih => exact .tuple hs fun i v v' h h' => ih i v v' h h'

theorem VRel.undef (β : Inj) : VRel β undef undef := .tuple rfl (fun i v v' h => by simp at h)

theorem VRel.of_bare {β : Inj} {v : Value} (h : bare v = true) : VRel β v v := by
  unfold bare at h
  split at h <;> first
    | exact .bool _ | exact .int _ _ | exact .float _ _ | exact .complex _ _ _ | exact .string _ | exact .nilPtr | exact .nilSlice | exact .nilMap | exact .nilFunc | exact .nilIface
    | cases h

theorem VRel.of_bares {β : Inj} {cs : Array Value} (h : cs.toList.all bare = true) (i : Nat) (v v' : Value) (h1 : cs[i]? = some v) (h2 : cs[i]? = some v') : VRel β v v' := by
  rw [h1] at h2
  obtain rfl := Option.some.inj h2
  refine .of_bare (List.all_eq_true.1 h v ?_)
  rw [← Array.getElem?_toList] at h1
  exact List.mem_of_getElem? h1

theorem VRel.of_plain {β : Inj} {v : Value} (h : plain v = true) : VRel β v v := by
  unfold plain at h
  split at h
  · exact .agg rfl (VRel.of_bares h)
  · refine .tuple rfl fun i v v' h1 h2 => ?_
    rw [h1] at h2
    obtain rfl := Option.some.inj h2
    rw [← Array.getElem?_toList] at h1
    have := List.all_eq_true.1 h v (List.mem_of_getElem? h1)
    split at this
    · exact .agg rfl (VRel.of_bares this)
    · exact .of_bare this
  · exact .of_bare h

/-- Arrays side by side. -/
def ARel (β : Inj) (a a' : Array Value) : Prop := a.size = a'.size ∧ ∀ (i : Nat) v v', a[i]? = some v → a'[i]? = some v' → VRel β v v'
/-- Lists side by side. -/
def LRel (β : Inj) (l l' : List Value) : Prop := l.length = l'.length ∧ ∀ (i : Nat) v v', l[i]? = some v → l'[i]? = some v' → VRel β v v'

theorem ARel.toList {β : Inj} {a a' : Array Value} : ARel β a a' ↔ LRel β a.toList a'.toList := by simp [ARel, LRel]
theorem LRel.nil (β : Inj) : LRel β [] [] := ⟨rfl, fun i v v' h => by simp at h⟩
theorem LRel.cons {β : Inj} {v v' : Value} {l l' : List Value} (h : VRel β v v') (hl : LRel β l l') : LRel β (v :: l) (v' :: l') :=
  ⟨by simp [hl.1], fun i a a' h1 h2 => by
    cases i with
    | zero => simp at h1 h2; subst h1; subst h2; exact h
    | succ i => exact hl.2 i a a' (by simpa using h1) (by simpa using h2)⟩
theorem LRel.head {β : Inj} {v v' : Value} {l l' : List Value} (h : LRel β (v :: l) (v' :: l')) : VRel β v v' := h.2 0 v v' rfl rfl
theorem LRel.tail {β : Inj} {v v' : Value} {l l' : List Value} (h : LRel β (v :: l) (v' :: l')) : LRel β l l' :=
  ⟨by have := h.1; simp at this; exact this, fun i a a' h1 h2 => h.2 (i + 1) a a' (by simpa using h1) (by simpa using h2)⟩
theorem LRel.inv_nil {β : Inj} {l : List Value} (h : LRel β [] l) : l = [] := List.eq_nil_of_length_eq_zero h.1.symm
theorem LRel.inv_cons {β : Inj} {v : Value} {l l' : List Value} (h : LRel β (v :: l) l') : ∃ v' r, l' = v' :: r ∧ VRel β v v' ∧ LRel β l r := by
  cases l' with
  | nil => have := h.1; simp at this
  | cons v' r => exact ⟨v', r, rfl, h.head, h.tail⟩
theorem LRel.mono {β β' : Inj} (hβ : β.le β') {l l' : List Value} (h : LRel β l l') : LRel β' l l' := ⟨h.1, fun i v v' h1 h2 => (h.2 i v v' h1 h2).mono hβ⟩
theorem LRel.append {β : Inj} : ∀ {a a' b b' : List Value}, LRel β a a' → LRel β b b' → LRel β (a ++ b) (a' ++ b')
  | [], a', b, b', h, h' => by rw [h.inv_nil]; exact h'
  | v :: a, a', b, b', h, h' => by
    obtain ⟨v', r, rfl, hv, hr⟩ := h.inv_cons
    exact .cons hv (hr.append h')
theorem LRel.take {β : Inj} {l l' : List Value} (h : LRel β l l') (n : Nat) : LRel β (l.take n) (l'.take n) :=
  ⟨by simp [h.1], fun i v v' h1 h2 => by
    rw [List.getElem?_take] at h1 h2
    split at h1
    · next hi => simp [hi] at h2; exact h.2 i v v' h1 h2
    · cases h1⟩
theorem LRel.drop {β : Inj} {l l' : List Value} (h : LRel β l l') (n : Nat) : LRel β (l.drop n) (l'.drop n) :=
  ⟨by simp [h.1], fun i v v' h1 h2 => by
    rw [List.getElem?_drop] at h1 h2
    exact h.2 _ v v' h1 h2⟩
theorem LRel.map {β : Inj} {α : Type} (l : List α) {f f' : α → Value} (h : ∀ x ∈ l, VRel β (f x) (f' x)) : LRel β (l.map f) (l.map f') :=
  ⟨by simp, fun i v v' h1 h2 => by
    simp only [List.getElem?_map, Option.map_eq_some_iff] at h1 h2
    obtain ⟨x, hx, rfl⟩ := h1
    obtain ⟨y, hy, rfl⟩ := h2
    rw [hx] at hy
    obtain rfl := Option.some.inj hy
    exact h x (List.mem_of_getElem? hx)⟩

theorem ARel.mono {β β' : Inj} (hβ : β.le β') {a a' : Array Value} (h : ARel β a a') : ARel β' a a' := ⟨h.1, fun i v v' h1 h2 => (h.2 i v v' h1 h2).mono hβ⟩

theorem VRel.scalar_one {β : Inj} {v v' : Value} (h : VRel β v v') (hs : scalar v = true) : v'.oneCell' = true ∧ v.cells = #[v] ∧ v'.cells = #[v'] := by
  cases h <;> first | (simp [scalar] at hs; done) | exact ⟨rfl, rfl, rfl⟩

theorem VRel.cells {β : Inj} {v v' : Value} (h : VRel β v v') (hj : v ≠ Ab.junk) : ARel β v.cells v'.cells := by
  cases h with
  | junk => exact absurd rfl hj
  | agg hs h => exact ⟨hs, h⟩
  | _ =>
    refine ⟨rfl, fun i a a' h1 h2 => ?_⟩
    cases i with
    | zero => simp [Value.cells] at h1 h2; subst h1; subst h2; constructor <;> assumption
    | succ i => simp [Value.cells] at h1
end Go.Ab
