/- The evaluator of small memories: a part (AbStep). -/
import Derived.Test.YtcngigfjdlgfbaaGreatDoorAbKey
namespace Go.Ab
open Go
variable {β : Inj} {P : Program}

/-- A real block that lies under a block of the small memory that may be written. -/
def Wr (β : Inj) (h : Heap) (b : Nat) : Prop := ∃ k B sl, h.get k = some B ∧ B.wr = true ∧ β k = some sl ∧ sl.b = b

/-- From one pair of memories to the next. -/
structure Step (β : Inj) (h : Heap) (w : World) (β' : Inj) (h' : Heap) (w' : World) : Prop where
  le : β.le β'
  next : h.next ≤ h'.next
  sim : Sim β' h' w'
  size : w.heap.size ≤ w'.heap.size
  os : w'.os = w.os
  tape : w'.tape = w.tape
  output : w'.output = w.output
  kept : ∀ b, b < w.heap.size → ¬ Wr β h b → w'.heap[b]? = w.heap[b]?
  back : ∀ b, b < w.heap.size → Wr β' h' b → Wr β h b
  fresh : ∀ k sl, β' k = some sl → β k = some sl ∨ (h.next ≤ k ∧ (w.heap.size ≤ sl.b ∨ Wr β h sl.b))
  keys : ∀ k B, h'.get k = some B → k < h.next → ∃ B₀, h.get k = some B₀

theorem Step.refl {h : Heap} {w : World} (hs : Sim β h w) : Step β h w β h w :=
  ⟨β.le_refl, Nat.le_refl _, hs, Nat.le_refl _, rfl, rfl, rfl, fun _ _ _ => rfl, fun _ _ h => h, fun _ _ h => .inl h, fun _ B h _ => ⟨B, h⟩⟩

theorem Step.trans {β₁ β₂ : Inj} {h h₁ h₂ : Heap} {w w₁ w₂ : World} (a : Step β h w β₁ h₁ w₁) (b : Step β₁ h₁ w₁ β₂ h₂ w₂) : Step β h w β₂ h₂ w₂ where
  le := Inj.le_trans a.le b.le
  next := Nat.le_trans a.next b.next
  sim := b.sim
  size := Nat.le_trans a.size b.size
  os := b.os.trans a.os
  tape := b.tape.trans a.tape
  output := b.output.trans a.output
  kept := fun k hk hn => (b.kept k (Nat.lt_of_lt_of_le hk a.size) fun hw => hn (a.back k hk hw)).trans (a.kept k hk hn)
  back := fun k hk hw => a.back k hk (b.back k (Nat.lt_of_lt_of_le hk a.size) hw)
  fresh := fun k sl hk => by
    rcases b.fresh k sl hk with h1 | ⟨h1, h2⟩
    · exact a.fresh k sl h1
    · refine .inr ⟨Nat.le_trans a.next h1, ?_⟩
      rcases h2 with h2 | h2
      · exact .inl (Nat.le_trans a.size h2)
      · rcases Nat.lt_or_ge sl.b w.heap.size with h3 | h3
        · exact .inr (a.back _ h3 h2)
        · exact .inl h3
  keys := fun k B hk hlt => by
    obtain ⟨B₁, h1⟩ := b.keys k B hk (Nat.lt_of_lt_of_le hlt a.next)
    exact a.keys k B₁ h1 hlt

/-- A draw of the tape turns no memory. -/
theorem Sim.of_heap {h : Heap} {w w' : World} (hs : Sim β h w) (he : w'.heap = w.heap) : Sim β h w' :=
  ⟨fun k sl hk => by rw [he]; exact hs.lt k sl hk, fun k B sl h1 h2 => (hs.blk k B sl h1 h2).of_heap (by rw [he]), hs.own, hs.wf⟩
theorem Step.of_heap {h : Heap} {w w' : World} (hs : Sim β h w) (he : w'.heap = w.heap) (h1 : w'.os = w.os) (h2 : w'.tape = w.tape) (h3 : w'.output = w.output) : Step β h w β h w' :=
  ⟨β.le_refl, Nat.le_refl _, hs.of_heap he, by rw [he]; exact Nat.le_refl _, h1, h2, h3, fun _ _ _ => by rw [he], fun _ _ h => h, fun _ _ h => .inl h, fun _ B h _ => ⟨B, h⟩⟩

def Inj.ext (β : Inj) (k : Nat) (sl : Slot) : Inj := fun j => if j = k then some sl else β j
theorem Inj.ext_same (β : Inj) (k : Nat) (sl : Slot) : β.ext k sl k = some sl := by simp [Inj.ext]
theorem Inj.ext_ne (β : Inj) {k j : Nat} (sl : Slot) (h : j ≠ k) : β.ext k sl j = β j := by simp [Inj.ext, h]
theorem Inj.le_ext {k : Nat} (sl : Slot) (h : β k = none) : β.le (β.ext k sl) := fun j sl' hj => by
  rw [β.ext_ne sl (by rintro rfl; rw [h] at hj; cases hj)]; exact hj

theorem Sim.none_of_ge {h : Heap} {w : World} (hs : Sim β h w) {k : Nat} (hk : h.next ≤ k) : β k = none := by
  cases hb : β k with
  | none => rfl
  | some sl => exact absurd (hs.lt k sl hb).1 (by omega)

/-- What an allocation does, wherever the new block is numbered. -/
structure Allocs (β : Inj) (w : World) (B : Blk) (f : Nat → Value) (v' : Value) (w' : World) : Prop where
  size : w'.heap.size = w.heap.size + 1
  os : w'.os = w.os
  tape : w'.tape = w.tape
  output : w'.output = w.output
  kept : ∀ b, b < w.heap.size → w'.heap[b]? = w.heap[b]?
  new : ∃ sl : Slot, sl.b = w.heap.size ∧ ∀ (β' : Inj) (k : Nat), β.le β' → β' k = some sl → BRel β' B sl w' ∧ VRel β' (f k) v'

theorem Heap.wf_push {h : Heap} (hw : ∀ k B, h.get k = some B → k < h.next) (B : Blk) : ∀ k B', (h.push B).get k = some B' → k < (h.push B).next := fun k B' hk => by
  rw [h.get_push] at hk
  split at hk
  · next e => subst e; simp
  · have := hw k B' hk; simp; omega
theorem Heap.wf_set {h : Heap} (hw : ∀ k B, h.get k = some B → k < h.next) {j : Nat} (B : Blk) (hj : j < h.next) : ∀ k B', (h.set j B).get k = some B' → k < (h.set j B).next := fun k B' hk => by
  rw [h.get_set] at hk
  split at hk
  · next e => subst e; exact hj
  · exact hw k B' hk
theorem Heap.wf_del {h : Heap} (hw : ∀ k B, h.get k = some B → k < h.next) (j : Nat) : ∀ k B', (h.del j).get k = some B' → k < (h.del j).next := fun k B' hk => by
  rw [h.get_del] at hk
  split at hk
  · cases hk
  · exact hw k B' hk

/-- A new block at the next number. -/
theorem Allocs.step {h : Heap} {w w' : World} (hs : Sim β h w) {B : Blk} {f : Nat → Value} {v' : Value} (ha : Allocs β w B f v' w') :
    ∃ β', Step β h w β' (h.push B) w' ∧ VRel β' (f h.next) v' := by
  obtain ⟨sl, hb, hnew⟩ := ha.new
  have hnone := hs.none_of_ge (Nat.le_refl h.next)
  have hle : β.le (β.ext h.next sl) := Inj.le_ext sl hnone
  obtain ⟨h1, h2⟩ := hnew _ h.next hle (β.ext_same _ _)
  have hlt : ∀ k sl', β k = some sl' → sl'.b < w.heap.size := fun k sl' hk => (hs.lt k sl' hk).2
  have hwr : ∀ b, b < w.heap.size → Wr (β.ext h.next sl) (h.push B) b → Wr β h b := by
    rintro b hb' ⟨k, B', sl', e1, e2, e3, e4⟩
    by_cases hk : k = h.next
    · subst hk
      rw [β.ext_same] at e3
      obtain rfl := Option.some.inj e3
      omega
    · rw [h.get_push_ne k B hk] at e1
      rw [β.ext_ne sl hk] at e3
      exact ⟨k, B', sl', e1, e2, e3, e4⟩
  refine ⟨β.ext h.next sl, ⟨hle, by simp, ⟨?_, ?_, ?_, Heap.wf_push hs.wf B⟩, by rw [ha.size]; omega, ha.os, ha.tape, ha.output, fun b hb' _ => ha.kept b hb', hwr, ?_, ?_⟩, h2⟩
  · intro k sl' hk
    by_cases hkn : k = h.next
    · subst hkn
      rw [β.ext_same] at hk
      obtain rfl := Option.some.inj hk
      exact ⟨by simp, by rw [ha.size, hb]; omega⟩
    · rw [β.ext_ne sl hkn] at hk
      have := hs.lt k sl' hk
      exact ⟨by simp; omega, by rw [ha.size]; omega⟩
  · intro k B' sl' e1 e2
    by_cases hkn : k = h.next
    · subst hkn
      rw [β.ext_same] at e2
      obtain rfl := Option.some.inj e2
      rw [h.get_push_same] at e1
      obtain rfl := Option.some.inj e1
      exact h1
    · rw [h.get_push_ne k B hkn] at e1
      rw [β.ext_ne sl hkn] at e2
      exact ((hs.blk k B' sl' e1 e2).mono hle).of_heap (ha.kept _ (hlt k sl' e2))
  · intro k k' B' B'' sl' sl'' hne e1 e2 e3 e4 e5
    by_cases hkn : k = h.next
    · subst hkn
      rw [β.ext_same] at e3
      obtain rfl := Option.some.inj e3
      rw [β.ext_ne sl (Ne.symm hne)] at e4
      have := hlt k' sl'' e4
      omega
    · by_cases hkn' : k' = h.next
      · subst hkn'
        rw [β.ext_same] at e4
        obtain rfl := Option.some.inj e4
        rw [β.ext_ne sl hne] at e3
        have := hlt k sl' e3
        omega
      · rw [h.get_push_ne k B hkn] at e1
        rw [h.get_push_ne k' B hkn'] at e2
        rw [β.ext_ne sl hkn] at e3
        rw [β.ext_ne sl hkn'] at e4
        exact hs.own k k' B' B'' sl' sl'' hne e1 e2 e3 e4 e5
  · intro k sl' hk
    by_cases hkn : k = h.next
    · subst hkn
      rw [β.ext_same] at hk
      obtain rfl := Option.some.inj hk
      exact .inr ⟨Nat.le_refl _, .inl (by omega)⟩
    · rw [β.ext_ne sl hkn] at hk
      exact .inl hk
  · intro k B' hk hlt'
    rw [h.get_push_ne k B (by omega)] at hk
    exact ⟨B', hk⟩

theorem CellsAt.of_list {cs : List Value} {l' : List Value} (h : LRel β cs l') : CellsAt β cs 0 l'.toArray := fun i v hv => by
  obtain ⟨v', h1, h2⟩ := h.get hv
  exact ⟨v', by simpa using h1, h2⟩

theorem frOk_zero (n : Nat) : frOk (0, 0) n := fun x _ h => absurd h (by simp)

theorem heap_push_new {w : World} (o : Obj) : (w.alloc o).heap[w.heap.size]? = some o := by
  unfold World.alloc; simp only [Array.getElem?_push, if_true]
theorem heap_push_old {w : World} (o : Obj) {b : Nat} (h : b < w.heap.size) : (w.alloc o).heap[b]? = w.heap[b]? := by
  simp only [World.alloc, Array.getElem?_push]
  rw [if_neg (by omega)]

/-- A new row of cells. -/
theorem allocs_row {w : World} {cs l' : List Value} {t : TypeId} {sz : Nat} {f : Nat → Value} {v' : Value} (h : LRel β cs l')
    (hv : ∀ (β' : Inj) (k : Nat) (sl : Slot), β' k = some sl → sl.b = w.heap.size → sl.s = 0 → sl.n = l'.length → sl.sz = sz → sl.isMap = false → VRel β' (f k) v') :
    Allocs β w (.cells cs t sz true) f v' (w.alloc (.cells l'.toArray t)) where
  size := by simp
  os := rfl
  tape := rfl
  output := rfl
  kept := fun b hb => heap_push_old _ hb
  new := ⟨⟨w.heap.size, 0, l'.length, t, sz, false⟩, rfl, fun β' k hle hk =>
    ⟨⟨rfl, rfl, ⟨rfl, fun _ => rfl⟩, l'.toArray, (0, 0), heap_push_new _, by simp, CellsAt.of_list (h.mono hle), fun _ => frOk_zero _⟩, hv β' k _ hk rfl rfl rfl rfl rfl⟩⟩

theorem LRel.refl_plain {z : Value} (h : plain z = true) : LRel β z.cells.toList z.cells.toList := ARel.toList.1 (ARel.of_plain_cells h)

theorem zeroRow_rel {l l' : List Value} (h : LRel β l l') : ∀ n, LRel β (zeroRow l n) (zeroRow l' n)
  | 0 => .nil β
  | n + 1 => h.append (zeroRow_rel h n)
theorem zeroRow_length (l : List Value) : ∀ n, (zeroRow l n).length = n * l.length
  | 0 => by simp [zeroRow]
  | n + 1 => by simp [zeroRow, zeroRow_length l n, Nat.add_mul, Nat.add_comm]
theorem zeroRow_get (l : List Value) : ∀ (n i : Nat), i < n * l.length → (zeroRow l n)[i]? = l[i % l.length]?
  | 0, i, h => by simp at h
  | n + 1, i, h => by
    have hl : 0 < l.length := by
      rcases Nat.eq_zero_or_pos l.length with h0 | h0
      · rw [h0] at h; simp at h
      · exact h0
    simp only [zeroRow]
    by_cases hi : i < l.length
    · rw [List.getElem?_append_left hi, Nat.mod_eq_of_lt hi]
    · rw [List.getElem?_append_right (by omega), zeroRow_get l n (i - l.length) (by rw [Nat.add_mul] at h; omega)]
      congr 1
      exact (Nat.mod_eq_sub_mod (by omega)).symm
/-- The model's row of zeros. -/
theorem zeroRow_eq (z : Array Value) (n : Nat) (hz : 0 < z.size) : ((Array.range (n * z.size)).map (fun i => z[i % z.size]!)) = (zeroRow z.toList n).toArray := by
  apply Array.ext'
  apply List.ext_getElem?
  intro i
  simp only [Array.toList_map, Array.toList_range, List.getElem?_map]
  by_cases hi : i < n * z.size
  · rw [List.getElem?_range hi, zeroRow_get z.toList n i (by simpa using hi)]
    have hm : i % z.size < z.size := Nat.mod_lt _ hz
    simp [hm]
  · rw [List.getElem?_eq_none (by simp; omega), List.getElem?_eq_none (by rw [zeroRow_length]; simp; omega)]
    rfl
end Go.Ab
