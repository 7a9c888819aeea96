/- The evaluator of small memories: a part (AbAlloc). -/
import Derived.Test.YtcngigfjdlgfbaaGreatDoorAbStep
import Derived.Laws.BitsLemmas
namespace Go.Ab
open Go
variable {β : Inj} {P : Program}

theorem run_newRow (e : TypeId) (cs : Array Value) (w : World) : (newRow e cs).run P w = .ok ⟨w.heap.size, 0, none⟩ (w.alloc (.cells cs e)) := by
  simp [newRow]

theorem ptr_new {w : World} {β' : Inj} {k : Nat} {sl : Slot} (h : β' k = some sl) (hb : sl.b = w.heap.size) (hs : sl.s = 0) (hm : sl.isMap = false) : VRel β' (.pointer (some ⟨k, 0, none⟩)) (.pointer (some ⟨w.heap.size, 0, none⟩)) := by
  have := VRel.ptr (i := 0) h hm
  rwa [hb, hs] at this

theorem slice_new {w : World} {β' : Inj} {k : Nat} {sl : Slot} {n c c' : Nat} (h : β' k = some sl) (hb : sl.b = w.heap.size) (hs : sl.s = 0) (hm : sl.isMap = false) (hx : c < OPEN → c' = c) (ho : OPEN ≤ c → c - OPEN ≤ c') (hn : n ≤ capOf c)
    (hz : sl.sz = 0 ∨ c' * sl.sz ≤ sl.n) : VRel β' (.slice (some ⟨k, 0, none⟩) n c) (.slice (some ⟨w.heap.size, 0, none⟩) n c') := by
  have := VRel.slice (i := 0) (i' := 0) h hm hx ho hn (.inl (by rw [hs])) (by simpa using hz)
  rwa [hb] at this

theorem capOf_lt {c : Nat} (h : c < OPEN) : capOf c = c := by unfold capOf; rw [if_neg (by omega)]
theorem capOf_open (c : Nat) : capOf (OPEN + c) = c := by unfold capOf; rw [if_pos (by omega)]; omega
theorem OPEN_eq : OPEN = 36893488147419103232 := rfl

def frz (a : Addr) (n : Nat) : Obj → Obj
  | .cells c elem (lo, hi) => .cells c elem (if lo == hi then (a.off, a.off + n) else (min lo a.off, max hi (a.off + n)))
  | o => o
theorem freeze_heap (w : World) (a : Addr) {n : Nat} (hn : n ≠ 0) (b : Nat) : (w.freeze a n).heap[b]? = if a.block = b then (w.heap[b]?).map (frz a n) else w.heap[b]? := by
  unfold World.freeze
  rw [if_neg hn]
  simp only [Array.getElem?_modify]
  rfl
theorem freeze_size (w : World) (a : Addr) (n : Nat) : (w.freeze a n).heap.size = w.heap.size := by
  unfold World.freeze
  split
  · rfl
  · simp
theorem freeze_rest (w : World) (a : Addr) (n : Nat) : (w.freeze a n).os = w.os ∧ (w.freeze a n).tape = w.tape ∧ (w.freeze a n).output = w.output := by
  unfold World.freeze
  split <;> exact ⟨rfl, rfl, rfl⟩

theorem foldl_size (off : Nat) : ∀ (q : List (Value × Nat)) (a : Array Value), (q.foldl (fun cs (c, j) => cs.setIfInBounds (off + j) c) a).size = a.size
  | [], _ => rfl
  | c :: q, a => by simp only [List.foldl_cons]; rw [foldl_size off q]; simp
theorem fill_size (place : Nat → Option (Nat × Nat)) : ∀ (l : List (Nat × Value)) (a r : Array Value), Instr.fill place a l = some r → r.size = a.size
  | [], a, r, h => by simp only [Instr.fill, Option.some.injEq] at h; rw [h]
  | (i, v) :: l, a, r, h => by
    simp only [Instr.fill] at h
    split at h
    · cases h
    · split at h
      · cases h
      · rw [fill_size place l _ _ h, ← Array.foldl_toList]
        exact foldl_size _ _ a
theorem range_zero_map (f : Nat → Value) (n : Nat) (h : n = 0) : (Array.range n).map f = #[] := by
  subst h; apply Array.ext'; simp

set_option maxHeartbeats 1000000 in
theorem opAlloc_sim {ρ ρ' : Operand → Value} (hρ : ∀ x, VRel β (ρ x) (ρ' x)) {o : Oper} {B : Blk} {f : Nat → Value} {w : World} (hv : opAlloc P ρ o = some (B, f)) :
    ∃ v' w', (execOp ρ' o).run P w = .ok (.value v') w' ∧ Allocs β w B f v' w' := by
  unfold opAlloc at hv
  unfold execOp
  split at hv
  · next t ho =>
    simp only [ho]
    split at hv
    · next z hz =>
      split at hv
      · next hsc =>
        simp only [Option.some.injEq, Prod.mk.injEq] at hv
        obtain ⟨rfl, rfl⟩ := hv
        refine ⟨_, _, run_v (v := .pointer (some ⟨w.heap.size, 0, none⟩)) (w' := w.alloc (.cells z.cells.toList.toArray t)) ?_, allocs_row (LRel.refl_plain (zeroOf_some hz).1) fun β' k sl h1 h2 h3 h4 h5 h6 => ptr_new h1 h2 h3 h6⟩
        simp [Instr.alloc, run_zero hz, newVar, run_newRow]
      · cases hv
    · cases hv
  · next t x ho =>
    simp only [ho]
    split at hv
    · next hsc =>
      simp only [Option.some.injEq, Prod.mk.injEq] at hv
      obtain ⟨rfl, rfl⟩ := hv
      have hx := hρ x
      have hj : ρ x ≠ Ab.junk := by
        intro e
        rw [e] at hsc
        cases hsc
      have hc := hx.cells hj
      refine ⟨_, _, run_v (v := .pointer (some ⟨w.heap.size, 0, none⟩)) (w' := w.alloc (.cells (ρ' x).cells.toList.toArray t)) ?_, allocs_row (ARel.toList.1 hc) fun β' k sl h1 h2 h3 h4 h5 h6 => ptr_new h1 h2 h3 h6⟩
      simp [Instr.box, newVar, run_newRow]
    · cases hv
  · next t len parts ho =>
    simp only [ho]
    split at hv
    · next e hu =>
      split at hv
      · next sz z hsz hz =>
        split at hv
        · next hc =>
          obtain ⟨hzs, hpos, hlim⟩ := hc
          split at hv
          · next cs hcs =>
            split at hcs
            · next hj =>
              split at hv
              · next hsc =>
                simp only [Option.some.injEq, Prod.mk.injEq] at hv
                obtain ⟨rfl, rfl⟩ := hv
                have hrow : ARel β (zeroRow z.cells.toList len).toArray (zeroRow z.cells.toList len).toArray := ARel.toList.2 (by simpa using zeroRow_rel (LRel.refl_plain (zeroOf_some hz).1) len)
                have hpr : PRel β (parts.toList.map fun p => (p.1, ρ p.2)) (parts.toList.map fun p => (p.1, ρ' p.2)) := PRel.map parts.toList (·.1) fun p _ => hρ p.2
                obtain ⟨cs', hf, hr⟩ := fill_rel _ _ _ _ _ _ hpr (by
                  intro p hp
                  simp only [List.mem_map] at hp
                  obtain ⟨q, hq, rfl⟩ := hp
                  exact List.all_eq_true.1 hj q hq) hrow hcs
                have hsize : cs'.size = len * sz := by
                  rw [fill_size _ _ _ _ hf]
                  simp [zeroRow_length, hzs]
                refine ⟨_, _, run_v (v := .slice (some ⟨w.heap.size, 0, none⟩) len len) (w' := w.alloc (.cells cs'.toList.toArray e)) ?_, allocs_row (ARel.toList.1 hr) fun β' k sl h1 h2 h3 h4 h5 h6 =>
                  slice_new h1 h2 h3 h6 (fun _ => rfl) (fun h => absurd h (by rw [OPEN_eq]; have : len ≤ len * sz := Nat.le_mul_of_pos_right _ hpos; omega))
                    (by rw [capOf_lt (by rw [OPEN_eq]; have : len ≤ len * sz := Nat.le_mul_of_pos_right _ hpos; omega)]; exact Nat.le_refl _) (.inr (by rw [h5, h4]; simp [hsize]))⟩
                have he : (parts.map fun (i, x) => (i, ρ' x)).toList = (parts.toList.map fun p => (p.1, ρ' p.2)) := by simp
                have hzr : ((Array.range (len * sz)).map (z.cells[· % z.cells.size]!)) = (zeroRow z.cells.toList len).toArray := by
                  rw [← hzs]; exact zeroRow_eq z.cells len (by omega)
                simp only [Instr.buildSlice, Sem.run_bind, run_und hu, Result.andThen_ok, run_size hsz, Sem.run_ite]
                rw [if_neg (by omega)]
                by_cases hl0 : len * sz = 0
                · rw [if_pos hl0]
                  have : len = 0 := by rcases Nat.mul_eq_zero.1 hl0 with h | h; exact h; omega
                  subst this
                  simp only [zeroRow] at hf
                  simp only [Sem.run_pure, Result.andThen_ok, he]
                  rw [range_zero_map _ _ (by simp)]
                  have hf' : Instr.fill (fun i => some (i * sz, sz)) #[] (parts.toList.map fun p => (p.1, ρ' p.2)) = some cs' := hf
                  rw [hf']
                  simp [run_newRow]
                · rw [if_neg hl0]
                  simp only [Sem.run_bind, run_zero hz, Sem.run_pure, Result.andThen_ok, hzr, he, hf]
                  simp [run_newRow]
              · cases hv
            · cases hcs
          · cases hv
        · cases hv
      · cases hv
    · cases hv
  · next t l c ho =>
    simp only [ho]
    have hl := hρ l
    have hc := hρ c
    split at hv
    · next e l0 c0 hu hla hca =>
      rw [hla] at hl
      rw [hca] at hc
      split at hv
      · next i z hi hz =>
        split at hv
        · next hcond =>
          obtain ⟨hzs, hpos, h0, h1, h2, h3⟩ := hcond
          simp only [Option.some.injEq, Prod.mk.injEq] at hv
          obtain ⟨rfl, rfl⟩ := hv
          have hrow : LRel β (zeroRow z.cells.toList c0.toNat) (zeroRow z.cells.toList c0.toNat) := zeroRow_rel (LRel.refl_plain (zeroOf_some hz).1) _
          have hsz : sizeOf? P e = some i.size := by simp [sizeOf?, hi]
          refine ⟨_, _, run_v (v := .slice (some ⟨w.heap.size, 0, none⟩) l0.toNat c0.toNat) (w' := w.alloc (.cells (zeroRow z.cells.toList c0.toNat).toArray e)) ?_, allocs_row hrow fun β' k sl h1' h2' h3' h4 h5 h6 =>
            slice_new h1' h2' h3' h6 (fun _ => rfl) (fun h => absurd h (by rw [OPEN_eq]; omega)) (by rw [capOf_lt (by rw [OPEN_eq]; omega)]; omega) (.inr (by rw [h5, h4, zeroRow_length]; simp [hzs]))⟩
          have hw1 : IntKind.i64.wrap l0 = l0 := by rw [IntKind.wrap_i64]; omega
          have hw2 : IntKind.i64.wrap c0 = c0 := by rw [IntKind.wrap_i64]; omega
          simp only [Instr.makeSlice, Sem.run_bind, run_und hu, Result.andThen_ok, hl.inv_int, hc.inv_int, asInt, asIntOf, Sem.run_pure, run_info hi, hw1, hw2, Sem.run_ite]
          have hib : (i.bytes : Int) * c0 ≤ 140737488355328 := by rw [Int.mul_comm]; exact h2
          rw [if_neg (by simp; omega)]
          simp only [run_askRoom, Result.andThen_ok, run_size hsz]
          by_cases hc0 : c0.toNat * i.size = 0
          · rw [if_pos hc0]
            have : c0.toNat = 0 := by rcases Nat.mul_eq_zero.1 hc0 with h | h; exact h; omega
            rw [range_zero_map _ _ hc0, run_newRow, this]
            rfl
          · rw [if_neg hc0]
            have hzr := zeroRow_eq z.cells c0.toNat (by omega)
            rw [hzs] at hzr
            simp only [run_zero hz, Result.andThen_ok, hzs]
            rw [hzr, run_newRow]
            rfl
        · cases hv
      · cases hv
    · cases hv
  · next t r ho =>
    simp only [ho]
    have hnew : ∀ v', v' = Value.map (some w.heap.size) → Allocs β w (.map []) (fun k => .map (some k)) v' (w.alloc (.map #[] 0)) := fun v' he =>
      { size := by simp, os := rfl, tape := rfl, output := rfl, kept := fun b hb => heap_push_old _ hb
        new := ⟨⟨w.heap.size, 0, 0, 0, 0, true⟩, rfl, fun β' k _ hk => ⟨⟨rfl, #[], 0, heap_push_new _, rfl, fun i p e h => by simp at h⟩, by rw [he]; exact .map (sl := ⟨w.heap.size, 0, 0, 0, 0, true⟩) hk rfl⟩⟩ }
    split at hv
    · next kt e hu =>
      split at hv
      · simp only [Option.some.injEq, Prod.mk.injEq] at hv
        obtain ⟨rfl, rfl⟩ := hv
        refine ⟨_, _, run_v (v := .map (some w.heap.size)) (w' := w.alloc (.map #[] 0)) ?_, hnew _ rfl⟩
        simp [Instr.makeMap]
      · next x =>
        split at hv
        · next k n hx =>
          have hxr := hρ x
          rw [hx] at hxr
          simp only [Option.some.injEq, Prod.mk.injEq] at hv
          obtain ⟨rfl, rfl⟩ := hv
          refine ⟨_, _, run_v (v := .map (some w.heap.size)) (w' := w.alloc (.map #[] 0)) ?_, hnew _ rfl⟩
          simp [Instr.makeMap, run_und hu, hxr.inv_int, asInt, asIntOf]
        · cases hv
    · cases hv
  · next s d x ho =>
    simp only [ho]
    have hx := hρ x
    split at hv
    · next ds e s0 h1 h2 ha =>
      rw [ha] at hx
      split at hv
      · next he =>
        split at hv
        · next hsz =>
          simp only [Option.some.injEq, Prod.mk.injEq] at hv
          obtain ⟨rfl, rfl⟩ := hv
          have hcut : (Question.appendCap s0.size 0 e).forced = false := rfl
          obtain ⟨cap, hcap, hle⟩ : ∃ cap, (Question.appendCap s0.size 0 e).cut (w.tape w.drawn (.appendCap s0.size 0 e)) = cap ∧ s0.size ≤ cap := ⟨_, rfl, by simp [Question.cut]⟩
          let cells : Array Value := (s0.data.map fun b => Value.int .u8 b.toNat) ++ Array.replicate (cap - s0.size) (.int .u8 0)
          have hcs : cells.size = cap := by simp [cells]; omega
          let w1 : World := w.drew.alloc (.cells cells e)
          let w2 : World := w1.freeze ⟨w.heap.size, cap, none⟩ 1
          have hnew : w2.heap[w.heap.size]? = some (.cells cells e (cap, cap + 1)) := by
            have h1 : w1.heap[w.heap.size]? = some (.cells cells e) := heap_push_new (w := w.drew) _
            simp only [w2, freeze_heap _ _ (Nat.succ_ne_zero 0), if_true, h1, Option.map_some, frz, BEq.rfl]
          refine ⟨_, w2, run_v (v := .slice (some ⟨w.heap.size, 0, none⟩) s0.size cap) (w' := w2) ?_, ?_⟩
          · have hsh : w1.shape? w.heap.size = some (e, cap) := by
              have h1 : w1.heap[w.heap.size]? = some (.cells cells e) := heap_push_new (w := w.drew) _
              simp [World.shape?, h1, hcs]
            have hconv : (convert s d (ρ' x)).run P w = (Conv.stringToBytes e s0).run P w := by
              rw [hx.inv_string]
              simp only [convert, Sem.run_bind, run_und h1, run_und h2, Result.andThen_ok]
              cases ds <;> simp only [run_und he, Result.andThen_ok]
            rw [hconv]
            simp only [Conv.stringToBytes, Sem.run_bind, run_choose, hcut, Bool.false_eq_true, if_false, Result.andThen_ok, hcap, run_newRow]
            show (Sem.run P (markStringish ⟨w.heap.size, 0, none⟩) w1).andThen _ = _
            simp only [markStringish, Sem.run_bind, run_shape, hsh, Result.andThen_ok, run_freeze, Sem.run_pure]
            rfl
          · refine { size := ?_, os := rfl, tape := rfl, output := rfl, kept := ?_, new := ⟨⟨w.heap.size, 0, cap, e, 1, false⟩, rfl, ?_⟩ }
            · simp [w2, w1, freeze_size]
            · intro b hb
              have : w1.heap[b]? = w.heap[b]? := heap_push_old (w := w.drew) _ hb
              simp only [w2, freeze_heap _ _ (Nat.succ_ne_zero 0)]
              rw [if_neg (by omega)]
              exact this
            · intro β' k hle' hk
              refine ⟨⟨rfl, rfl, ⟨rfl, fun _ => rfl⟩, cells, (cap, cap + 1), hnew, hcs, ?_, fun _ x h1 h2 => by rw [hcs]; exact h1⟩, ?_⟩
              · intro i v hv
                simp only [List.getElem?_map, Option.map_eq_some_iff] at hv
                obtain ⟨b, hb, rfl⟩ := hv
                refine ⟨_, ?_, .int _ _⟩
                have hi : i < s0.data.size := by
                  have := (List.getElem?_eq_some_iff.1 hb).1; simpa using this
                simp only [cells, Nat.zero_add]
                rw [Array.getElem?_append_left (by simpa using hi)]
                rw [Array.getElem?_toList] at hb
                simp [hb]
              · have : s0.data.toList.length = s0.size := by simp
                rw [this]
                exact slice_new (w := w) hk rfl rfl rfl (fun h => absurd h (by omega)) (fun _ => by omega) (by rw [capOf_open]; exact Nat.le_refl _) (.inr (by simp))
        · cases hv
      · cases hv
    · cases hv
  · cases hv
end Go.Ab
