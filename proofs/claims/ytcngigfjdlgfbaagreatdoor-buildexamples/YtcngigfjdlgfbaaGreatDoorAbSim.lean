/- The evaluator of small memories: a part (AbSim). -/
import Derived.Test.YtcngigfjdlgfbaaGreatDoorAbPure2
import Derived.Laws.BytesString
namespace Go.Ab
open Go
variable {β : Inj} {P : Program}

def Blk.wr : Blk → Bool
  | .cells _ _ _ wr => wr
  | .map _ => true
  | .loop .. => true

/-- Nothing within a row of n cells is frozen. -/
def frOk (fr : Nat × Nat) (n : Nat) : Prop := ∀ x, fr.1 ≤ x → x < fr.2 → n ≤ x

def ERel (β : Inj) (es : List (Value × Value)) (es' : List MapEntry) : Prop :=
  es.length = es'.length ∧ ∀ (i : Nat) p e, es[i]? = some p → es'[i]? = some e → VRel β p.1 e.key ∧ VRel β p.2 e.val

def CellsAt (β : Inj) (cs : List Value) (s : Nat) (cs' : Array Value) : Prop := ∀ (i : Nat) v, cs[i]? = some v → ∃ v', cs'[s + i]? = some v' ∧ VRel β v v'

def LStRel : LSt → LoopState → Option Code → Prop
  | .ready, s, j => s = .ready ∧ j = none
  | .busy, s, _ => s = .busy
  | .ret, s, j => s = .done ∧ j = some .ret
  | .exit id, s, j => s = .done ∧ j = some (.exit id)

/-- A block of the small memory as it lies in the world. -/
def BRel (β : Inj) (B : Blk) (sl : Slot) (w : World) : Prop :=
  match B with
  | .cells cs t sz wr => sl.isMap = false ∧ sl.t = t ∧ (sl.sz = sz ∧ (sz = 0 → sl.s = 0)) ∧ ∃ cs' fr, w.heap[sl.b]? = some (.cells cs' t fr) ∧ cs'.size = sl.n ∧ CellsAt β cs sl.s cs' ∧ (wr = true → frOk fr cs'.size)
  | .map es => sl.isMap = true ∧ ∃ es' clock, w.heap[sl.b]? = some (.map es' clock) ∧ ERel β es es'.toList
  | .loop st tm ps asg body _ => sl.isMap = true ∧ ∃ r : Loop, w.heap[sl.b]? = some (.loop r) ∧ LStRel st r.state r.pending ∧ LRel β tm r.tmps.toList ∧ r.params.toList = ps ∧ r.assign = asg ∧ r.body = body

structure Sim (β : Inj) (h : Heap) (w : World) : Prop where
  lt : ∀ k sl, β k = some sl → k < h.next ∧ sl.b < w.heap.size
  blk : ∀ k B sl, h.get k = some B → β k = some sl → BRel β B sl w
  own : ∀ k k' B B' sl sl', k ≠ k' → h.get k = some B → h.get k' = some B' → β k = some sl → β k' = some sl' → B.wr = true → sl.b ≠ sl'.b
  wf : ∀ k B, h.get k = some B → k < h.next

theorem ERel.mono {β β' : Inj} (hβ : β.le β') {es : List (Value × Value)} {es' : List MapEntry} (h : ERel β es es') : ERel β' es es' :=
  ⟨h.1, fun i p e h1 h2 => ⟨(h.2 i p e h1 h2).1.mono hβ, (h.2 i p e h1 h2).2.mono hβ⟩⟩
theorem CellsAt.mono {β β' : Inj} (hβ : β.le β') {cs : List Value} {s : Nat} {cs' : Array Value} (h : CellsAt β cs s cs') : CellsAt β' cs s cs' :=
  fun i v hv => let ⟨v', h1, h2⟩ := h i v hv; ⟨v', h1, h2.mono hβ⟩
theorem BRel.mono {β β' : Inj} (hβ : β.le β') {B : Blk} {sl : Slot} {w : World} (h : BRel β B sl w) : BRel β' B sl w := by
  cases B with
  | cells cs t sz wr =>
    obtain ⟨h1, h2, h3, cs', fr, h4, h5, h6, h7⟩ := h
    exact ⟨h1, h2, h3, cs', fr, h4, h5, h6.mono hβ, h7⟩
  | map es =>
    obtain ⟨h1, es', clock, h2, h3⟩ := h
    exact ⟨h1, es', clock, h2, h3.mono hβ⟩
  | loop st tm ps asg body ok =>
    obtain ⟨h1, r, h2, h3, h4, h5⟩ := h
    exact ⟨h1, r, h2, h3, h4.mono hβ, h5⟩
/-- A block's relation asks the one real block alone. -/
theorem BRel.of_heap {B : Blk} {sl : Slot} {w w' : World} (h : BRel β B sl w) (he : w'.heap[sl.b]? = w.heap[sl.b]?) : BRel β B sl w' := by
  cases B with
  | cells cs t sz wr =>
    obtain ⟨h1, h2, h3, cs', fr, h4, h5, h6, h7⟩ := h
    exact ⟨h1, h2, h3, cs', fr, by rw [he]; exact h4, h5, h6, h7⟩
  | map es =>
    obtain ⟨h1, es', clock, h2, h3⟩ := h
    exact ⟨h1, es', clock, by rw [he]; exact h2, h3⟩
  | loop st tm ps asg body ok =>
    obtain ⟨h1, r, h2, h3⟩ := h
    exact ⟨h1, r, by rw [he]; exact h2, h3⟩

theorem cell_of {w : World} {b i : Nat} {cs : Array Value} {t : TypeId} {fr : Nat × Nat} (h : w.heap[b]? = some (.cells cs t fr)) : w.cell? ⟨b, i, none⟩ = cs[i]? := by
  simp [World.cell?, h]

/-- Of a row of the small memory: the real row, and how they lie. -/
theorem Sim.row {h : Heap} {w : World} (hs : Sim β h w) {k : Nat} {cs : List Value} {t : TypeId} {sz : Nat} {wr : Bool} {sl : Slot} (hk : h.get k = some (.cells cs t sz wr)) (hb : β k = some sl) :
    sl.isMap = false ∧ sl.t = t ∧ sl.sz = sz ∧ ∃ cs' fr, w.heap[sl.b]? = some (.cells cs' t fr) ∧ cs'.size = sl.n ∧ CellsAt β cs sl.s cs' ∧ (wr = true → frOk fr cs'.size) :=
  let ⟨h1, h2, h3, h4⟩ := hs.blk k _ sl hk hb; ⟨h1, h2, h3.1, h4⟩
theorem Sim.row0 {h : Heap} {w : World} (hs : Sim β h w) {k : Nat} {cs : List Value} {t : TypeId} {wr : Bool} {sl : Slot} (hk : h.get k = some (.cells cs t 0 wr)) (hb : β k = some sl) : sl.s = 0 :=
  let ⟨_, _, h3, _⟩ := hs.blk k _ sl hk hb; h3.2 rfl

/-- A stretch of cells, read. -/
theorem run_cells {w : World} {b s : Nat} {cs : List Value} {cs' : Array Value} {t : TypeId} {fr : Nat × Nat} (hw : w.heap[b]? = some (.cells cs' t fr)) (hc : CellsAt β cs s cs') (i n : Nat) (hl : ((cs.drop i).take n).length = n) :
    ∃ l', (loadCells ⟨b, s + i, none⟩ n).run P w = .ok l'.toArray w ∧ LRel β ((cs.drop i).take n) l' := by
  have hlen : i + n ≤ cs.length ∨ n = 0 := by
    simp only [List.length_take, List.length_drop] at hl; omega
  have hget : ∀ j, j < n → ∃ v v', cs[i + j]? = some v ∧ cs'[s + (i + j)]? = some v' ∧ VRel β v v' := by
    intro j hj
    have hlt : i + j < cs.length := by omega
    obtain ⟨v', h1, h2⟩ := hc (i + j) _ (List.getElem?_eq_getElem hlt)
    exact ⟨_, v', List.getElem?_eq_getElem hlt, h1, h2⟩
  refine ⟨(List.range n).map fun j => cs'.getD (s + (i + j)) undef, ?_, ?_, ?_⟩
  · refine run_loadCells w ⟨b, s + i, none⟩ n _ fun j hj => ?_
    obtain ⟨v, v', _, h2, _⟩ := hget j hj
    rw [addr_add, cell_of hw, show s + i + j = s + (i + j) by omega, h2]
    simp [Array.getD_eq_getD_getElem?, h2]
  · simp [hl]
  · intro j v v' h1 h2
    simp only [List.getElem?_map, Option.map_eq_some_iff] at h2
    obtain ⟨j', hj', rfl⟩ := h2
    rw [List.getElem?_take, List.getElem?_drop] at h1
    split at h1
    · next hj =>
      rw [List.getElem?_range hj] at hj'
      obtain rfl := Option.some.inj hj'
      obtain ⟨u, u', e1, e2, e3⟩ := hget j hj
      rw [e1] at h1
      obtain rfl := Option.some.inj h1
      simpa [Array.getD_eq_getD_getElem?, e2] using e3
    · cases h1

theorem load_sim {h : Heap} {w : World} (hs : Sim β h w) {t : TypeId} {a a' v : Value} (hl : loadV P t h a = some v) (ha : VRel β a a') :
    ∃ ad, a' = .pointer (some ad) ∧ ∃ v', (loadVar t ad).run P w = .ok v' w ∧ VRel β v v' := by
  unfold loadV at hl
  split at hl
  · next d k i hu =>
    obtain ⟨sl, hb, hm, rfl⟩ := ha.inv_ptr
    refine ⟨_, rfl, ?_⟩
    split at hl
    · next cs t' sz wr hk =>
      obtain ⟨_, _, _, cs', fr, hw, hn, hc, _⟩ := hs.row hk hb
      simp only [loadVar, Sem.run_bind, run_isAgg hu, Result.andThen_ok, Sem.run_ite]
      split at hl
      · next hag =>
        rw [if_pos hag]
        split at hl
        · next n hsz =>
          split at hl
          · next hlen =>
            obtain rfl := Option.some.inj hl
            obtain ⟨l', hr, hrel⟩ := run_cells (P := P) hw hc i n hlen
            refine ⟨.agg l'.toArray, by simp [run_size hsz, hr], .agg (by simpa using hrel.1) fun j v v' h1 h2 => hrel.2 j v v' (by simpa using h1) (by simpa using h2)⟩
          · cases hl
        · cases hl
      · next hag =>
        rw [if_neg hag]
        obtain ⟨v', h1, h2⟩ := hc i v hl
        exact ⟨v', by simp [run_load, cell_of hw, h1], h2⟩
    · cases hl
  · cases hl

theorem extract_eq (s : ByteArray) (l h : Nat) : (⟨((s.data.toList.drop l).take (h - l)).toArray⟩ : ByteArray) = s.extract l h := by
  apply ba_ext
  simp [ByteArray.data_extract, Array.toList_extract]

def OVRel (β : Inj) (x x' : Option Value) : Prop := match x, x' with | none, none => True | some v, some v' => VRel β v v' | _, _ => False
theorem OVRel.map {ρ ρ' : Operand → Value} (hρ : ∀ x, VRel β (ρ x) (ρ' x)) (x : Option Operand) : OVRel β (x.map ρ) (x.map ρ') := by
  cases x with
  | none => trivial
  | some x => exact hρ x
theorem OVRel.none_ {x' : Option Value} (h : OVRel β none x') : x' = none := by cases x' with | none => rfl | some _ => exact h.elim
theorem OVRel.some_ {v : Value} {x' : Option Value} (h : OVRel β (some v) x') : ∃ v', x' = some v' ∧ VRel β v v' := by cases x' with | none => exact h.elim | some v' => exact ⟨v', rfl, h⟩

theorem optInt_some {x x' : Option Value} {d : Nat} {n : Int} (h : optInt x d = some n) (hx : OVRel β x x') :
    (x = none ∧ x' = none ∧ n = d) ∨ ∃ k, x = some (.int k n) ∧ x' = some (.int k n) := by
  cases x with
  | none => simp only [optInt, Option.some.injEq] at h; exact .inl ⟨rfl, hx.none_, h.symm⟩
  | some v =>
    obtain ⟨v', rfl, hv⟩ := hx.some_
    cases v with
    | int k m => simp only [optInt, Option.some.injEq] at h; subst h; exact .inr ⟨k, rfl, by rw [hv.inv_int]⟩
    | _ => simp [optInt] at h

theorem run_bound {k : IntKind} {n : Int} {y : Nat} {c : BoundsCode} (h0 : 0 ≤ n) (h1 : n ≤ y) (w : World) : (Instr.sliceBound (.int k n) y c).run P w = .ok n.toNat w := by
  simp only [Instr.sliceBound, Sem.run_bind, asIntOf, Sem.run_pure, Result.andThen_ok, Sem.run_ite]
  rw [if_pos ⟨h0, h1⟩]

/-- The bounds of a slice expression, without a third index. -/
theorem run_bounds2 {isS : Bool} {len cap : Nat} {lo hi lo' hi' : Option Value} {l r : Int} (hl : optInt lo 0 = some l) (hh : optInt hi len = some r)
    (hxl : OVRel β lo lo') (hxh : OVRel β hi hi')
    (h0 : 0 ≤ l) (h1 : l ≤ r) (h2 : r ≤ cap) (w : World) : (Instr.sliceBounds isS len cap lo' hi' none).run P w = .ok (l.toNat, r.toNat, cap) w := by
  unfold Instr.sliceBounds
  rcases optInt_some hh hxh with ⟨rfl, rfl, rfl⟩ | ⟨k, rfl, rfl⟩
  · rcases optInt_some hl hxl with ⟨rfl, rfl, rfl⟩ | ⟨k', rfl, rfl⟩
    · simp
    · simp only [Sem.run_bind, Sem.run_pure, Result.andThen_ok]
      rw [run_bound h0 h1]
      simp
  · rcases optInt_some hl hxl with ⟨rfl, rfl, rfl⟩ | ⟨k', rfl, rfl⟩
    · simp only [Sem.run_bind, Sem.run_pure, Result.andThen_ok]
      rw [run_bound (by omega) h2]
      simp
    · simp only [Sem.run_bind, Sem.run_pure, Result.andThen_ok]
      rw [run_bound (by omega) h2]
      simp only [Result.andThen_ok]
      rw [run_bound h0 (by omega)]
      simp

theorem run_bounds3 {len cap : Nat} {lo hi lo' hi' : Option Value} {l r m : Int} {k : IntKind} (hl : optInt lo 0 = some l) (hh : optInt hi len = some r) (hne : hi ≠ none)
    (hxl : OVRel β lo lo') (hxh : OVRel β hi hi')
    (h0 : 0 ≤ l) (h1 : l ≤ r) (h2 : r ≤ m) (h3 : m ≤ cap) (w : World) : (Instr.sliceBounds true len cap lo' hi' (some (.int k m))).run P w = .ok (l.toNat, r.toNat, m.toNat) w := by
  unfold Instr.sliceBounds
  rcases optInt_some hh hxh with ⟨rfl, rfl, rfl⟩ | ⟨k', rfl, rfl⟩
  · exact absurd rfl hne
  · rcases optInt_some hl hxl with ⟨rfl, rfl, rfl⟩ | ⟨k'', rfl, rfl⟩
    · simp only [Sem.run_bind]
      rw [run_bound (by omega) h3]
      simp only [Result.andThen_ok]
      rw [run_bound (by omega) (by omega)]
      simp
    · simp only [Sem.run_bind]
      rw [run_bound (by omega) h3]
      simp only [Result.andThen_ok]
      rw [run_bound (by omega) (by omega)]
      simp only [Result.andThen_ok]
      rw [run_bound h0 (by omega)]
      simp

theorem capOf_le (c : Nat) : capOf c ≤ c := by unfold capOf; split <;> omega

theorem slice_sim {h : Heap} {w : World} (hs : Sim β h w) {t : TypeId} {x x' v : Value} {lo hi mx lo' hi' mx' : Option Value} (hv : sliceV P t x lo hi mx h = some v) (hx : VRel β x x')
    (hlo : OVRel β lo lo') (hhi : OVRel β hi hi') (hmx : OVRel β mx mx') : ∃ v', (Instr.sliceAt t x' lo' hi' mx').run P w = .ok v' w ∧ VRel β v v' := by
  unfold sliceV at hv
  split at hv
  · next s =>
    cases hx.inv_string
    split at hv
    · next hu =>
      split at hv
      · next _ l r hl hh =>
        split at hv
        · next hc =>
          obtain rfl := Option.some.inj hv
          have hmx' : mx' = none := hmx.none_
          subst hmx'
          refine ⟨.string (s.extract l.toNat r.toNat), ?_, ?_⟩
          · have hsz : s.size = s.data.toList.length := by simp
            simp only [Instr.sliceAt, Sem.run_bind, run_und hu, Result.andThen_ok, Instr.slice]
            simp only [Option.isSome_none, Bool.false_eq_true, if_false, Sem.run_bind, Sem.run_pure]
            rw [hsz, run_bounds2 hl hh hlo hhi hc.1 hc.2.1 hc.2.2]
            simp
          · rw [strOf, show (r - l).toNat = r.toNat - l.toNat by omega, extract_eq]
            exact .string _
        · cases hv
      · cases hv
    · cases hv
  · split at hv
    · next e hu =>
      split at hv
      · next n hl hh hsz =>
        obtain rfl := Option.some.inj hv
        obtain ⟨_, _, rfl⟩ := hx.inv_nilSlice
        have hmx' : mx' = none := hmx.none_
        subst hmx'
        refine ⟨.slice none 0 0, ?_, .nilSlice⟩
        simp only [Instr.sliceAt, Sem.run_bind, run_und hu, Result.andThen_ok, Instr.slice]
        rw [run_bounds2 hl hh hlo hhi (by omega) (by omega) (by omega)]
        simp [run_size hsz]
      · cases hv
    · cases hv
  · next k i len cap =>
    split at hv
    · next e hu =>
      split at hv
      · next l r sz cs t' sz' wr hl hh hsz hk =>
        split at hv
        · next hszz =>
          obtain ⟨sl, i', c', hb, hm, _, rfl, hx1, ho1, hn1, hi1, hz1⟩ := hx.inv_slice
          obtain ⟨_, _, hslz, _⟩ := hs.row hk hb
          have hcap : capOf cap ≤ c' := by
            unfold capOf; split
            · next hc => exact ho1 hc
            · next hc => rw [hx1 (by omega)]; exact Nat.le_refl _
          split at hv
          · split at hv
            · next hc =>
              obtain rfl := Option.some.inj hv
              have hmx' : mx' = none := hmx.none_
              subst hmx'
              have hlc : l.toNat ≤ c' := by omega
              refine ⟨.slice (if c' = l.toNat then some ⟨sl.b, i', none⟩ else some ⟨sl.b, i' + l.toNat * sz, none⟩) (r - l).toNat (c' - l.toNat), ?_, ?_⟩
              · simp only [Instr.sliceAt, Sem.run_bind, run_und hu, Result.andThen_ok, Instr.slice]
                rw [run_bounds2 hl hh hlo hhi hc.1 hc.2.1 (by omega)]
                simp only [Result.andThen_ok, run_size hsz, Sem.run_pure, Option.map_some, addr_add]
                rw [show r.toNat - l.toNat = (r - l).toNat by omega]
              · by_cases hcl : c' = l.toNat
                · rw [if_pos hcl]
                  refine .slice hb hm ?_ ?_ ?_ (.inr ⟨by omega, by omega⟩) ?_
                  · intro hlt
                    by_cases hco : cap < OPEN
                    · have := hx1 hco; omega
                    · have := ho1 (by omega); have h5 : capOf cap = cap - OPEN := by unfold capOf; rw [if_pos (by omega)]
                      omega
                  · intro hge
                    have hco : OPEN ≤ cap := by omega
                    have := ho1 hco
                    omega
                  · have : (r - l).toNat = 0 := by omega
                    omega
                  · rcases hz1 with hz1 | hz1
                    · exact .inl hz1
                    · right; rw [show c' - l.toNat = 0 by omega]; simp; exact Nat.le_trans (Nat.le_add_right _ _) hz1
                · rw [if_neg hcl]
                  have hi2 : i' = sl.s + i := by rcases hi1 with h1 | ⟨h1, h2⟩; exact h1; exact absurd h2 (by omega)
                  refine .slice hb hm ?_ ?_ ?_ (.inl (by omega)) ?_
                  · intro hlt
                    by_cases hco : cap < OPEN
                    · have := hx1 hco; omega
                    · have := ho1 (by omega); have h5 : capOf cap = cap - OPEN := by unfold capOf; rw [if_pos (by omega)]
                      omega
                  · intro hge
                    have hco : OPEN ≤ cap := by omega
                    have := ho1 hco
                    omega
                  · by_cases hco : cap < OPEN
                    · have h5 : capOf cap = cap := by unfold capOf; rw [if_neg (by omega)]
                      have h6 : capOf (cap - l.toNat) = cap - l.toNat := by unfold capOf; rw [if_neg (by omega)]
                      omega
                    · have h5 : capOf cap = cap - OPEN := by unfold capOf; rw [if_pos (by omega)]
                      have h6 : capOf (cap - l.toNat) = cap - l.toNat - OPEN := by unfold capOf; rw [if_pos (by omega)]
                      omega
                  · rcases hszz with e1 | e1
                    · rcases hz1 with hz1 | hz1
                      · exact .inl hz1
                      · right
                        subst e1; rw [← hslz]
                        rw [Nat.sub_mul]
                        have : l.toNat * sl.sz ≤ c' * sl.sz := Nat.mul_le_mul_right _ hlc
                        omega
                    · exact .inl (by omega)
            · cases hv
          · next k m =>
            split at hv
            · next hc =>
              obtain rfl := Option.some.inj hv
              obtain ⟨h0, h1, h2, h3, h4, h5⟩ := hc
              obtain ⟨vm, rfl, hvm⟩ := hmx.some_
              cases hvm.inv_int
              have hne : hi ≠ none := by intro e; subst e; cases h5
              have hmc : m.toNat ≤ c' := by omega
              refine ⟨.slice (if m.toNat = l.toNat then some ⟨sl.b, i', none⟩ else some ⟨sl.b, i' + l.toNat * sz, none⟩) (r - l).toNat (m.toNat - l.toNat), ?_, ?_⟩
              · simp only [Instr.sliceAt, Sem.run_bind, run_und hu, Result.andThen_ok, Instr.slice]
                rw [run_bounds3 hl hh hne hlo hhi h0 h1 h2 (by omega)]
                simp only [Result.andThen_ok, run_size hsz, Sem.run_pure, Option.map_some, addr_add]
                rw [show r.toNat - l.toNat = (r - l).toNat by omega]
              · have hcm : capOf (m - l).toNat = (m - l).toNat := by unfold capOf; rw [if_neg (by omega)]
                by_cases hcl : m.toNat = l.toNat
                · rw [if_pos hcl]
                  refine .slice hb hm (by omega) (by omega) (by omega) (.inr ⟨by omega, by omega⟩) ?_
                  rcases hz1 with hz1 | hz1
                  · exact .inl hz1
                  · right; rw [show m.toNat - l.toNat = 0 by omega]; simp; exact Nat.le_trans (Nat.le_add_right _ _) hz1
                · rw [if_neg hcl]
                  have hi2 : i' = sl.s + i := by rcases hi1 with h1 | ⟨h1, h2⟩; exact h1; exact absurd h2 (by omega)
                  refine .slice hb hm (by omega) (by omega) (by omega) (.inl (by omega)) ?_
                  rcases hszz with e1 | e1
                  · rcases hz1 with hz1 | hz1
                    · exact .inl hz1
                    · right
                      subst e1; rw [← hslz]
                      have e2 : l.toNat * sl.sz + (m.toNat - l.toNat) * sl.sz = m.toNat * sl.sz := by rw [← Nat.add_mul]; congr 1; omega
                      have : m.toNat * sl.sz ≤ c' * sl.sz := Nat.mul_le_mul_right _ hmc
                      omega
                  · exact .inl (by omega)
            · cases hv
          · cases hv
        · cases hv
      · cases hv
    · cases hv
  · next k i =>
    obtain ⟨sl, hb, hm, rfl⟩ := hx.inv_ptr
    split at hv
    · next n e hu =>
      split at hv
      · next _ l r sz cs t' wr hl hh hsz hk =>
        split at hv
        · next hc =>
          obtain ⟨h0, h1, h2, h3⟩ := hc
          obtain rfl := Option.some.inj hv
          have hmx' : mx' = none := hmx.none_
          subst hmx'
          obtain ⟨_, _, hslz, _⟩ := hs.row hk hb
          have hcm : capOf (n - l.toNat) = n - l.toNat := by unfold capOf; rw [if_neg (by omega)]
          refine ⟨.slice (some (if n = l.toNat then ⟨sl.b, sl.s + i, none⟩ else ⟨sl.b, sl.s + i + l.toNat * sz, none⟩)) (r - l).toNat (n - l.toNat), ?_, ?_⟩
          · simp only [Instr.sliceAt, Sem.run_bind, run_und hu, Result.andThen_ok, Instr.sureAddr, Sem.run_pure]
            rw [run_bounds2 hl hh hlo hhi h0 h1 h2]
            simp only [Result.andThen_ok, run_size hsz, addr_add]
            rw [show r.toNat - l.toNat = (r - l).toNat by omega]
          · by_cases hcl : n = l.toNat
            · rw [if_pos hcl]
              exact .slice hb hm (by omega) (by omega) (by omega) (.inr ⟨by omega, by omega⟩) (.inl (by omega))
            · rw [if_neg hcl]
              exact .slice hb hm (by omega) (by omega) (by omega) (.inl (by omega)) (.inl (by omega))
        · cases hv
      · cases hv
    · cases hv
  · cases hv

theorem bytes_ints : ∀ {l : List Value} {bs : List UInt8}, bytesOf l = some bs → ∃ ns : List Int, l = ns.map (Value.int .u8) ∧ ∀ s : ByteArray, ns.foldl (fun r n => r.push (UInt8.ofNat n.toNat)) s = ⟨s.data ++ bs.toArray⟩
  | [], bs, h => by simp only [bytesOf, Option.some.injEq] at h; subst h; exact ⟨[], rfl, fun s => by simp⟩
  | v :: l, bs, h => by
    unfold bytesOf at h
    split at h
    · next e => cases e
    · next n r e =>
      simp only [List.cons.injEq] at e
      obtain ⟨rfl, rfl⟩ := e
      split at h
      · obtain ⟨bs', hb, rfl⟩ := Option.map_eq_some_iff.1 h
        obtain ⟨ns, rfl, hf⟩ := bytes_ints hb
        refine ⟨n :: ns, rfl, fun s => ?_⟩
        rw [List.foldl_cons, hf]
        apply ba_ext
        simp [ByteArray.push]
      · cases h
    · cases h

theorem LRel.ints {k : IntKind} {ns : List Int} {l' : List Value} (h : LRel β (ns.map (Value.int k)) l') : l' = ns.map (Value.int k) := by
  apply List.ext_getElem?
  intro i
  by_cases hi : i < ns.length
  · have h1 : (ns.map (Value.int k))[i]? = some (.int k ns[i]) := by simp [hi]
    obtain ⟨v', h2, h3⟩ := h.get h1
    rw [h1, h2, h3.inv_int]
  · have h1 : (ns.map (Value.int k)).length ≤ i := by simp; omega
    rw [List.getElem?_eq_none h1, List.getElem?_eq_none (h.1 ▸ h1)]

theorem readBytes_sim {h : Heap} {w : World} (hs : Sim β h w) {k i n : Nat} {cs : List Value} {t : TypeId} {sz : Nat} {wr : Bool} {sl : Slot} (hk : h.get k = some (.cells cs t sz wr)) (hb : β k = some sl)
    (hl : ((cs.drop i).take n).length = n) {bs : List UInt8} (hbs : bytesOf ((cs.drop i).take n) = some bs) :
    ∃ ns : List Int, (cs.drop i).take n = ns.map (Value.int .u8) ∧ (loadCells ⟨sl.b, sl.s + i, none⟩ n).run P w = .ok (ns.map (Value.int .u8)).toArray w ∧ (∀ s : ByteArray, ns.foldl (fun r n => r.push (UInt8.ofNat n.toNat)) s = ⟨s.data ++ bs.toArray⟩) ∧
      (∀ j u, (ns.map (Value.int .u8))[j]? = some u → w.cell? ((⟨sl.b, sl.s + i, none⟩ : Addr).add j) = some u) := by
  obtain ⟨ns, hns, hf⟩ := bytes_ints hbs
  obtain ⟨_, _, _, cs', fr, hw, hn, hc, _⟩ := hs.row hk hb
  obtain ⟨l', hr, hrel⟩ := run_cells (P := P) hw hc i n hl
  rw [hns] at hrel
  rw [hrel.ints] at hr
  refine ⟨ns, hns, hr, hf, fun j u hu => ?_⟩
  have hj : ((cs.drop i).take n)[j]? = some u := by rw [hns]; exact hu
  rw [List.getElem?_take, List.getElem?_drop] at hj
  split at hj
  · obtain ⟨u', h1, h2⟩ := hc _ _ hj
    rw [addr_add, cell_of hw, show sl.s + i + j = sl.s + (i + j) by omega, h1]
    simp only [List.getElem?_map, Option.map_eq_some_iff] at hu
    obtain ⟨m, _, rfl⟩ := hu
    rw [h2.inv_int]
  · cases hj

theorem bytesToString_sim {h : Heap} {w : World} (hs : Sim β h w) {k i n c : Nat} {cs : List Value} {t : TypeId} {sz : Nat} {wr : Bool} (hk : h.get k = some (.cells cs t sz wr))
    (hl : ((cs.drop i).take n).length = n) {bs : List UInt8} (hbs : bytesOf ((cs.drop i).take n) = some bs) {x' : Value} (hx : VRel β (.slice (some ⟨k, i, none⟩) n c) x') :
    (Conv.bytesToString x').run P w = .ok (strOf bs) w := by
  obtain ⟨sl, i', c', hb, hm, _, rfl, hx1, ho1, hn1, hi1, hz1⟩ := hx.inv_slice
  by_cases h0 : n = 0
  · subst h0
    have : bs = [] := by simp [bytesOf] at hbs; exact hbs
    subst this
    simp [Conv.bytesToString, loadCells, loadCellsFrom, strOf]
    rfl
  · have hi2 : i' = sl.s + i := by rcases hi1 with h1 | ⟨h1, h2⟩; exact h1; exact absurd h1 h0
    subst hi2
    obtain ⟨ns, hns, hr, hf, hcell⟩ := readBytes_sim (P := P) hs hk hb hl hbs
    rw [run_bytesToString (P := P) w ⟨sl.b, sl.s + i, none⟩ n c' ns hr, hf]
    congr 2
    apply ba_ext
    simp [ByteArray.empty, ByteArray.emptyWithCapacity]
    rfl

end Go.Ab
