/- The evaluator of small memories: a part (AbEff3). -/
import Derived.Test.YtcngigfjdlgfbaaGreatDoorAbEff2
import Derived.Lib.UnsafeStr
import Derived.Lib.Builder
namespace Go.Ab
open Go
variable {β : Inj} {P : Program}

theorem liesAt_row {e : TypeId} {s : Nat} (hc : P.cellsOf e = s) (hs : 0 < s) (count off n : Nat) (hr : off % s = 0) (hn : off / s + n ≤ count) : liesAt P P.depth e count off e n = true := by
  have hd : P.depth = (2 * (P.types.size + Made.depth) + 1) + 1 := rfl
  rw [hd]
  simp only [liesAt, Bool.or_eq_true]
  left
  rw [hd]
  have : s ≠ 0 := by omega
  simp [rowAt, hc, hr, hn, sameLayout, this]

theorem cellsOf_of {e : TypeId} {n : Nat} (h : sizeOf? P e = some n) : P.cellsOf e = n := by
  obtain ⟨i, hi, rfl⟩ := sizeOf?_some h
  simp [Program.cellsOf, hi]

theorem At.freeze (w : World) (a : Addr) (n : Nat) : At w (w.freeze a n) a.block :=
  ⟨freeze_size w a n, (freeze_rest w a n).1, (freeze_rest w a n).2.1, (freeze_rest w a n).2.2, fun b hb => by
    by_cases hn : n = 0
    · subst hn; rfl
    · rw [freeze_heap w a hn, if_neg (Ne.symm hb)]⟩

theorem bytes_of_ints : ∀ {l : List Value} {bs : List UInt8}, bytesOf l = some bs → l = bs.map fun b => Value.int .u8 b.toNat
  | [], bs, h => by simp only [bytesOf, Option.some.injEq] at h; subst h; rfl
  | v :: l, bs, h => by
    unfold bytesOf at h
    split at h
    · next e => cases e
    · next n r e =>
      simp only [List.cons.injEq] at e
      obtain ⟨rfl, rfl⟩ := e
      split at h
      · next hr =>
        obtain ⟨bs', hb, rfl⟩ := Option.map_eq_some_iff.1 h
        rw [List.map_cons, ← bytes_of_ints hb]
        congr 2
        have : (UInt8.ofNat n.toNat).toNat = n.toNat := by
          simp [UInt8.toNat_ofNat']; omega
        omega
      · cases h
    · cases h

set_option maxHeartbeats 1000000 in
theorem unsafeString_sim {h : Heap} {w : World} (hs : Sim β h w) {k i : Nat} {n : Int} {kk : IntKind} {pt e : TypeId} {cs : List Value} {l : List UInt8} {p' : Value} {ats : Array TypeId} {ty : TypeId} (hk : h.get k = some (.cells cs e 1 true)) (hpt : ats[0]? = some pt)
    (hu : P.underlying pt = some (.pointer e)) (hsz : sizeOf? P e = some 1) (hn : 0 < n) (hmx : n < 9223372036854775807) (hl : ((cs.drop i).take n.toNat).length = n.toNat) (hb : bytesOf ((cs.drop i).take n.toNat) = some l) (hp : VRel β (.pointer (some ⟨k, i, none⟩)) p') :
    ∃ w', (Builtin.unsafeString_ ats ty #[p', .int kk n]).run P w = .ok (strOf l) w' ∧ Step β h w β (h.set k (.cells cs e 1 false)) w' := by
  obtain ⟨sl, hbk, hm, rfl⟩ := hp.inv_ptr
  obtain ⟨hm', ht, hz, cs', fr, hw, hnn, hcells, hfr⟩ := hs.blk _ _ _ hk hbk
  refine ⟨w.freeze ⟨sl.b, sl.s + i, none⟩ n.toNat, ?_, Step.at_ hs hk hbk rfl (At.freeze w _ _) ?_⟩
  · have hlen : l.length = n.toNat := by
      have := congrArg List.length (bytes_of_ints hb)
      rw [hl] at this; simpa using this.symm
    have hbound : sl.s + i + n.toNat ≤ cs'.size := by
      have hlt : i + n.toNat - 1 < cs.length := by simp only [List.length_take, List.length_drop] at hl; omega
      obtain ⟨v', h1, _⟩ := hcells _ _ (List.getElem?_eq_getElem hlt)
      have := (Array.getElem?_eq_some_iff.1 h1).1
      omega
    have hsh : w.shape? sl.b = some (e, cs'.size) := by simp [World.shape?, hw]
    have hco := cellsOf_of hsz
    have hlies : liesAt P P.depth e (cs'.size / P.cellsOf e) (sl.s + i) e n.toNat = true := liesAt_row hco (by omega) _ _ _ (by omega) (by rw [hco]; simp; exact hbound)
    have hld : (loadBytes ⟨sl.b, sl.s + i, none⟩ .empty n.toNat).run P w = .ok (⟨l.toArray⟩ : ByteArray) w := by
      rw [← hlen]
      rw [Lib.run_loadBytes (P := P) w l ⟨sl.b, sl.s + i, none⟩ .empty]
      · congr 1
        apply ba_ext
        simp [ByteArray.empty, ByteArray.emptyWithCapacity]
        rfl
      · intro j x hj
        have hjv : ((cs.drop i).take n.toNat)[j]? = some (.int .u8 x.toNat) := by rw [bytes_of_ints hb]; simp [hj]
        rw [List.getElem?_take, List.getElem?_drop] at hjv
        split at hjv
        · obtain ⟨v', h1, h2⟩ := hcells _ _ hjv
          rw [addr_add, cell_of hw, show sl.s + i + j = sl.s + (i + j) by omega, h1, h2.inv_int]
        · cases hjv
    have hmax : IntKind.i64.max = 9223372036854775807 := by decide
    have hdef : Builtin.unsafeString_ ats ty #[.pointer (some ⟨sl.b, sl.s + i, none⟩), .int kk n] =
        (do
          let n ← asInt (.int kk n)
          let some pt := ats[0]? | stuck "unsafe.String: no argument types"
          if n < 0 then runtimePanic (.error "unsafe.String: len out of range")
          if n > IntKind.i64.max then unsupported (.unsafePointer "String: a length above the largest int")
          if n = 0 then pure (.string .empty)
          else if ← variablesAt ⟨sl.b, sl.s + i, none⟩ (← elemOf pt) n.toNat then do
            let s ← loadBytes ⟨sl.b, sl.s + i, none⟩ .empty n.toNat
            freeze ⟨sl.b, sl.s + i, none⟩ n.toNat
            pure (.string s)
          else unsupported (.unsafePointer "String: not so many bytes at ptr")) := rfl
    rw [hdef]
    simp only [Sem.run_bind, asInt, asIntOf, Sem.run_pure, Result.andThen_ok, hpt, Sem.run_ite]
    rw [if_neg (by omega), if_neg (by omega), if_neg (by omega)]
    simp only [elemOf, Sem.run_bind, run_und hu, Sem.run_pure, Result.andThen_ok, variablesAt, run_program, run_shape, hsh, hlies, if_true, hld, run_freeze]
    rfl
  · have hfh : (w.freeze ⟨sl.b, sl.s + i, none⟩ n.toNat).heap[sl.b]? = some (frz ⟨sl.b, sl.s + i, none⟩ n.toNat (.cells cs' e fr)) := by
      rw [freeze_heap w _ (by omega)]; simp [hw]
    exact ⟨hm', ht, hz, cs', _, hfh, hnn, hcells, fun h => by cases h⟩
end Go.Ab
