/- What the fast evaluator answers, the evaluator answers: the operations. -/
import Derived.Test.YtcngigfjdlgfbaaGreatDoorAbFast
import Derived.Test.YtcngigfjdlgfbaaGreatDoorAbDraw4
namespace Go.Ab
open Go
variable {α : Type}

/-- x is nothing, or what K makes of the run's answer. -/
def Ref (bad x : Bool) (run : Option α) (K : α → Bool) : Prop := x = bad ∨ ∃ r, run = some r ∧ x = K r
theorem Ref.bad {b : Bool} {run : Option α} {K : α → Bool} : Ref b b run K := .inl rfl
theorem Ref.of {b x : Bool} {run : Option α} {K : α → Bool} {r : α} (h : run = some r) (hx : x = K r) : Ref b x run K := .inr ⟨r, h, hx⟩

theorem fNat_eq (n : Nat) (c : Nat → Bool) : fNat n c = c n := by cases n <;> rfl
theorem fInt_eq (n : Int) (c : Int → Bool) : fInt n c = c n := by
  cases n with
  | ofNat n => exact fNat_eq n fun n => c (.ofNat n)
  | negSucc n => exact fNat_eq n fun n => c (.negSucc n)
theorem fAddr_eq (a : Option Addr) (K : Option Addr → Bool) : fAddr a K = K a := by
  rcases a with _ | ⟨b, o, s⟩
  · rfl
  · show fNat b (fun b => fNat o fun o => K (some ⟨b, o, s⟩)) = _
    rw [fNat_eq, fNat_eq]
theorem fVal_eq (v : Value) (K : Value → Bool) : fVal v K = K v := by
  cases v with
  | int k n => exact fInt_eq n fun n => K (.int k n)
  | pointer a => exact fAddr_eq a fun a => K (.pointer a)
  | slice a n c =>
    show fAddr a (fun a => fNat n fun n => fNat c fun c => K (.slice a n c)) = _
    rw [fAddr_eq, fNat_eq, fNat_eq]
  | _ => rfl
theorem bnd_ref {β : Type} {bad : Bool} {x : Option α} {K : α → Bool} {run : Option β} {K' : β → Bool} (h : ∀ a, x = some a → Ref bad (K a) run K') : Ref bad (bnd bad x K) run K' := by
  cases x with
  | none => exact .bad
  | some a => exact h a rfl
theorem cnd_ref {β : Type} {bad x y : Bool} {b : Bool} {run : Option β} {K' : β → Bool} (h1 : b = true → Ref bad x run K') (h2 : b = false → Ref bad y run K') : Ref bad (cnd b x y) run K' := by
  cases b with
  | true => exact h1 rfl
  | false => exact h2 rfl
theorem fSpine_eq (l : List Value) : ∀ (K : List Value → Bool), fSpine l K = K l := by
  induction l with
  | nil => intro K; rfl
  | cons a l ih => intro K; exact ih fun r => K (a :: r)
theorem nth_eq : ∀ (l : List α) (i : Nat), nth l i = l[i]?
  | [], _ => rfl
  | _ :: _, 0 => rfl
  | _ :: l, i + 1 => nth_eq l i
theorem setNth_eq (v : Value) (bad : Bool) : ∀ (l : List Value) (i : Nat) (K : List Value → Bool), setNth v bad l i K = if i < l.length then K (l.set i v) else bad
  | [], i, K => by simp [setNth]
  | a :: l, 0, K => by show K (v :: l) = _; simp
  | a :: l, i + 1, K => by
    show setNth v bad l i (fun r => K (a :: r)) = _
    rw [setNth_eq v bad l i]
    simp
theorem HT.setK_eq (b : Option Blk) : ∀ (p : Pth) (t : HT) (K : HT → Bool), HT.setK b p t K = K (HT.set b p t)
  | .e, .nil, _ => rfl
  | .e, .node .., _ => rfl
  | .l p, .nil, K => HT.setK_eq b p .nil fun l => K (.node none l .nil)
  | .l p, .node v l r, K => HT.setK_eq b p l fun l => K (.node v l r)
  | .r p, .nil, K => HT.setK_eq b p .nil fun r => K (.node none .nil r)
  | .r p, .node v l r, K => HT.setK_eq b p r fun r => K (.node v l r)
theorem fBlk_eq (b : Blk) (K : Blk → Bool) : fBlk b K = K b := by
  cases b with
  | cells cs t sz wr => exact fSpine_eq cs fun cs => K (.cells cs t sz wr)
  | map es => rfl
  | loop => rfl
theorem appF_eq (u : Upd) (h : Heap) (K : Heap → Bool) : appF u h K = K (u.app h) := by
  cases u with
  | no => rfl
  | set k b => show upSet k b h K = _; unfold upSet; rw [fBlk_eq, HT.setK_eq]; rfl
  | push b => show upPush b h K = _; unfold upPush; rw [fBlk_eq, HT.setK_eq, fNat_eq]; rfl
  | move k b => show upMove k b h K = _; unfold upMove; rw [fBlk_eq, HT.setK_eq, HT.setK_eq, fNat_eq]; rfl
  | all h' => rfl

theorem wrap_id {k : IntKind} {m : Nat} (h : m < lim k) : k.wrap (m : Int) = m := by
  have key : ∀ (s : Bool) (b : Nat), (m : Int) < 2 ^ b → (s = true → (m : Int) < 2 ^ (b - 1)) → (if s && decide ((m : Int) % 2 ^ b ≥ 2 ^ (b - 1)) then (m : Int) % 2 ^ b - 2 ^ b else (m : Int) % 2 ^ b) = m := by
    intro s b h1 h2
    have hm : (m : Int) % 2 ^ b = m := Int.emod_eq_of_lt (by omega) h1
    rw [hm]
    cases s with
    | false => rfl
    | true =>
      have := h2 rfl
      rw [if_neg]
      simp only [Bool.true_and, ge_iff_le, decide_eq_true_eq]
      omega
  unfold IntKind.wrap
  cases k <;> exact key _ _ (by simp only [lim, IntKind.bits] at h ⊢; omega) (by simp only [lim, IntKind.bits, IntKind.signed] at h ⊢; first | (intro hh; omega) | (intro hh; cases hh))
theorem wrapF_eq (k : IntKind) (n : Int) (K : Int → Bool) : wrapF k n K = K (k.wrap n) := by
  cases n with
  | ofNat m =>
    show cnd (Nat.blt m (lim k)) (fNat m fun m => K (.ofNat m)) (fInt (k.wrap (.ofNat m)) K) = _
    cases hb : Nat.blt m (lim k) with
    | true =>
      have hlt : m < lim k := by simpa [Nat.blt_eq] using hb
      show fNat m (fun m => K (.ofNat m)) = _
      rw [fNat_eq]
      exact congrArg K (wrap_id hlt).symm
    | false => exact fInt_eq _ K
  | negSucc m => exact fInt_eq _ K
theorem intLt_eq (a b : Int) : intLt a b = decide (a < b) := by
  cases a with
  | ofNat m => cases b with
    | ofNat n => show Nat.blt m n = _; rw [Bool.eq_iff_iff]; simp [Nat.blt_eq]
    | negSucc n => show false = _; rw [Bool.eq_iff_iff]; simp; omega
  | negSucc m => cases b with
    | ofNat n => show true = _; rw [Bool.eq_iff_iff]; simp; omega
    | negSucc n => show Nat.blt n m = _; rw [Bool.eq_iff_iff]; simp [Nat.blt_eq]; omega
theorem intEq_eq (a b : Int) : intEq a b = (a == b) := by
  cases a with
  | ofNat m => cases b with
    | ofNat n => show Nat.beq m n = _; rw [Bool.eq_iff_iff]; simp [Nat.beq_eq]; omega
    | negSucc n => show false = _; rw [Bool.eq_iff_iff]; simp
  | negSucc m => cases b with
    | ofNat n => show false = _; rw [Bool.eq_iff_iff]; simp
    | negSucc n => show Nat.beq n m = _; rw [Bool.eq_iff_iff]; simp [Nat.beq_eq]; omega
end Go.Ab
