/- Sixteen of a kind, and the temporaries of a function as sixteen rows of sixteen: printed by mkenv.py. -/
import Derived.Test.YtoabjjimjldcfaaGreatDoorAbEval
namespace Go.Ab
noncomputable section
/-- Sixteen of a kind. -/
structure N16 (α : Type) where
  c0 : α
  c1 : α
  c2 : α
  c3 : α
  c4 : α
  c5 : α
  c6 : α
  c7 : α
  c8 : α
  c9 : α
  c10 : α
  c11 : α
  c12 : α
  c13 : α
  c14 : α
  c15 : α
/-- Which of sixteen; x: none. -/
inductive D16 where
  | d0 | d1 | d2 | d3 | d4 | d5 | d6 | d7 | d8 | d9 | d10 | d11 | d12 | d13 | d14 | d15 | x
  deriving DecidableEq
section
variable {α R : Type}
def N16.g0 (t : N16 α) : α := N16.rec (motive := fun _ => α) (fun c0 _ _ _ _ _ _ _ _ _ _ _ _ _ _ _ => c0) t
def N16.g1 (t : N16 α) : α := N16.rec (motive := fun _ => α) (fun _ c1 _ _ _ _ _ _ _ _ _ _ _ _ _ _ => c1) t
def N16.g2 (t : N16 α) : α := N16.rec (motive := fun _ => α) (fun _ _ c2 _ _ _ _ _ _ _ _ _ _ _ _ _ => c2) t
def N16.g3 (t : N16 α) : α := N16.rec (motive := fun _ => α) (fun _ _ _ c3 _ _ _ _ _ _ _ _ _ _ _ _ => c3) t
def N16.g4 (t : N16 α) : α := N16.rec (motive := fun _ => α) (fun _ _ _ _ c4 _ _ _ _ _ _ _ _ _ _ _ => c4) t
def N16.g5 (t : N16 α) : α := N16.rec (motive := fun _ => α) (fun _ _ _ _ _ c5 _ _ _ _ _ _ _ _ _ _ => c5) t
def N16.g6 (t : N16 α) : α := N16.rec (motive := fun _ => α) (fun _ _ _ _ _ _ c6 _ _ _ _ _ _ _ _ _ => c6) t
def N16.g7 (t : N16 α) : α := N16.rec (motive := fun _ => α) (fun _ _ _ _ _ _ _ c7 _ _ _ _ _ _ _ _ => c7) t
def N16.g8 (t : N16 α) : α := N16.rec (motive := fun _ => α) (fun _ _ _ _ _ _ _ _ c8 _ _ _ _ _ _ _ => c8) t
def N16.g9 (t : N16 α) : α := N16.rec (motive := fun _ => α) (fun _ _ _ _ _ _ _ _ _ c9 _ _ _ _ _ _ => c9) t
def N16.g10 (t : N16 α) : α := N16.rec (motive := fun _ => α) (fun _ _ _ _ _ _ _ _ _ _ c10 _ _ _ _ _ => c10) t
def N16.g11 (t : N16 α) : α := N16.rec (motive := fun _ => α) (fun _ _ _ _ _ _ _ _ _ _ _ c11 _ _ _ _ => c11) t
def N16.g12 (t : N16 α) : α := N16.rec (motive := fun _ => α) (fun _ _ _ _ _ _ _ _ _ _ _ _ c12 _ _ _ => c12) t
def N16.g13 (t : N16 α) : α := N16.rec (motive := fun _ => α) (fun _ _ _ _ _ _ _ _ _ _ _ _ _ c13 _ _ => c13) t
def N16.g14 (t : N16 α) : α := N16.rec (motive := fun _ => α) (fun _ _ _ _ _ _ _ _ _ _ _ _ _ _ c14 _ => c14) t
def N16.g15 (t : N16 α) : α := N16.rec (motive := fun _ => α) (fun _ _ _ _ _ _ _ _ _ _ _ _ _ _ _ c15 => c15) t
def N16.s0 (t : N16 α) (x : α) (K : N16 α → R) : R := N16.rec (motive := fun _ => R) (fun _ c1 c2 c3 c4 c5 c6 c7 c8 c9 c10 c11 c12 c13 c14 c15 => K (N16.mk x c1 c2 c3 c4 c5 c6 c7 c8 c9 c10 c11 c12 c13 c14 c15)) t
def N16.s1 (t : N16 α) (x : α) (K : N16 α → R) : R := N16.rec (motive := fun _ => R) (fun c0 _ c2 c3 c4 c5 c6 c7 c8 c9 c10 c11 c12 c13 c14 c15 => K (N16.mk c0 x c2 c3 c4 c5 c6 c7 c8 c9 c10 c11 c12 c13 c14 c15)) t
def N16.s2 (t : N16 α) (x : α) (K : N16 α → R) : R := N16.rec (motive := fun _ => R) (fun c0 c1 _ c3 c4 c5 c6 c7 c8 c9 c10 c11 c12 c13 c14 c15 => K (N16.mk c0 c1 x c3 c4 c5 c6 c7 c8 c9 c10 c11 c12 c13 c14 c15)) t
def N16.s3 (t : N16 α) (x : α) (K : N16 α → R) : R := N16.rec (motive := fun _ => R) (fun c0 c1 c2 _ c4 c5 c6 c7 c8 c9 c10 c11 c12 c13 c14 c15 => K (N16.mk c0 c1 c2 x c4 c5 c6 c7 c8 c9 c10 c11 c12 c13 c14 c15)) t
def N16.s4 (t : N16 α) (x : α) (K : N16 α → R) : R := N16.rec (motive := fun _ => R) (fun c0 c1 c2 c3 _ c5 c6 c7 c8 c9 c10 c11 c12 c13 c14 c15 => K (N16.mk c0 c1 c2 c3 x c5 c6 c7 c8 c9 c10 c11 c12 c13 c14 c15)) t
def N16.s5 (t : N16 α) (x : α) (K : N16 α → R) : R := N16.rec (motive := fun _ => R) (fun c0 c1 c2 c3 c4 _ c6 c7 c8 c9 c10 c11 c12 c13 c14 c15 => K (N16.mk c0 c1 c2 c3 c4 x c6 c7 c8 c9 c10 c11 c12 c13 c14 c15)) t
def N16.s6 (t : N16 α) (x : α) (K : N16 α → R) : R := N16.rec (motive := fun _ => R) (fun c0 c1 c2 c3 c4 c5 _ c7 c8 c9 c10 c11 c12 c13 c14 c15 => K (N16.mk c0 c1 c2 c3 c4 c5 x c7 c8 c9 c10 c11 c12 c13 c14 c15)) t
def N16.s7 (t : N16 α) (x : α) (K : N16 α → R) : R := N16.rec (motive := fun _ => R) (fun c0 c1 c2 c3 c4 c5 c6 _ c8 c9 c10 c11 c12 c13 c14 c15 => K (N16.mk c0 c1 c2 c3 c4 c5 c6 x c8 c9 c10 c11 c12 c13 c14 c15)) t
def N16.s8 (t : N16 α) (x : α) (K : N16 α → R) : R := N16.rec (motive := fun _ => R) (fun c0 c1 c2 c3 c4 c5 c6 c7 _ c9 c10 c11 c12 c13 c14 c15 => K (N16.mk c0 c1 c2 c3 c4 c5 c6 c7 x c9 c10 c11 c12 c13 c14 c15)) t
def N16.s9 (t : N16 α) (x : α) (K : N16 α → R) : R := N16.rec (motive := fun _ => R) (fun c0 c1 c2 c3 c4 c5 c6 c7 c8 _ c10 c11 c12 c13 c14 c15 => K (N16.mk c0 c1 c2 c3 c4 c5 c6 c7 c8 x c10 c11 c12 c13 c14 c15)) t
def N16.s10 (t : N16 α) (x : α) (K : N16 α → R) : R := N16.rec (motive := fun _ => R) (fun c0 c1 c2 c3 c4 c5 c6 c7 c8 c9 _ c11 c12 c13 c14 c15 => K (N16.mk c0 c1 c2 c3 c4 c5 c6 c7 c8 c9 x c11 c12 c13 c14 c15)) t
def N16.s11 (t : N16 α) (x : α) (K : N16 α → R) : R := N16.rec (motive := fun _ => R) (fun c0 c1 c2 c3 c4 c5 c6 c7 c8 c9 c10 _ c12 c13 c14 c15 => K (N16.mk c0 c1 c2 c3 c4 c5 c6 c7 c8 c9 c10 x c12 c13 c14 c15)) t
def N16.s12 (t : N16 α) (x : α) (K : N16 α → R) : R := N16.rec (motive := fun _ => R) (fun c0 c1 c2 c3 c4 c5 c6 c7 c8 c9 c10 c11 _ c13 c14 c15 => K (N16.mk c0 c1 c2 c3 c4 c5 c6 c7 c8 c9 c10 c11 x c13 c14 c15)) t
def N16.s13 (t : N16 α) (x : α) (K : N16 α → R) : R := N16.rec (motive := fun _ => R) (fun c0 c1 c2 c3 c4 c5 c6 c7 c8 c9 c10 c11 c12 _ c14 c15 => K (N16.mk c0 c1 c2 c3 c4 c5 c6 c7 c8 c9 c10 c11 c12 x c14 c15)) t
def N16.s14 (t : N16 α) (x : α) (K : N16 α → R) : R := N16.rec (motive := fun _ => R) (fun c0 c1 c2 c3 c4 c5 c6 c7 c8 c9 c10 c11 c12 c13 _ c15 => K (N16.mk c0 c1 c2 c3 c4 c5 c6 c7 c8 c9 c10 c11 c12 c13 x c15)) t
def N16.s15 (t : N16 α) (x : α) (K : N16 α → R) : R := N16.rec (motive := fun _ => R) (fun c0 c1 c2 c3 c4 c5 c6 c7 c8 c9 c10 c11 c12 c13 c14 _ => K (N16.mk c0 c1 c2 c3 c4 c5 c6 c7 c8 c9 c10 c11 c12 c13 c14 x)) t
def N16.sx (t : N16 α) (_ : α) (K : N16 α → R) : R := K t
def N16.gx (d0 : α) (_ : N16 α) : α := d0
def N16.get (d0 : α) (d : D16) : N16 α → α := D16.rec (motive := fun _ => N16 α → α) N16.g0 N16.g1 N16.g2 N16.g3 N16.g4 N16.g5 N16.g6 N16.g7 N16.g8 N16.g9 N16.g10 N16.g11 N16.g12 N16.g13 N16.g14 N16.g15 (N16.gx d0) d
def N16.set (d : D16) : N16 α → α → (N16 α → R) → R := D16.rec (motive := fun _ => N16 α → α → (N16 α → R) → R) N16.s0 N16.s1 N16.s2 N16.s3 N16.s4 N16.s5 N16.s6 N16.s7 N16.s8 N16.s9 N16.s10 N16.s11 N16.s12 N16.s13 N16.s14 N16.s15 N16.sx d
theorem N16.set_eq (d : D16) (t : N16 α) (x : α) (K : N16 α → R) : N16.set d t x K = K (N16.set d t x id) := by cases d <;> rfl
theorem N16.get_set (d0 : α) (d e : D16) (t : N16 α) (x : α) (hd : d ≠ .x) : N16.get d0 e (N16.set d t x id) = if e = d then x else N16.get d0 e t := by
  cases d <;> first | exact absurd rfl hd | (cases e <;> rfl)
end
def dig (n : Nat) : D16 := Nat.rec (motive := fun _ => D16) .d0 (fun n0 _ => Nat.rec (motive := fun _ => D16) .d1 (fun n1 _ => Nat.rec (motive := fun _ => D16) .d2 (fun n2 _ => Nat.rec (motive := fun _ => D16) .d3 (fun n3 _ => Nat.rec (motive := fun _ => D16) .d4 (fun n4 _ => Nat.rec (motive := fun _ => D16) .d5 (fun n5 _ => Nat.rec (motive := fun _ => D16) .d6 (fun n6 _ => Nat.rec (motive := fun _ => D16) .d7 (fun n7 _ => Nat.rec (motive := fun _ => D16) .d8 (fun n8 _ => Nat.rec (motive := fun _ => D16) .d9 (fun n9 _ => Nat.rec (motive := fun _ => D16) .d10 (fun n10 _ => Nat.rec (motive := fun _ => D16) .d11 (fun n11 _ => Nat.rec (motive := fun _ => D16) .d12 (fun n12 _ => Nat.rec (motive := fun _ => D16) .d13 (fun n13 _ => Nat.rec (motive := fun _ => D16) .d14 (fun n14 _ => Nat.rec (motive := fun _ => D16) .d15 (fun _ _ => .x) n14) n13) n12) n11) n10) n9) n8) n7) n6) n5) n4) n3) n2) n1) n0) n
def D16.num : D16 → Nat
  | .d0 => 0
  | .d1 => 1
  | .d2 => 2
  | .d3 => 3
  | .d4 => 4
  | .d5 => 5
  | .d6 => 6
  | .d7 => 7
  | .d8 => 8
  | .d9 => 9
  | .d10 => 10
  | .d11 => 11
  | .d12 => 12
  | .d13 => 13
  | .d14 => 14
  | .d15 => 15
  | .x => 16
theorem num_dig : ∀ n, (dig n).num = min n 16
  | 0 => rfl
  | 1 => rfl
  | 2 => rfl
  | 3 => rfl
  | 4 => rfl
  | 5 => rfl
  | 6 => rfl
  | 7 => rfl
  | 8 => rfl
  | 9 => rfl
  | 10 => rfl
  | 11 => rfl
  | 12 => rfl
  | 13 => rfl
  | 14 => rfl
  | 15 => rfl
  | n + 16 => by show 16 = min (n + 16) 16; omega
theorem dig_eq {a b : Nat} (ha : a < 16) (h : dig b = dig a) : b = a := by
  have h1 := num_dig a
  have h2 := num_dig b
  rw [h] at h2
  omega
theorem dig_x {a : Nat} (ha : a < 16) : dig a ≠ .x := fun h => by
  have := num_dig a
  rw [h] at this
  simp only [D16.num] at this
  omega
theorem dig_x' {a : Nat} (ha : 16 ≤ a) : dig a = .x := by
  have := num_dig a
  cases h : dig a <;> rw [h] at this <;> simp only [D16.num] at this <;> omega

/-- A function's temporaries. -/
abbrev Env := N16 (N16 Value)
def row0 : N16 Value := N16.mk undef undef undef undef undef undef undef undef undef undef undef undef undef undef undef undef
def env0 : Env := N16.mk row0 row0 row0 row0 row0 row0 row0 row0 row0 row0 row0 row0 row0 row0 row0 row0
def Env.get (t : Nat) (e : Env) : Value := N16.get undef (dig (t % 16)) (N16.get row0 (dig (t / 16)) e)
def Env.put {R : Type} (t : Nat) (e : Env) (v : Value) (K : Env → R) : R := N16.set (dig (t % 16)) (N16.get row0 (dig (t / 16)) e) v fun r => N16.set (dig (t / 16)) e r K
theorem Env.put_eq {R : Type} (t : Nat) (e : Env) (v : Value) (K : Env → R) : Env.put t e v K = K (Env.put t e v id) := by
  unfold Env.put
  rw [N16.set_eq, N16.set_eq (R := R), N16.set_eq (R := Env) (dig (t % 16))]
theorem row0_get (d : D16) : N16.get undef d row0 = undef := by cases d <;> rfl
theorem env0_get (t : Nat) : Env.get t env0 = undef := by
  unfold Env.get
  have : N16.get row0 (dig (t / 16)) env0 = row0 := by cases dig (t / 16) <;> rfl
  rw [this, row0_get]
theorem Env.get_put {t u : Nat} {e : Env} {v : Value} (ht : t < 256) : Env.get u (Env.put t e v id) = if u = t then v else Env.get u e := by
  have h1 : t / 16 < 16 := by omega
  have h2 : t % 16 < 16 := Nat.mod_lt _ (by omega)
  unfold Env.get Env.put
  rw [N16.set_eq]
  rw [N16.get_set row0 _ _ _ _ (dig_x h1)]
  by_cases hq : dig (u / 16) = dig (t / 16)
  · have hq' := dig_eq h1 hq
    rw [if_pos hq, N16.get_set undef _ _ _ _ (dig_x h2)]
    by_cases hr : dig (u % 16) = dig (t % 16)
    · have hr' := dig_eq h2 hr
      rw [if_pos hr, if_pos (by omega)]
    · rw [if_neg hr, if_neg (fun h => hr (by rw [h])), hq]
  · rw [if_neg hq, if_neg (fun h => hq (by rw [h]))]
end
end Go.Ab
