/- The temporaries of a function as sixteen rows of sixteen, laid out for the kernel: printed by mkenv.py. -/
import Derived.Test.YtcngigfjdlgfbaaGreatDoorAbEval
namespace Go.Ab
noncomputable section
/-- Sixteen values. -/
structure Row where
  c0 : Value
  c1 : Value
  c2 : Value
  c3 : Value
  c4 : Value
  c5 : Value
  c6 : Value
  c7 : Value
  c8 : Value
  c9 : Value
  c10 : Value
  c11 : Value
  c12 : Value
  c13 : Value
  c14 : Value
  c15 : Value
/-- A function's temporaries. -/
structure Env where
  c0 : Row
  c1 : Row
  c2 : Row
  c3 : Row
  c4 : Row
  c5 : Row
  c6 : Row
  c7 : Row
  c8 : Row
  c9 : Row
  c10 : Row
  c11 : Row
  c12 : Row
  c13 : Row
  c14 : Row
  c15 : Row
/-- Which of sixteen; x: none. -/
inductive D16 where
  | d0 | d1 | d2 | d3 | d4 | d5 | d6 | d7 | d8 | d9 | d10 | d11 | d12 | d13 | d14 | d15 | x
  deriving DecidableEq
def row0 : Row := Row.mk undef undef undef undef undef undef undef undef undef undef undef undef undef undef undef undef
def env0 : Env := Env.mk row0 row0 row0 row0 row0 row0 row0 row0 row0 row0 row0 row0 row0 row0 row0 row0
def Row.g0 (t : Row) : Value := Row.rec (motive := fun _ => Value) (fun c0 _ _ _ _ _ _ _ _ _ _ _ _ _ _ _ => c0) t
def Row.g1 (t : Row) : Value := Row.rec (motive := fun _ => Value) (fun _ c1 _ _ _ _ _ _ _ _ _ _ _ _ _ _ => c1) t
def Row.g2 (t : Row) : Value := Row.rec (motive := fun _ => Value) (fun _ _ c2 _ _ _ _ _ _ _ _ _ _ _ _ _ => c2) t
def Row.g3 (t : Row) : Value := Row.rec (motive := fun _ => Value) (fun _ _ _ c3 _ _ _ _ _ _ _ _ _ _ _ _ => c3) t
def Row.g4 (t : Row) : Value := Row.rec (motive := fun _ => Value) (fun _ _ _ _ c4 _ _ _ _ _ _ _ _ _ _ _ => c4) t
def Row.g5 (t : Row) : Value := Row.rec (motive := fun _ => Value) (fun _ _ _ _ _ c5 _ _ _ _ _ _ _ _ _ _ => c5) t
def Row.g6 (t : Row) : Value := Row.rec (motive := fun _ => Value) (fun _ _ _ _ _ _ c6 _ _ _ _ _ _ _ _ _ => c6) t
def Row.g7 (t : Row) : Value := Row.rec (motive := fun _ => Value) (fun _ _ _ _ _ _ _ c7 _ _ _ _ _ _ _ _ => c7) t
def Row.g8 (t : Row) : Value := Row.rec (motive := fun _ => Value) (fun _ _ _ _ _ _ _ _ c8 _ _ _ _ _ _ _ => c8) t
def Row.g9 (t : Row) : Value := Row.rec (motive := fun _ => Value) (fun _ _ _ _ _ _ _ _ _ c9 _ _ _ _ _ _ => c9) t
def Row.g10 (t : Row) : Value := Row.rec (motive := fun _ => Value) (fun _ _ _ _ _ _ _ _ _ _ c10 _ _ _ _ _ => c10) t
def Row.g11 (t : Row) : Value := Row.rec (motive := fun _ => Value) (fun _ _ _ _ _ _ _ _ _ _ _ c11 _ _ _ _ => c11) t
def Row.g12 (t : Row) : Value := Row.rec (motive := fun _ => Value) (fun _ _ _ _ _ _ _ _ _ _ _ _ c12 _ _ _ => c12) t
def Row.g13 (t : Row) : Value := Row.rec (motive := fun _ => Value) (fun _ _ _ _ _ _ _ _ _ _ _ _ _ c13 _ _ => c13) t
def Row.g14 (t : Row) : Value := Row.rec (motive := fun _ => Value) (fun _ _ _ _ _ _ _ _ _ _ _ _ _ _ c14 _ => c14) t
def Row.g15 (t : Row) : Value := Row.rec (motive := fun _ => Value) (fun _ _ _ _ _ _ _ _ _ _ _ _ _ _ _ c15 => c15) t
def Row.s0 (t : Row) (x : Value) (K : Row → Bool) : Bool := Row.rec (motive := fun _ => Bool) (fun _ c1 c2 c3 c4 c5 c6 c7 c8 c9 c10 c11 c12 c13 c14 c15 => K (Row.mk x c1 c2 c3 c4 c5 c6 c7 c8 c9 c10 c11 c12 c13 c14 c15)) t
def Row.s1 (t : Row) (x : Value) (K : Row → Bool) : Bool := Row.rec (motive := fun _ => Bool) (fun c0 _ c2 c3 c4 c5 c6 c7 c8 c9 c10 c11 c12 c13 c14 c15 => K (Row.mk c0 x c2 c3 c4 c5 c6 c7 c8 c9 c10 c11 c12 c13 c14 c15)) t
def Row.s2 (t : Row) (x : Value) (K : Row → Bool) : Bool := Row.rec (motive := fun _ => Bool) (fun c0 c1 _ c3 c4 c5 c6 c7 c8 c9 c10 c11 c12 c13 c14 c15 => K (Row.mk c0 c1 x c3 c4 c5 c6 c7 c8 c9 c10 c11 c12 c13 c14 c15)) t
def Row.s3 (t : Row) (x : Value) (K : Row → Bool) : Bool := Row.rec (motive := fun _ => Bool) (fun c0 c1 c2 _ c4 c5 c6 c7 c8 c9 c10 c11 c12 c13 c14 c15 => K (Row.mk c0 c1 c2 x c4 c5 c6 c7 c8 c9 c10 c11 c12 c13 c14 c15)) t
def Row.s4 (t : Row) (x : Value) (K : Row → Bool) : Bool := Row.rec (motive := fun _ => Bool) (fun c0 c1 c2 c3 _ c5 c6 c7 c8 c9 c10 c11 c12 c13 c14 c15 => K (Row.mk c0 c1 c2 c3 x c5 c6 c7 c8 c9 c10 c11 c12 c13 c14 c15)) t
def Row.s5 (t : Row) (x : Value) (K : Row → Bool) : Bool := Row.rec (motive := fun _ => Bool) (fun c0 c1 c2 c3 c4 _ c6 c7 c8 c9 c10 c11 c12 c13 c14 c15 => K (Row.mk c0 c1 c2 c3 c4 x c6 c7 c8 c9 c10 c11 c12 c13 c14 c15)) t
def Row.s6 (t : Row) (x : Value) (K : Row → Bool) : Bool := Row.rec (motive := fun _ => Bool) (fun c0 c1 c2 c3 c4 c5 _ c7 c8 c9 c10 c11 c12 c13 c14 c15 => K (Row.mk c0 c1 c2 c3 c4 c5 x c7 c8 c9 c10 c11 c12 c13 c14 c15)) t
def Row.s7 (t : Row) (x : Value) (K : Row → Bool) : Bool := Row.rec (motive := fun _ => Bool) (fun c0 c1 c2 c3 c4 c5 c6 _ c8 c9 c10 c11 c12 c13 c14 c15 => K (Row.mk c0 c1 c2 c3 c4 c5 c6 x c8 c9 c10 c11 c12 c13 c14 c15)) t
def Row.s8 (t : Row) (x : Value) (K : Row → Bool) : Bool := Row.rec (motive := fun _ => Bool) (fun c0 c1 c2 c3 c4 c5 c6 c7 _ c9 c10 c11 c12 c13 c14 c15 => K (Row.mk c0 c1 c2 c3 c4 c5 c6 c7 x c9 c10 c11 c12 c13 c14 c15)) t
def Row.s9 (t : Row) (x : Value) (K : Row → Bool) : Bool := Row.rec (motive := fun _ => Bool) (fun c0 c1 c2 c3 c4 c5 c6 c7 c8 _ c10 c11 c12 c13 c14 c15 => K (Row.mk c0 c1 c2 c3 c4 c5 c6 c7 c8 x c10 c11 c12 c13 c14 c15)) t
def Row.s10 (t : Row) (x : Value) (K : Row → Bool) : Bool := Row.rec (motive := fun _ => Bool) (fun c0 c1 c2 c3 c4 c5 c6 c7 c8 c9 _ c11 c12 c13 c14 c15 => K (Row.mk c0 c1 c2 c3 c4 c5 c6 c7 c8 c9 x c11 c12 c13 c14 c15)) t
def Row.s11 (t : Row) (x : Value) (K : Row → Bool) : Bool := Row.rec (motive := fun _ => Bool) (fun c0 c1 c2 c3 c4 c5 c6 c7 c8 c9 c10 _ c12 c13 c14 c15 => K (Row.mk c0 c1 c2 c3 c4 c5 c6 c7 c8 c9 c10 x c12 c13 c14 c15)) t
def Row.s12 (t : Row) (x : Value) (K : Row → Bool) : Bool := Row.rec (motive := fun _ => Bool) (fun c0 c1 c2 c3 c4 c5 c6 c7 c8 c9 c10 c11 _ c13 c14 c15 => K (Row.mk c0 c1 c2 c3 c4 c5 c6 c7 c8 c9 c10 c11 x c13 c14 c15)) t
def Row.s13 (t : Row) (x : Value) (K : Row → Bool) : Bool := Row.rec (motive := fun _ => Bool) (fun c0 c1 c2 c3 c4 c5 c6 c7 c8 c9 c10 c11 c12 _ c14 c15 => K (Row.mk c0 c1 c2 c3 c4 c5 c6 c7 c8 c9 c10 c11 c12 x c14 c15)) t
def Row.s14 (t : Row) (x : Value) (K : Row → Bool) : Bool := Row.rec (motive := fun _ => Bool) (fun c0 c1 c2 c3 c4 c5 c6 c7 c8 c9 c10 c11 c12 c13 _ c15 => K (Row.mk c0 c1 c2 c3 c4 c5 c6 c7 c8 c9 c10 c11 c12 c13 x c15)) t
def Row.s15 (t : Row) (x : Value) (K : Row → Bool) : Bool := Row.rec (motive := fun _ => Bool) (fun c0 c1 c2 c3 c4 c5 c6 c7 c8 c9 c10 c11 c12 c13 c14 _ => K (Row.mk c0 c1 c2 c3 c4 c5 c6 c7 c8 c9 c10 c11 c12 c13 c14 x)) t
def Row.u0 (t : Row) (x : Value) : Row := Row.rec (motive := fun _ => Row) (fun _ c1 c2 c3 c4 c5 c6 c7 c8 c9 c10 c11 c12 c13 c14 c15 => Row.mk x c1 c2 c3 c4 c5 c6 c7 c8 c9 c10 c11 c12 c13 c14 c15) t
def Row.u1 (t : Row) (x : Value) : Row := Row.rec (motive := fun _ => Row) (fun c0 _ c2 c3 c4 c5 c6 c7 c8 c9 c10 c11 c12 c13 c14 c15 => Row.mk c0 x c2 c3 c4 c5 c6 c7 c8 c9 c10 c11 c12 c13 c14 c15) t
def Row.u2 (t : Row) (x : Value) : Row := Row.rec (motive := fun _ => Row) (fun c0 c1 _ c3 c4 c5 c6 c7 c8 c9 c10 c11 c12 c13 c14 c15 => Row.mk c0 c1 x c3 c4 c5 c6 c7 c8 c9 c10 c11 c12 c13 c14 c15) t
def Row.u3 (t : Row) (x : Value) : Row := Row.rec (motive := fun _ => Row) (fun c0 c1 c2 _ c4 c5 c6 c7 c8 c9 c10 c11 c12 c13 c14 c15 => Row.mk c0 c1 c2 x c4 c5 c6 c7 c8 c9 c10 c11 c12 c13 c14 c15) t
def Row.u4 (t : Row) (x : Value) : Row := Row.rec (motive := fun _ => Row) (fun c0 c1 c2 c3 _ c5 c6 c7 c8 c9 c10 c11 c12 c13 c14 c15 => Row.mk c0 c1 c2 c3 x c5 c6 c7 c8 c9 c10 c11 c12 c13 c14 c15) t
def Row.u5 (t : Row) (x : Value) : Row := Row.rec (motive := fun _ => Row) (fun c0 c1 c2 c3 c4 _ c6 c7 c8 c9 c10 c11 c12 c13 c14 c15 => Row.mk c0 c1 c2 c3 c4 x c6 c7 c8 c9 c10 c11 c12 c13 c14 c15) t
def Row.u6 (t : Row) (x : Value) : Row := Row.rec (motive := fun _ => Row) (fun c0 c1 c2 c3 c4 c5 _ c7 c8 c9 c10 c11 c12 c13 c14 c15 => Row.mk c0 c1 c2 c3 c4 c5 x c7 c8 c9 c10 c11 c12 c13 c14 c15) t
def Row.u7 (t : Row) (x : Value) : Row := Row.rec (motive := fun _ => Row) (fun c0 c1 c2 c3 c4 c5 c6 _ c8 c9 c10 c11 c12 c13 c14 c15 => Row.mk c0 c1 c2 c3 c4 c5 c6 x c8 c9 c10 c11 c12 c13 c14 c15) t
def Row.u8 (t : Row) (x : Value) : Row := Row.rec (motive := fun _ => Row) (fun c0 c1 c2 c3 c4 c5 c6 c7 _ c9 c10 c11 c12 c13 c14 c15 => Row.mk c0 c1 c2 c3 c4 c5 c6 c7 x c9 c10 c11 c12 c13 c14 c15) t
def Row.u9 (t : Row) (x : Value) : Row := Row.rec (motive := fun _ => Row) (fun c0 c1 c2 c3 c4 c5 c6 c7 c8 _ c10 c11 c12 c13 c14 c15 => Row.mk c0 c1 c2 c3 c4 c5 c6 c7 c8 x c10 c11 c12 c13 c14 c15) t
def Row.u10 (t : Row) (x : Value) : Row := Row.rec (motive := fun _ => Row) (fun c0 c1 c2 c3 c4 c5 c6 c7 c8 c9 _ c11 c12 c13 c14 c15 => Row.mk c0 c1 c2 c3 c4 c5 c6 c7 c8 c9 x c11 c12 c13 c14 c15) t
def Row.u11 (t : Row) (x : Value) : Row := Row.rec (motive := fun _ => Row) (fun c0 c1 c2 c3 c4 c5 c6 c7 c8 c9 c10 _ c12 c13 c14 c15 => Row.mk c0 c1 c2 c3 c4 c5 c6 c7 c8 c9 c10 x c12 c13 c14 c15) t
def Row.u12 (t : Row) (x : Value) : Row := Row.rec (motive := fun _ => Row) (fun c0 c1 c2 c3 c4 c5 c6 c7 c8 c9 c10 c11 _ c13 c14 c15 => Row.mk c0 c1 c2 c3 c4 c5 c6 c7 c8 c9 c10 c11 x c13 c14 c15) t
def Row.u13 (t : Row) (x : Value) : Row := Row.rec (motive := fun _ => Row) (fun c0 c1 c2 c3 c4 c5 c6 c7 c8 c9 c10 c11 c12 _ c14 c15 => Row.mk c0 c1 c2 c3 c4 c5 c6 c7 c8 c9 c10 c11 c12 x c14 c15) t
def Row.u14 (t : Row) (x : Value) : Row := Row.rec (motive := fun _ => Row) (fun c0 c1 c2 c3 c4 c5 c6 c7 c8 c9 c10 c11 c12 c13 _ c15 => Row.mk c0 c1 c2 c3 c4 c5 c6 c7 c8 c9 c10 c11 c12 c13 x c15) t
def Row.u15 (t : Row) (x : Value) : Row := Row.rec (motive := fun _ => Row) (fun c0 c1 c2 c3 c4 c5 c6 c7 c8 c9 c10 c11 c12 c13 c14 _ => Row.mk c0 c1 c2 c3 c4 c5 c6 c7 c8 c9 c10 c11 c12 c13 c14 x) t
def Row.sx (t : Row) (_ : Value) (K : Row → Bool) : Bool := K t
def Row.ux (t : Row) (_ : Value) : Row := t
def Row.gx (_ : Row) : Value := undef
def Row.at (d : D16) : Row → Value := D16.rec (motive := fun _ => Row → Value) Row.g0 Row.g1 Row.g2 Row.g3 Row.g4 Row.g5 Row.g6 Row.g7 Row.g8 Row.g9 Row.g10 Row.g11 Row.g12 Row.g13 Row.g14 Row.g15 Row.gx d
def Row.set (d : D16) : Row → Value → (Row → Bool) → Bool := D16.rec (motive := fun _ => Row → Value → (Row → Bool) → Bool) Row.s0 Row.s1 Row.s2 Row.s3 Row.s4 Row.s5 Row.s6 Row.s7 Row.s8 Row.s9 Row.s10 Row.s11 Row.s12 Row.s13 Row.s14 Row.s15 Row.sx d
def Row.upd (d : D16) : Row → Value → Row := D16.rec (motive := fun _ => Row → Value → Row) Row.u0 Row.u1 Row.u2 Row.u3 Row.u4 Row.u5 Row.u6 Row.u7 Row.u8 Row.u9 Row.u10 Row.u11 Row.u12 Row.u13 Row.u14 Row.u15 Row.ux d
theorem Row.set_eq (d : D16) (t : Row) (x : Value) (K : Row → Bool) : Row.set d t x K = K (Row.upd d t x) := by cases d <;> rfl
theorem Row.at_upd (d e : D16) (t : Row) (x : Value) (hd : d ≠ .x) : Row.at e (Row.upd d t x) = if e = d then x else Row.at e t := by
  cases d <;> first | exact absurd rfl hd | (cases e <;> rfl)
def Env.g0 (t : Env) : Row := Env.rec (motive := fun _ => Row) (fun c0 _ _ _ _ _ _ _ _ _ _ _ _ _ _ _ => c0) t
def Env.g1 (t : Env) : Row := Env.rec (motive := fun _ => Row) (fun _ c1 _ _ _ _ _ _ _ _ _ _ _ _ _ _ => c1) t
def Env.g2 (t : Env) : Row := Env.rec (motive := fun _ => Row) (fun _ _ c2 _ _ _ _ _ _ _ _ _ _ _ _ _ => c2) t
def Env.g3 (t : Env) : Row := Env.rec (motive := fun _ => Row) (fun _ _ _ c3 _ _ _ _ _ _ _ _ _ _ _ _ => c3) t
def Env.g4 (t : Env) : Row := Env.rec (motive := fun _ => Row) (fun _ _ _ _ c4 _ _ _ _ _ _ _ _ _ _ _ => c4) t
def Env.g5 (t : Env) : Row := Env.rec (motive := fun _ => Row) (fun _ _ _ _ _ c5 _ _ _ _ _ _ _ _ _ _ => c5) t
def Env.g6 (t : Env) : Row := Env.rec (motive := fun _ => Row) (fun _ _ _ _ _ _ c6 _ _ _ _ _ _ _ _ _ => c6) t
def Env.g7 (t : Env) : Row := Env.rec (motive := fun _ => Row) (fun _ _ _ _ _ _ _ c7 _ _ _ _ _ _ _ _ => c7) t
def Env.g8 (t : Env) : Row := Env.rec (motive := fun _ => Row) (fun _ _ _ _ _ _ _ _ c8 _ _ _ _ _ _ _ => c8) t
def Env.g9 (t : Env) : Row := Env.rec (motive := fun _ => Row) (fun _ _ _ _ _ _ _ _ _ c9 _ _ _ _ _ _ => c9) t
def Env.g10 (t : Env) : Row := Env.rec (motive := fun _ => Row) (fun _ _ _ _ _ _ _ _ _ _ c10 _ _ _ _ _ => c10) t
def Env.g11 (t : Env) : Row := Env.rec (motive := fun _ => Row) (fun _ _ _ _ _ _ _ _ _ _ _ c11 _ _ _ _ => c11) t
def Env.g12 (t : Env) : Row := Env.rec (motive := fun _ => Row) (fun _ _ _ _ _ _ _ _ _ _ _ _ c12 _ _ _ => c12) t
def Env.g13 (t : Env) : Row := Env.rec (motive := fun _ => Row) (fun _ _ _ _ _ _ _ _ _ _ _ _ _ c13 _ _ => c13) t
def Env.g14 (t : Env) : Row := Env.rec (motive := fun _ => Row) (fun _ _ _ _ _ _ _ _ _ _ _ _ _ _ c14 _ => c14) t
def Env.g15 (t : Env) : Row := Env.rec (motive := fun _ => Row) (fun _ _ _ _ _ _ _ _ _ _ _ _ _ _ _ c15 => c15) t
def Env.s0 (t : Env) (x : Row) (K : Env → Bool) : Bool := Env.rec (motive := fun _ => Bool) (fun _ c1 c2 c3 c4 c5 c6 c7 c8 c9 c10 c11 c12 c13 c14 c15 => K (Env.mk x c1 c2 c3 c4 c5 c6 c7 c8 c9 c10 c11 c12 c13 c14 c15)) t
def Env.s1 (t : Env) (x : Row) (K : Env → Bool) : Bool := Env.rec (motive := fun _ => Bool) (fun c0 _ c2 c3 c4 c5 c6 c7 c8 c9 c10 c11 c12 c13 c14 c15 => K (Env.mk c0 x c2 c3 c4 c5 c6 c7 c8 c9 c10 c11 c12 c13 c14 c15)) t
def Env.s2 (t : Env) (x : Row) (K : Env → Bool) : Bool := Env.rec (motive := fun _ => Bool) (fun c0 c1 _ c3 c4 c5 c6 c7 c8 c9 c10 c11 c12 c13 c14 c15 => K (Env.mk c0 c1 x c3 c4 c5 c6 c7 c8 c9 c10 c11 c12 c13 c14 c15)) t
def Env.s3 (t : Env) (x : Row) (K : Env → Bool) : Bool := Env.rec (motive := fun _ => Bool) (fun c0 c1 c2 _ c4 c5 c6 c7 c8 c9 c10 c11 c12 c13 c14 c15 => K (Env.mk c0 c1 c2 x c4 c5 c6 c7 c8 c9 c10 c11 c12 c13 c14 c15)) t
def Env.s4 (t : Env) (x : Row) (K : Env → Bool) : Bool := Env.rec (motive := fun _ => Bool) (fun c0 c1 c2 c3 _ c5 c6 c7 c8 c9 c10 c11 c12 c13 c14 c15 => K (Env.mk c0 c1 c2 c3 x c5 c6 c7 c8 c9 c10 c11 c12 c13 c14 c15)) t
def Env.s5 (t : Env) (x : Row) (K : Env → Bool) : Bool := Env.rec (motive := fun _ => Bool) (fun c0 c1 c2 c3 c4 _ c6 c7 c8 c9 c10 c11 c12 c13 c14 c15 => K (Env.mk c0 c1 c2 c3 c4 x c6 c7 c8 c9 c10 c11 c12 c13 c14 c15)) t
def Env.s6 (t : Env) (x : Row) (K : Env → Bool) : Bool := Env.rec (motive := fun _ => Bool) (fun c0 c1 c2 c3 c4 c5 _ c7 c8 c9 c10 c11 c12 c13 c14 c15 => K (Env.mk c0 c1 c2 c3 c4 c5 x c7 c8 c9 c10 c11 c12 c13 c14 c15)) t
def Env.s7 (t : Env) (x : Row) (K : Env → Bool) : Bool := Env.rec (motive := fun _ => Bool) (fun c0 c1 c2 c3 c4 c5 c6 _ c8 c9 c10 c11 c12 c13 c14 c15 => K (Env.mk c0 c1 c2 c3 c4 c5 c6 x c8 c9 c10 c11 c12 c13 c14 c15)) t
def Env.s8 (t : Env) (x : Row) (K : Env → Bool) : Bool := Env.rec (motive := fun _ => Bool) (fun c0 c1 c2 c3 c4 c5 c6 c7 _ c9 c10 c11 c12 c13 c14 c15 => K (Env.mk c0 c1 c2 c3 c4 c5 c6 c7 x c9 c10 c11 c12 c13 c14 c15)) t
def Env.s9 (t : Env) (x : Row) (K : Env → Bool) : Bool := Env.rec (motive := fun _ => Bool) (fun c0 c1 c2 c3 c4 c5 c6 c7 c8 _ c10 c11 c12 c13 c14 c15 => K (Env.mk c0 c1 c2 c3 c4 c5 c6 c7 c8 x c10 c11 c12 c13 c14 c15)) t
def Env.s10 (t : Env) (x : Row) (K : Env → Bool) : Bool := Env.rec (motive := fun _ => Bool) (fun c0 c1 c2 c3 c4 c5 c6 c7 c8 c9 _ c11 c12 c13 c14 c15 => K (Env.mk c0 c1 c2 c3 c4 c5 c6 c7 c8 c9 x c11 c12 c13 c14 c15)) t
def Env.s11 (t : Env) (x : Row) (K : Env → Bool) : Bool := Env.rec (motive := fun _ => Bool) (fun c0 c1 c2 c3 c4 c5 c6 c7 c8 c9 c10 _ c12 c13 c14 c15 => K (Env.mk c0 c1 c2 c3 c4 c5 c6 c7 c8 c9 c10 x c12 c13 c14 c15)) t
def Env.s12 (t : Env) (x : Row) (K : Env → Bool) : Bool := Env.rec (motive := fun _ => Bool) (fun c0 c1 c2 c3 c4 c5 c6 c7 c8 c9 c10 c11 _ c13 c14 c15 => K (Env.mk c0 c1 c2 c3 c4 c5 c6 c7 c8 c9 c10 c11 x c13 c14 c15)) t
def Env.s13 (t : Env) (x : Row) (K : Env → Bool) : Bool := Env.rec (motive := fun _ => Bool) (fun c0 c1 c2 c3 c4 c5 c6 c7 c8 c9 c10 c11 c12 _ c14 c15 => K (Env.mk c0 c1 c2 c3 c4 c5 c6 c7 c8 c9 c10 c11 c12 x c14 c15)) t
def Env.s14 (t : Env) (x : Row) (K : Env → Bool) : Bool := Env.rec (motive := fun _ => Bool) (fun c0 c1 c2 c3 c4 c5 c6 c7 c8 c9 c10 c11 c12 c13 _ c15 => K (Env.mk c0 c1 c2 c3 c4 c5 c6 c7 c8 c9 c10 c11 c12 c13 x c15)) t
def Env.s15 (t : Env) (x : Row) (K : Env → Bool) : Bool := Env.rec (motive := fun _ => Bool) (fun c0 c1 c2 c3 c4 c5 c6 c7 c8 c9 c10 c11 c12 c13 c14 _ => K (Env.mk c0 c1 c2 c3 c4 c5 c6 c7 c8 c9 c10 c11 c12 c13 c14 x)) t
def Env.u0 (t : Env) (x : Row) : Env := Env.rec (motive := fun _ => Env) (fun _ c1 c2 c3 c4 c5 c6 c7 c8 c9 c10 c11 c12 c13 c14 c15 => Env.mk x c1 c2 c3 c4 c5 c6 c7 c8 c9 c10 c11 c12 c13 c14 c15) t
def Env.u1 (t : Env) (x : Row) : Env := Env.rec (motive := fun _ => Env) (fun c0 _ c2 c3 c4 c5 c6 c7 c8 c9 c10 c11 c12 c13 c14 c15 => Env.mk c0 x c2 c3 c4 c5 c6 c7 c8 c9 c10 c11 c12 c13 c14 c15) t
def Env.u2 (t : Env) (x : Row) : Env := Env.rec (motive := fun _ => Env) (fun c0 c1 _ c3 c4 c5 c6 c7 c8 c9 c10 c11 c12 c13 c14 c15 => Env.mk c0 c1 x c3 c4 c5 c6 c7 c8 c9 c10 c11 c12 c13 c14 c15) t
def Env.u3 (t : Env) (x : Row) : Env := Env.rec (motive := fun _ => Env) (fun c0 c1 c2 _ c4 c5 c6 c7 c8 c9 c10 c11 c12 c13 c14 c15 => Env.mk c0 c1 c2 x c4 c5 c6 c7 c8 c9 c10 c11 c12 c13 c14 c15) t
def Env.u4 (t : Env) (x : Row) : Env := Env.rec (motive := fun _ => Env) (fun c0 c1 c2 c3 _ c5 c6 c7 c8 c9 c10 c11 c12 c13 c14 c15 => Env.mk c0 c1 c2 c3 x c5 c6 c7 c8 c9 c10 c11 c12 c13 c14 c15) t
def Env.u5 (t : Env) (x : Row) : Env := Env.rec (motive := fun _ => Env) (fun c0 c1 c2 c3 c4 _ c6 c7 c8 c9 c10 c11 c12 c13 c14 c15 => Env.mk c0 c1 c2 c3 c4 x c6 c7 c8 c9 c10 c11 c12 c13 c14 c15) t
def Env.u6 (t : Env) (x : Row) : Env := Env.rec (motive := fun _ => Env) (fun c0 c1 c2 c3 c4 c5 _ c7 c8 c9 c10 c11 c12 c13 c14 c15 => Env.mk c0 c1 c2 c3 c4 c5 x c7 c8 c9 c10 c11 c12 c13 c14 c15) t
def Env.u7 (t : Env) (x : Row) : Env := Env.rec (motive := fun _ => Env) (fun c0 c1 c2 c3 c4 c5 c6 _ c8 c9 c10 c11 c12 c13 c14 c15 => Env.mk c0 c1 c2 c3 c4 c5 c6 x c8 c9 c10 c11 c12 c13 c14 c15) t
def Env.u8 (t : Env) (x : Row) : Env := Env.rec (motive := fun _ => Env) (fun c0 c1 c2 c3 c4 c5 c6 c7 _ c9 c10 c11 c12 c13 c14 c15 => Env.mk c0 c1 c2 c3 c4 c5 c6 c7 x c9 c10 c11 c12 c13 c14 c15) t
def Env.u9 (t : Env) (x : Row) : Env := Env.rec (motive := fun _ => Env) (fun c0 c1 c2 c3 c4 c5 c6 c7 c8 _ c10 c11 c12 c13 c14 c15 => Env.mk c0 c1 c2 c3 c4 c5 c6 c7 c8 x c10 c11 c12 c13 c14 c15) t
def Env.u10 (t : Env) (x : Row) : Env := Env.rec (motive := fun _ => Env) (fun c0 c1 c2 c3 c4 c5 c6 c7 c8 c9 _ c11 c12 c13 c14 c15 => Env.mk c0 c1 c2 c3 c4 c5 c6 c7 c8 c9 x c11 c12 c13 c14 c15) t
def Env.u11 (t : Env) (x : Row) : Env := Env.rec (motive := fun _ => Env) (fun c0 c1 c2 c3 c4 c5 c6 c7 c8 c9 c10 _ c12 c13 c14 c15 => Env.mk c0 c1 c2 c3 c4 c5 c6 c7 c8 c9 c10 x c12 c13 c14 c15) t
def Env.u12 (t : Env) (x : Row) : Env := Env.rec (motive := fun _ => Env) (fun c0 c1 c2 c3 c4 c5 c6 c7 c8 c9 c10 c11 _ c13 c14 c15 => Env.mk c0 c1 c2 c3 c4 c5 c6 c7 c8 c9 c10 c11 x c13 c14 c15) t
def Env.u13 (t : Env) (x : Row) : Env := Env.rec (motive := fun _ => Env) (fun c0 c1 c2 c3 c4 c5 c6 c7 c8 c9 c10 c11 c12 _ c14 c15 => Env.mk c0 c1 c2 c3 c4 c5 c6 c7 c8 c9 c10 c11 c12 x c14 c15) t
def Env.u14 (t : Env) (x : Row) : Env := Env.rec (motive := fun _ => Env) (fun c0 c1 c2 c3 c4 c5 c6 c7 c8 c9 c10 c11 c12 c13 _ c15 => Env.mk c0 c1 c2 c3 c4 c5 c6 c7 c8 c9 c10 c11 c12 c13 x c15) t
def Env.u15 (t : Env) (x : Row) : Env := Env.rec (motive := fun _ => Env) (fun c0 c1 c2 c3 c4 c5 c6 c7 c8 c9 c10 c11 c12 c13 c14 _ => Env.mk c0 c1 c2 c3 c4 c5 c6 c7 c8 c9 c10 c11 c12 c13 c14 x) t
def Env.sx (t : Env) (_ : Row) (K : Env → Bool) : Bool := K t
def Env.ux (t : Env) (_ : Row) : Env := t
def Env.gx (_ : Env) : Row := row0
def Env.at (d : D16) : Env → Row := D16.rec (motive := fun _ => Env → Row) Env.g0 Env.g1 Env.g2 Env.g3 Env.g4 Env.g5 Env.g6 Env.g7 Env.g8 Env.g9 Env.g10 Env.g11 Env.g12 Env.g13 Env.g14 Env.g15 Env.gx d
def Env.set (d : D16) : Env → Row → (Env → Bool) → Bool := D16.rec (motive := fun _ => Env → Row → (Env → Bool) → Bool) Env.s0 Env.s1 Env.s2 Env.s3 Env.s4 Env.s5 Env.s6 Env.s7 Env.s8 Env.s9 Env.s10 Env.s11 Env.s12 Env.s13 Env.s14 Env.s15 Env.sx d
def Env.upd (d : D16) : Env → Row → Env := D16.rec (motive := fun _ => Env → Row → Env) Env.u0 Env.u1 Env.u2 Env.u3 Env.u4 Env.u5 Env.u6 Env.u7 Env.u8 Env.u9 Env.u10 Env.u11 Env.u12 Env.u13 Env.u14 Env.u15 Env.ux d
theorem Env.set_eq (d : D16) (t : Env) (x : Row) (K : Env → Bool) : Env.set d t x K = K (Env.upd d t x) := by cases d <;> rfl
theorem Env.at_upd (d e : D16) (t : Env) (x : Row) (hd : d ≠ .x) : Env.at e (Env.upd d t x) = if e = d then x else Env.at e t := by
  cases d <;> first | exact absurd rfl hd | (cases e <;> rfl)
def dig (n : Nat) : D16 := Nat.rec (motive := fun _ => D16) .d0 (fun n0 _ => Nat.rec (motive := fun _ => D16) .d1 (fun n1 _ => Nat.rec (motive := fun _ => D16) .d2 (fun n2 _ => Nat.rec (motive := fun _ => D16) .d3 (fun n3 _ => Nat.rec (motive := fun _ => D16) .d4 (fun n4 _ => Nat.rec (motive := fun _ => D16) .d5 (fun n5 _ => Nat.rec (motive := fun _ => D16) .d6 (fun n6 _ => Nat.rec (motive := fun _ => D16) .d7 (fun n7 _ => Nat.rec (motive := fun _ => D16) .d8 (fun n8 _ => Nat.rec (motive := fun _ => D16) .d9 (fun n9 _ => Nat.rec (motive := fun _ => D16) .d10 (fun n10 _ => Nat.rec (motive := fun _ => D16) .d11 (fun n11 _ => Nat.rec (motive := fun _ => D16) .d12 (fun n12 _ => Nat.rec (motive := fun _ => D16) .d13 (fun n13 _ => Nat.rec (motive := fun _ => D16) .d14 (fun n14 _ => Nat.rec (motive := fun _ => D16) .d15 (fun _ _ => .x) n14) n13) n12) n11) n10) n9) n8) n7) n6) n5) n4) n3) n2) n1) n0) n
def D16.num : D16 → Nat
  | .d0 => 0
  | .d1 => 1
  | .d2 => 2
  | .d3 => 3
  | .d4 => 4
  | .d5 => 5
  | .d6 => 6
  | .d7 => 7
  | .d8 => 8
  | .d9 => 9
  | .d10 => 10
  | .d11 => 11
  | .d12 => 12
  | .d13 => 13
  | .d14 => 14
  | .d15 => 15
  | .x => 16
theorem num_dig : ∀ n, (dig n).num = min n 16
  | 0 => rfl
  | 1 => rfl
  | 2 => rfl
  | 3 => rfl
  | 4 => rfl
  | 5 => rfl
  | 6 => rfl
  | 7 => rfl
  | 8 => rfl
  | 9 => rfl
  | 10 => rfl
  | 11 => rfl
  | 12 => rfl
  | 13 => rfl
  | 14 => rfl
  | 15 => rfl
  | n + 16 => by show 16 = min (n + 16) 16; omega
theorem dig_eq {a b : Nat} (ha : a < 16) (h : dig b = dig a) : b = a := by
  have h1 := num_dig a
  have h2 := num_dig b
  rw [h] at h2
  omega
theorem dig_x {a : Nat} (ha : a < 16) : dig a ≠ .x := fun h => by
  have := num_dig a
  rw [h] at this
  simp only [D16.num] at this
  omega

def Env.get (t : Nat) (e : Env) : Value := Row.at (dig (t % 16)) (Env.at (dig (t / 16)) e)
def Env.put (t : Nat) (e : Env) (v : Value) (K : Env → Bool) : Bool := Row.set (dig (t % 16)) (Env.at (dig (t / 16)) e) v fun r => Env.set (dig (t / 16)) e r K
def Env.new (t : Nat) (e : Env) (v : Value) : Env := Env.upd (dig (t / 16)) e (Row.upd (dig (t % 16)) (Env.at (dig (t / 16)) e) v)
theorem Env.put_eq (t : Nat) (e : Env) (v : Value) (K : Env → Bool) : Env.put t e v K = K (Env.new t e v) := by
  unfold Env.put Env.new
  rw [Row.set_eq, Env.set_eq]
theorem row0_get (d : D16) : Row.at d row0 = undef := by cases d <;> rfl
theorem env0_get (t : Nat) : Env.get t env0 = undef := by
  unfold Env.get
  have : Env.at (dig (t / 16)) env0 = row0 := by cases dig (t / 16) <;> rfl
  rw [this, row0_get]
theorem Env.get_put {t u : Nat} {e : Env} {v : Value} (ht : t < 256) : Env.get u (Env.new t e v) = if u = t then v else Env.get u e := by
  have h1 : t / 16 < 16 := by omega
  have h2 : t % 16 < 16 := Nat.mod_lt _ (by omega)
  unfold Env.get Env.new
  rw [Env.at_upd _ _ _ _ (dig_x h1)]
  by_cases hq : dig (u / 16) = dig (t / 16)
  · have hq' := dig_eq h1 hq
    rw [if_pos hq, Row.at_upd _ _ _ _ (dig_x h2)]
    by_cases hr : dig (u % 16) = dig (t % 16)
    · have hr' := dig_eq h2 hr
      rw [if_pos hr, if_pos (by omega)]
    · rw [if_neg hr, if_neg (fun h => hr (by rw [h])), hq]
  · rw [if_neg hq, if_neg (fun h => hq (by rw [h]))]
end
end Go.Ab
