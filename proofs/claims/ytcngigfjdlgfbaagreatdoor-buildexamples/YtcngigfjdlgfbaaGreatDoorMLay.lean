/- A world in which the listed variables of the package level hold what they are listed to hold. -/
import Derived.Test.YtcngigfjdlgfbaaGreatDoorRows
import Derived.ProofKit
import Derived.LaidLaws
import Derived.LaidHandle
import Derived.ChangeVars
namespace Go.Proofs.YtcngigfjdlgfbaaGreatDoor
open Go Go.ChangeShapes Go.WideShapes Go.ChangeAt Go.RowKit
theorem seat_own : ownKnob Tryz.prog.godebug = none := by kernel_rfl
abbrev laidList {H : Type} : List (String × DataW H) := [("math/bits.deBruijn32tab", Rows.laid_math_bits_deBruijn32tab), ("math/bits.deBruijn64tab", Rows.laid_math_bits_deBruijn64tab), ("internal/strconv.uint64pow10", Rows.laid_internal_strconv_uint64pow10)]
def litVal : DataW Unit → Value
  | .lit (.int k n) => .int k n
  | _ => undef
def datCells : DataW Unit → Array Value
  | .agg l => (l.map litVal).toArray
  | _ => #[]
def layIn (c : Array Value) : Obj → Obj
  | .cells _ t frozen => .cells c t frozen
  | o => o
noncomputable def laidWorld (os : Os) : World :=
  { World.holding Tryz.prog os ⟨#[], #[], []⟩ with heap := (((World.holding Tryz.prog os ⟨#[], #[], []⟩).heap.modify 2 (layIn (datCells Rows.laid_math_bits_deBruijn32tab))).modify 3 (layIn (datCells Rows.laid_math_bits_deBruijn64tab))).modify 1 (layIn (datCells Rows.laid_internal_strconv_uint64pow10)) }
theorem laidWorld_met (os : Os) (args : Array Value) : laidMetH Tryz.prog laidList ((laidWorld os).forCall (fun _ _ => 0) ⟨#[], args, []⟩).memory :=
  laidMetH_of_parts (laidMet_of_run' 24 (by kernel_rfl) (by kernel_rfl)) (by kernel_rfl)
end Go.Proofs.YtcngigfjdlgfbaaGreatDoor
