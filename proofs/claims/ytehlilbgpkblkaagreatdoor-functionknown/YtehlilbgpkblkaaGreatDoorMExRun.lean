/- The examples of the chapter: the call returns true. -/
import Derived.Test.YtehlilbgpkblkaaGreatDoorMClosed14
namespace Go.Proofs.YtehlilbgpkblkaaGreatDoor
open Go Go.Ab
theorem ex_known : Known Tryz.prog 3 [] (.bool true) := row_known text_ok lstC14_ok (n := 2000) (by kernel_rfl) (by kernel_rfl)
end Go.Proofs.YtehlilbgpkblkaaGreatDoor
