/- The examples of the chapter: the call returns true. -/
import Derived.Test.YtipnhfemenlchaaGreatDoorMTab1
namespace Go.Proofs.YtipnhfemenlchaaGreatDoor
open Go Go.Ab
theorem ex_known : Known Tryz.prog 3 [] (.bool true) := row_known text_ok lst5_ok (n := 2000) (by kernel_rfl) (by kernel_rfl)
end Go.Proofs.YtipnhfemenlchaaGreatDoor
