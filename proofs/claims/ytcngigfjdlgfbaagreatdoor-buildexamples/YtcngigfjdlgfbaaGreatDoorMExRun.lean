/- The examples of the chapter: the call returns true. -/
import Derived.Test.YtcngigfjdlgfbaaGreatDoorMKeep43
namespace Go.Proofs.YtcngigfjdlgfbaaGreatDoor
open Go Go.Ab
theorem ex_known : Known Tryz.prog 3 [] (.bool true) := row_known text_ok lstK43_ok (n := 2000) (by kernel_rfl) (by kernel_rfl)
end Go.Proofs.YtcngigfjdlgfbaaGreatDoor
