/- The examples of the chapter: the call returns true. -/
import Derived.Test.YtmgncajeamlkaaaGreatDoorMTab2
namespace Go.Proofs.YtmgncajeamlkaaaGreatDoor
open Go Go.Ab
theorem ex_known : Known Tryz.prog 3 [] (.bool true) := row_known text_ok lst6_ok (n := 2000) (by kernel_rfl) (by kernel_rfl)
end Go.Proofs.YtmgncajeamlkaaaGreatDoor
