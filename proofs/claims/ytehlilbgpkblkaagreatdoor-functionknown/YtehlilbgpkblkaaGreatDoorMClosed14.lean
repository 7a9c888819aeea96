/- A closed call within the examples: abugidalaw17.example. -/
import Derived.Test.YtehlilbgpkblkaaGreatDoorMTab1
namespace Go.Proofs.YtehlilbgpkblkaaGreatDoor
open Go Go.Ab
theorem c14_known : Known Tryz.prog 14 [] (.bool true) := row_known text_ok lst6_ok (n := 2000) (by kernel_rfl) (by kernel_rfl)
noncomputable def lstC14 : PList := (14, .memo [([], .bool true)]) :: lst6
theorem lstC14_ok : AllOk Tryz.prog noGl lstC14 := allOk_memo (tab_cons c14_known (by kernel_rfl) tab_nil) lst6_ok
end Go.Proofs.YtehlilbgpkblkaaGreatDoor
