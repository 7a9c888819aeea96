/- The kept calls, together. -/
import Derived.Test.YtcngigfjdlgfbaaGreatDoorMKeep43x0
import Derived.Test.YtcngigfjdlgfbaaGreatDoorMKeep43x1
import Derived.Test.YtcngigfjdlgfbaaGreatDoorMKeep43x2
import Derived.Test.YtcngigfjdlgfbaaGreatDoorMKeep43x3
import Derived.Test.YtcngigfjdlgfbaaGreatDoorMKeep43x4
namespace Go.Proofs.YtcngigfjdlgfbaaGreatDoor
open Go Go.Ab
noncomputable def lstK43 : PList := (43, .keep [k43_0, k43_1, k43_2, k43_3, k43_4, k43_5, k43_6, k43_7, k43_8, k43_9, k43_10, k43_11]) :: lst8
theorem lstK43_ok : AllOk Tryz.prog noGl lstK43 := allOk_keep (ktab_cons k43_0_ok (ktab_cons k43_1_ok (ktab_cons k43_2_ok (ktab_cons k43_3_ok (ktab_cons k43_4_ok (ktab_cons k43_5_ok (ktab_cons k43_6_ok (ktab_cons k43_7_ok (ktab_cons k43_8_ok (ktab_cons k43_9_ok (ktab_cons k43_10_ok (ktab_cons k43_11_ok (ktab_nil))))))))))))) lst8_ok
end Go.Proofs.YtcngigfjdlgfbaaGreatDoor
