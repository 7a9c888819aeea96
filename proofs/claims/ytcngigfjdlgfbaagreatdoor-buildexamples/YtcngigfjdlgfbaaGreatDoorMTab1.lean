/- Answers of the arithmetic at the values that the examples come to: from level 1 on. -/
import Derived.Test.YtcngigfjdlgfbaaGreatDoorMTabBase
namespace Go.Proofs.YtcngigfjdlgfbaaGreatDoor
open Go Go.Ab
/-! semi.One -/
theorem r35_0 : Known Tryz.prog 35 [.int .i64 1] (.string ⟨#[48]⟩) := row_known text_ok lst0_ok (n := 2000) (by kernel_rfl) (by kernel_rfl)
theorem r35_1 : Known Tryz.prog 35 [.int .i64 3] (.string ⟨#[49]⟩) := row_known text_ok lst0_ok (n := 2000) (by kernel_rfl) (by kernel_rfl)
theorem r35_2 : Known Tryz.prog 35 [.int .i64 2] (.string ⟨#[49]⟩) := row_known text_ok lst0_ok (n := 2000) (by kernel_rfl) (by kernel_rfl)
noncomputable def t35 : List (List Value × Value) := [([.int .i64 1], .string ⟨#[48]⟩), ([.int .i64 3], .string ⟨#[49]⟩), ([.int .i64 2], .string ⟨#[49]⟩)]
theorem t35_ok : TabOk Tryz.prog 35 t35 := tab_cons r35_0 (by kernel_rfl) (tab_cons r35_1 (by kernel_rfl) (tab_cons r35_2 (by kernel_rfl) (tab_nil)))
/-! abugidaref04.Kind -/
theorem r78_0 : Known Tryz.prog 78 [.int .i64 1] (.bool true) := row_known text_ok lst0_ok (n := 2000) (by kernel_rfl) (by kernel_rfl)
theorem r78_1 : Known Tryz.prog 78 [.int .i64 2] (.bool true) := row_known text_ok lst0_ok (n := 2000) (by kernel_rfl) (by kernel_rfl)
noncomputable def t78 : List (List Value × Value) := [([.int .i64 1], .bool true), ([.int .i64 2], .bool true)]
theorem t78_ok : TabOk Tryz.prog 78 t78 := tab_cons r78_0 (by kernel_rfl) (tab_cons r78_1 (by kernel_rfl) (tab_nil))
/-! nat.Valid -/
theorem r113_0 : Known Tryz.prog 113 [.string ⟨#[51]⟩] (.bool true) := row_known text_ok lst0_ok (n := 2000) (by kernel_rfl) (by kernel_rfl)
theorem r113_1 : Known Tryz.prog 113 [.string ⟨#[49]⟩] (.bool true) := row_known text_ok lst0_ok (n := 2000) (by kernel_rfl) (by kernel_rfl)
theorem r113_2 : Known Tryz.prog 113 [.string ⟨#[48]⟩] (.bool true) := row_known text_ok lst0_ok (n := 2000) (by kernel_rfl) (by kernel_rfl)
theorem r113_3 : Known Tryz.prog 113 [.string ⟨#[105, 110, 102]⟩] (.bool false) := row_known text_ok lst0_ok (n := 2000) (by kernel_rfl) (by kernel_rfl)
theorem r113_4 : Known Tryz.prog 113 [.string ⟨#[53]⟩] (.bool true) := row_known text_ok lst0_ok (n := 2000) (by kernel_rfl) (by kernel_rfl)
theorem r113_5 : Known Tryz.prog 113 [.string ⟨#[56]⟩] (.bool true) := row_known text_ok lst0_ok (n := 2000) (by kernel_rfl) (by kernel_rfl)
theorem r113_6 : Known Tryz.prog 113 [.string ⟨#[50]⟩] (.bool true) := row_known text_ok lst0_ok (n := 2000) (by kernel_rfl) (by kernel_rfl)
theorem r113_7 : Known Tryz.prog 113 [.string ⟨#[54]⟩] (.bool true) := row_known text_ok lst0_ok (n := 2000) (by kernel_rfl) (by kernel_rfl)
theorem r113_8 : Known Tryz.prog 113 [.string ⟨#[55]⟩] (.bool true) := row_known text_ok lst0_ok (n := 2000) (by kernel_rfl) (by kernel_rfl)
noncomputable def t113 : List (List Value × Value) := [([.string ⟨#[51]⟩], .bool true), ([.string ⟨#[49]⟩], .bool true), ([.string ⟨#[48]⟩], .bool true), ([.string ⟨#[105, 110, 102]⟩], .bool false), ([.string ⟨#[53]⟩], .bool true), ([.string ⟨#[56]⟩], .bool true), ([.string ⟨#[50]⟩], .bool true), ([.string ⟨#[54]⟩], .bool true), ([.string ⟨#[55]⟩], .bool true)]
theorem t113_ok : TabOk Tryz.prog 113 t113 := tab_cons r113_0 (by kernel_rfl) (tab_cons r113_1 (by kernel_rfl) (tab_cons r113_2 (by kernel_rfl) (tab_cons r113_3 (by kernel_rfl) (tab_cons r113_4 (by kernel_rfl) (tab_cons r113_5 (by kernel_rfl) (tab_cons r113_6 (by kernel_rfl) (tab_cons r113_7 (by kernel_rfl) (tab_cons r113_8 (by kernel_rfl) (tab_nil)))))))))
/-! abugidaref02.Valid -/
theorem r154_0 : Known Tryz.prog 154 [.string ⟨#[48]⟩] (.bool true) := row_known text_ok lst0_ok (n := 2000) (by kernel_rfl) (by kernel_rfl)
theorem r154_1 : Known Tryz.prog 154 [.string ⟨#[49]⟩] (.bool true) := row_known text_ok lst0_ok (n := 2000) (by kernel_rfl) (by kernel_rfl)
theorem r154_2 : Known Tryz.prog 154 [.string ⟨#[51]⟩] (.bool true) := row_known text_ok lst0_ok (n := 2000) (by kernel_rfl) (by kernel_rfl)
theorem r154_3 : Known Tryz.prog 154 [.string ⟨#[53]⟩] (.bool true) := row_known text_ok lst0_ok (n := 2000) (by kernel_rfl) (by kernel_rfl)
theorem r154_4 : Known Tryz.prog 154 [.string ⟨#[56]⟩] (.bool true) := row_known text_ok lst0_ok (n := 2000) (by kernel_rfl) (by kernel_rfl)
theorem r154_5 : Known Tryz.prog 154 [.string ⟨#[54]⟩] (.bool true) := row_known text_ok lst0_ok (n := 2000) (by kernel_rfl) (by kernel_rfl)
theorem r154_6 : Known Tryz.prog 154 [.string ⟨#[57]⟩] (.bool true) := row_known text_ok lst0_ok (n := 2000) (by kernel_rfl) (by kernel_rfl)
theorem r154_7 : Known Tryz.prog 154 [.string ⟨#[55]⟩] (.bool true) := row_known text_ok lst0_ok (n := 2000) (by kernel_rfl) (by kernel_rfl)
theorem r154_8 : Known Tryz.prog 154 [.string ⟨#[50]⟩] (.bool true) := row_known text_ok lst0_ok (n := 2000) (by kernel_rfl) (by kernel_rfl)
theorem r154_9 : Known Tryz.prog 154 [.string ⟨#[52]⟩] (.bool true) := row_known text_ok lst0_ok (n := 2000) (by kernel_rfl) (by kernel_rfl)
noncomputable def t154 : List (List Value × Value) := [([.string ⟨#[48]⟩], .bool true), ([.string ⟨#[49]⟩], .bool true), ([.string ⟨#[51]⟩], .bool true), ([.string ⟨#[53]⟩], .bool true), ([.string ⟨#[56]⟩], .bool true), ([.string ⟨#[54]⟩], .bool true), ([.string ⟨#[57]⟩], .bool true), ([.string ⟨#[55]⟩], .bool true), ([.string ⟨#[50]⟩], .bool true), ([.string ⟨#[52]⟩], .bool true)]
theorem t154_ok : TabOk Tryz.prog 154 t154 := tab_cons r154_0 (by kernel_rfl) (tab_cons r154_1 (by kernel_rfl) (tab_cons r154_2 (by kernel_rfl) (tab_cons r154_3 (by kernel_rfl) (tab_cons r154_4 (by kernel_rfl) (tab_cons r154_5 (by kernel_rfl) (tab_cons r154_6 (by kernel_rfl) (tab_cons r154_7 (by kernel_rfl) (tab_cons r154_8 (by kernel_rfl) (tab_cons r154_9 (by kernel_rfl) (tab_nil))))))))))
noncomputable def lst1 : PList := (35, .memo t35) :: (78, .memo t78) :: (113, .memo t113) :: (154, .memo t154) :: lst0
theorem lst1_ok : AllOk Tryz.prog noGl lst1 := allOk_memo t35_ok (allOk_memo t78_ok (allOk_memo t113_ok (allOk_memo t154_ok (lst0_ok))))
/-! abugidaref04.Zero -/
theorem r82_0 : Known Tryz.prog 82 [.int .i64 1] (.string ⟨#[105, 110, 102]⟩) := row_known text_ok lst1_ok (n := 2000) (by kernel_rfl) (by kernel_rfl)
theorem r82_1 : Known Tryz.prog 82 [.int .i64 2] (.string ⟨#[48]⟩) := row_known text_ok lst1_ok (n := 2000) (by kernel_rfl) (by kernel_rfl)
noncomputable def t82 : List (List Value × Value) := [([.int .i64 1], .string ⟨#[105, 110, 102]⟩), ([.int .i64 2], .string ⟨#[48]⟩)]
theorem t82_ok : TabOk Tryz.prog 82 t82 := tab_cons r82_0 (by kernel_rfl) (tab_cons r82_1 (by kernel_rfl) (tab_nil))
/-! nat.Mul -/
theorem r89_0 : Known Tryz.prog 89 [.string ⟨#[49]⟩, .string ⟨#[49]⟩] (.tuple #[.string ⟨#[49]⟩, .int .i64 0]) := row_known text_ok lst1_ok (n := 2000) (by kernel_rfl) (by kernel_rfl)
theorem r89_1 : Known Tryz.prog 89 [.string ⟨#[48]⟩, .string ⟨#[49]⟩] (.tuple #[.string ⟨#[48]⟩, .int .i64 0]) := row_known text_ok lst1_ok (n := 2000) (by kernel_rfl) (by kernel_rfl)
theorem r89_2 : Known Tryz.prog 89 [.string ⟨#[51]⟩, .string ⟨#[49]⟩] (.tuple #[.string ⟨#[51]⟩, .int .i64 0]) := row_known text_ok lst1_ok (n := 2000) (by kernel_rfl) (by kernel_rfl)
theorem r89_3 : Known Tryz.prog 89 [.string ⟨#[53]⟩, .string ⟨#[49]⟩] (.tuple #[.string ⟨#[53]⟩, .int .i64 0]) := row_known text_ok lst1_ok (n := 2000) (by kernel_rfl) (by kernel_rfl)
theorem r89_4 : Known Tryz.prog 89 [.string ⟨#[51]⟩, .string ⟨#[50]⟩] (.tuple #[.string ⟨#[54]⟩, .int .i64 0]) := row_known text_ok lst1_ok (n := 2000) (by kernel_rfl) (by kernel_rfl)
theorem r89_5 : Known Tryz.prog 89 [.string ⟨#[50]⟩, .string ⟨#[49]⟩] (.tuple #[.string ⟨#[50]⟩, .int .i64 0]) := row_known text_ok lst1_ok (n := 2000) (by kernel_rfl) (by kernel_rfl)
theorem r89_6 : Known Tryz.prog 89 [.string ⟨#[48]⟩, .string ⟨#[50]⟩] (.tuple #[.string ⟨#[48]⟩, .int .i64 0]) := row_known text_ok lst1_ok (n := 2000) (by kernel_rfl) (by kernel_rfl)
noncomputable def t89 : List (List Value × Value) := [([.string ⟨#[49]⟩, .string ⟨#[49]⟩], .tuple #[.string ⟨#[49]⟩, .int .i64 0]), ([.string ⟨#[48]⟩, .string ⟨#[49]⟩], .tuple #[.string ⟨#[48]⟩, .int .i64 0]), ([.string ⟨#[51]⟩, .string ⟨#[49]⟩], .tuple #[.string ⟨#[51]⟩, .int .i64 0]), ([.string ⟨#[53]⟩, .string ⟨#[49]⟩], .tuple #[.string ⟨#[53]⟩, .int .i64 0]), ([.string ⟨#[51]⟩, .string ⟨#[50]⟩], .tuple #[.string ⟨#[54]⟩, .int .i64 0]), ([.string ⟨#[50]⟩, .string ⟨#[49]⟩], .tuple #[.string ⟨#[50]⟩, .int .i64 0]), ([.string ⟨#[48]⟩, .string ⟨#[50]⟩], .tuple #[.string ⟨#[48]⟩, .int .i64 0])]
theorem t89_ok : TabOk Tryz.prog 89 t89 := tab_cons r89_0 (by kernel_rfl) (tab_cons r89_1 (by kernel_rfl) (tab_cons r89_2 (by kernel_rfl) (tab_cons r89_3 (by kernel_rfl) (tab_cons r89_4 (by kernel_rfl) (tab_cons r89_5 (by kernel_rfl) (tab_cons r89_6 (by kernel_rfl) (tab_nil)))))))
/-! nat.Add -/
theorem r110_0 : Known Tryz.prog 110 [.string ⟨#[51]⟩, .string ⟨#[53]⟩] (.tuple #[.string ⟨#[56]⟩, .int .i64 0]) := row_known text_ok lst1_ok (n := 2000) (by kernel_rfl) (by kernel_rfl)
theorem r110_1 : Known Tryz.prog 110 [.string ⟨#[49]⟩, .string ⟨#[54]⟩] (.tuple #[.string ⟨#[55]⟩, .int .i64 0]) := row_known text_ok lst1_ok (n := 2000) (by kernel_rfl) (by kernel_rfl)
noncomputable def t110 : List (List Value × Value) := [([.string ⟨#[51]⟩, .string ⟨#[53]⟩], .tuple #[.string ⟨#[56]⟩, .int .i64 0]), ([.string ⟨#[49]⟩, .string ⟨#[54]⟩], .tuple #[.string ⟨#[55]⟩, .int .i64 0])]
theorem t110_ok : TabOk Tryz.prog 110 t110 := tab_cons r110_0 (by kernel_rfl) (tab_cons r110_1 (by kernel_rfl) (tab_nil))
/-! nat.Cmp -/
theorem r111_0 : Known Tryz.prog 111 [.string ⟨#[49]⟩, .string ⟨#[48]⟩] (.int .i64 1) := row_known text_ok lst1_ok (n := 2000) (by kernel_rfl) (by kernel_rfl)
theorem r111_1 : Known Tryz.prog 111 [.string ⟨#[48]⟩, .string ⟨#[48]⟩] (.int .i64 0) := row_known text_ok lst1_ok (n := 2000) (by kernel_rfl) (by kernel_rfl)
noncomputable def t111 : List (List Value × Value) := [([.string ⟨#[49]⟩, .string ⟨#[48]⟩], .int .i64 1), ([.string ⟨#[48]⟩, .string ⟨#[48]⟩], .int .i64 0)]
theorem t111_ok : TabOk Tryz.prog 111 t111 := tab_cons r111_0 (by kernel_rfl) (tab_cons r111_1 (by kernel_rfl) (tab_nil))
/-! nat.Sub -/
theorem r112_0 : Known Tryz.prog 112 [.string ⟨#[49]⟩, .string ⟨#[48]⟩] (.tuple #[.string ⟨#[49]⟩, .int .i64 0]) := row_known text_ok lst1_ok (n := 2000) (by kernel_rfl) (by kernel_rfl)
theorem r112_1 : Known Tryz.prog 112 [.string ⟨#[48]⟩, .string ⟨#[48]⟩] (.tuple #[.string ⟨#[48]⟩, .int .i64 0]) := row_known text_ok lst1_ok (n := 2000) (by kernel_rfl) (by kernel_rfl)
noncomputable def t112 : List (List Value × Value) := [([.string ⟨#[49]⟩, .string ⟨#[48]⟩], .tuple #[.string ⟨#[49]⟩, .int .i64 0]), ([.string ⟨#[48]⟩, .string ⟨#[48]⟩], .tuple #[.string ⟨#[48]⟩, .int .i64 0])]
theorem t112_ok : TabOk Tryz.prog 112 t112 := tab_cons r112_0 (by kernel_rfl) (tab_cons r112_1 (by kernel_rfl) (tab_nil))
/-! nat.Gcd -/
theorem r117_0 : Known Tryz.prog 117 [.string ⟨#[51]⟩, .string ⟨#[49]⟩] (.tuple #[.string ⟨#[49]⟩, .int .i64 0]) := row_known text_ok lst1_ok (n := 2000) (by kernel_rfl) (by kernel_rfl)
theorem r117_1 : Known Tryz.prog 117 [.string ⟨#[49]⟩, .string ⟨#[49]⟩] (.tuple #[.string ⟨#[49]⟩, .int .i64 0]) := row_known text_ok lst1_ok (n := 2000) (by kernel_rfl) (by kernel_rfl)
theorem r117_2 : Known Tryz.prog 117 [.string ⟨#[48]⟩, .string ⟨#[49]⟩] (.tuple #[.string ⟨#[49]⟩, .int .i64 0]) := row_known text_ok lst1_ok (n := 2000) (by kernel_rfl) (by kernel_rfl)
theorem r117_3 : Known Tryz.prog 117 [.string ⟨#[53]⟩, .string ⟨#[49]⟩] (.tuple #[.string ⟨#[49]⟩, .int .i64 0]) := row_known text_ok lst1_ok (n := 2000) (by kernel_rfl) (by kernel_rfl)
theorem r117_4 : Known Tryz.prog 117 [.string ⟨#[56]⟩, .string ⟨#[49]⟩] (.tuple #[.string ⟨#[49]⟩, .int .i64 0]) := row_known text_ok lst1_ok (n := 2000) (by kernel_rfl) (by kernel_rfl)
theorem r117_5 : Known Tryz.prog 117 [.string ⟨#[49]⟩, .string ⟨#[50]⟩] (.tuple #[.string ⟨#[49]⟩, .int .i64 0]) := row_known text_ok lst1_ok (n := 2000) (by kernel_rfl) (by kernel_rfl)
theorem r117_6 : Known Tryz.prog 117 [.string ⟨#[55]⟩, .string ⟨#[50]⟩] (.tuple #[.string ⟨#[49]⟩, .int .i64 0]) := row_known text_ok lst1_ok (n := 2000) (by kernel_rfl) (by kernel_rfl)
noncomputable def t117 : List (List Value × Value) := [([.string ⟨#[51]⟩, .string ⟨#[49]⟩], .tuple #[.string ⟨#[49]⟩, .int .i64 0]), ([.string ⟨#[49]⟩, .string ⟨#[49]⟩], .tuple #[.string ⟨#[49]⟩, .int .i64 0]), ([.string ⟨#[48]⟩, .string ⟨#[49]⟩], .tuple #[.string ⟨#[49]⟩, .int .i64 0]), ([.string ⟨#[53]⟩, .string ⟨#[49]⟩], .tuple #[.string ⟨#[49]⟩, .int .i64 0]), ([.string ⟨#[56]⟩, .string ⟨#[49]⟩], .tuple #[.string ⟨#[49]⟩, .int .i64 0]), ([.string ⟨#[49]⟩, .string ⟨#[50]⟩], .tuple #[.string ⟨#[49]⟩, .int .i64 0]), ([.string ⟨#[55]⟩, .string ⟨#[50]⟩], .tuple #[.string ⟨#[49]⟩, .int .i64 0])]
theorem t117_ok : TabOk Tryz.prog 117 t117 := tab_cons r117_0 (by kernel_rfl) (tab_cons r117_1 (by kernel_rfl) (tab_cons r117_2 (by kernel_rfl) (tab_cons r117_3 (by kernel_rfl) (tab_cons r117_4 (by kernel_rfl) (tab_cons r117_5 (by kernel_rfl) (tab_cons r117_6 (by kernel_rfl) (tab_nil)))))))
/-! abugidaref04.One -/
theorem r135_0 : Known Tryz.prog 135 [.int .i64 1] (.string ⟨#[48]⟩) := row_known text_ok lst1_ok (n := 2000) (by kernel_rfl) (by kernel_rfl)
theorem r135_1 : Known Tryz.prog 135 [.int .i64 2] (.string ⟨#[49]⟩) := row_known text_ok lst1_ok (n := 2000) (by kernel_rfl) (by kernel_rfl)
noncomputable def t135 : List (List Value × Value) := [([.int .i64 1], .string ⟨#[48]⟩), ([.int .i64 2], .string ⟨#[49]⟩)]
theorem t135_ok : TabOk Tryz.prog 135 t135 := tab_cons r135_0 (by kernel_rfl) (tab_cons r135_1 (by kernel_rfl) (tab_nil))
/-! nat.Div -/
theorem r144_0 : Known Tryz.prog 144 [.string ⟨#[56]⟩, .string ⟨#[49]⟩] (.tuple #[.string ⟨#[56]⟩, .string ⟨#[48]⟩, .int .i64 0]) := row_known text_ok lst1_ok (n := 2000) (by kernel_rfl) (by kernel_rfl)
theorem r144_1 : Known Tryz.prog 144 [.string ⟨#[49]⟩, .string ⟨#[49]⟩] (.tuple #[.string ⟨#[49]⟩, .string ⟨#[48]⟩, .int .i64 0]) := row_known text_ok lst1_ok (n := 2000) (by kernel_rfl) (by kernel_rfl)
theorem r144_2 : Known Tryz.prog 144 [.string ⟨#[55]⟩, .string ⟨#[49]⟩] (.tuple #[.string ⟨#[55]⟩, .string ⟨#[48]⟩, .int .i64 0]) := row_known text_ok lst1_ok (n := 2000) (by kernel_rfl) (by kernel_rfl)
theorem r144_3 : Known Tryz.prog 144 [.string ⟨#[50]⟩, .string ⟨#[49]⟩] (.tuple #[.string ⟨#[50]⟩, .string ⟨#[48]⟩, .int .i64 0]) := row_known text_ok lst1_ok (n := 2000) (by kernel_rfl) (by kernel_rfl)
noncomputable def t144 : List (List Value × Value) := [([.string ⟨#[56]⟩, .string ⟨#[49]⟩], .tuple #[.string ⟨#[56]⟩, .string ⟨#[48]⟩, .int .i64 0]), ([.string ⟨#[49]⟩, .string ⟨#[49]⟩], .tuple #[.string ⟨#[49]⟩, .string ⟨#[48]⟩, .int .i64 0]), ([.string ⟨#[55]⟩, .string ⟨#[49]⟩], .tuple #[.string ⟨#[55]⟩, .string ⟨#[48]⟩, .int .i64 0]), ([.string ⟨#[50]⟩, .string ⟨#[49]⟩], .tuple #[.string ⟨#[50]⟩, .string ⟨#[48]⟩, .int .i64 0])]
theorem t144_ok : TabOk Tryz.prog 144 t144 := tab_cons r144_0 (by kernel_rfl) (tab_cons r144_1 (by kernel_rfl) (tab_cons r144_2 (by kernel_rfl) (tab_cons r144_3 (by kernel_rfl) (tab_nil))))
/-! abugidaref02.Add -/
theorem r150_0 : Known Tryz.prog 150 [.string ⟨#[48]⟩, .string ⟨#[48]⟩] (.tuple #[.string ⟨#[48]⟩, .int .i64 0]) := row_known text_ok lst1_ok (n := 2000) (by kernel_rfl) (by kernel_rfl)
theorem r150_1 : Known Tryz.prog 150 [.string ⟨#[48]⟩, .string ⟨#[51]⟩] (.tuple #[.string ⟨#[51]⟩, .int .i64 0]) := row_known text_ok lst1_ok (n := 2000) (by kernel_rfl) (by kernel_rfl)
theorem r150_2 : Known Tryz.prog 150 [.string ⟨#[48]⟩, .string ⟨#[53]⟩] (.tuple #[.string ⟨#[53]⟩, .int .i64 0]) := row_known text_ok lst1_ok (n := 2000) (by kernel_rfl) (by kernel_rfl)
theorem r150_3 : Known Tryz.prog 150 [.string ⟨#[51]⟩, .string ⟨#[48]⟩] (.tuple #[.string ⟨#[51]⟩, .int .i64 0]) := row_known text_ok lst1_ok (n := 2000) (by kernel_rfl) (by kernel_rfl)
theorem r150_4 : Known Tryz.prog 150 [.string ⟨#[53]⟩, .string ⟨#[48]⟩] (.tuple #[.string ⟨#[53]⟩, .int .i64 0]) := row_known text_ok lst1_ok (n := 2000) (by kernel_rfl) (by kernel_rfl)
theorem r150_5 : Known Tryz.prog 150 [.string ⟨#[56]⟩, .string ⟨#[48]⟩] (.tuple #[.string ⟨#[56]⟩, .int .i64 0]) := row_known text_ok lst1_ok (n := 2000) (by kernel_rfl) (by kernel_rfl)
theorem r150_6 : Known Tryz.prog 150 [.string ⟨#[51]⟩, .string ⟨#[51]⟩] (.tuple #[.string ⟨#[54]⟩, .int .i64 0]) := row_known text_ok lst1_ok (n := 2000) (by kernel_rfl) (by kernel_rfl)
theorem r150_7 : Known Tryz.prog 150 [.string ⟨#[54]⟩, .string ⟨#[48]⟩] (.tuple #[.string ⟨#[54]⟩, .int .i64 0]) := row_known text_ok lst1_ok (n := 2000) (by kernel_rfl) (by kernel_rfl)
theorem r150_8 : Known Tryz.prog 150 [.string ⟨#[54]⟩, .string ⟨#[51]⟩] (.tuple #[.string ⟨#[57]⟩, .int .i64 0]) := row_known text_ok lst1_ok (n := 2000) (by kernel_rfl) (by kernel_rfl)
theorem r150_9 : Known Tryz.prog 150 [.string ⟨#[55]⟩, .string ⟨#[48]⟩] (.tuple #[.string ⟨#[55]⟩, .int .i64 0]) := row_known text_ok lst1_ok (n := 2000) (by kernel_rfl) (by kernel_rfl)
theorem r150_10 : Known Tryz.prog 150 [.string ⟨#[48]⟩, .string ⟨#[49]⟩] (.tuple #[.string ⟨#[49]⟩, .int .i64 0]) := row_known text_ok lst1_ok (n := 2000) (by kernel_rfl) (by kernel_rfl)
theorem r150_11 : Known Tryz.prog 150 [.string ⟨#[49]⟩, .string ⟨#[48]⟩] (.tuple #[.string ⟨#[49]⟩, .int .i64 0]) := row_known text_ok lst1_ok (n := 2000) (by kernel_rfl) (by kernel_rfl)
theorem r150_12 : Known Tryz.prog 150 [.string ⟨#[50]⟩, .string ⟨#[50]⟩] (.tuple #[.string ⟨#[52]⟩, .int .i64 0]) := row_known text_ok lst1_ok (n := 2000) (by kernel_rfl) (by kernel_rfl)
theorem r150_13 : Known Tryz.prog 150 [.string ⟨#[49]⟩, .string ⟨#[49]⟩] (.tuple #[.string ⟨#[50]⟩, .int .i64 0]) := row_known text_ok lst1_ok (n := 2000) (by kernel_rfl) (by kernel_rfl)
theorem r150_14 : Known Tryz.prog 150 [.string ⟨#[48]⟩, .string ⟨#[50]⟩] (.tuple #[.string ⟨#[50]⟩, .int .i64 0]) := row_known text_ok lst1_ok (n := 2000) (by kernel_rfl) (by kernel_rfl)
noncomputable def t150 : List (List Value × Value) := [([.string ⟨#[48]⟩, .string ⟨#[48]⟩], .tuple #[.string ⟨#[48]⟩, .int .i64 0]), ([.string ⟨#[48]⟩, .string ⟨#[51]⟩], .tuple #[.string ⟨#[51]⟩, .int .i64 0]), ([.string ⟨#[48]⟩, .string ⟨#[53]⟩], .tuple #[.string ⟨#[53]⟩, .int .i64 0]), ([.string ⟨#[51]⟩, .string ⟨#[48]⟩], .tuple #[.string ⟨#[51]⟩, .int .i64 0]), ([.string ⟨#[53]⟩, .string ⟨#[48]⟩], .tuple #[.string ⟨#[53]⟩, .int .i64 0]), ([.string ⟨#[56]⟩, .string ⟨#[48]⟩], .tuple #[.string ⟨#[56]⟩, .int .i64 0]), ([.string ⟨#[51]⟩, .string ⟨#[51]⟩], .tuple #[.string ⟨#[54]⟩, .int .i64 0]), ([.string ⟨#[54]⟩, .string ⟨#[48]⟩], .tuple #[.string ⟨#[54]⟩, .int .i64 0]), ([.string ⟨#[54]⟩, .string ⟨#[51]⟩], .tuple #[.string ⟨#[57]⟩, .int .i64 0]), ([.string ⟨#[55]⟩, .string ⟨#[48]⟩], .tuple #[.string ⟨#[55]⟩, .int .i64 0]), ([.string ⟨#[48]⟩, .string ⟨#[49]⟩], .tuple #[.string ⟨#[49]⟩, .int .i64 0]), ([.string ⟨#[49]⟩, .string ⟨#[48]⟩], .tuple #[.string ⟨#[49]⟩, .int .i64 0]), ([.string ⟨#[50]⟩, .string ⟨#[50]⟩], .tuple #[.string ⟨#[52]⟩, .int .i64 0]), ([.string ⟨#[49]⟩, .string ⟨#[49]⟩], .tuple #[.string ⟨#[50]⟩, .int .i64 0]), ([.string ⟨#[48]⟩, .string ⟨#[50]⟩], .tuple #[.string ⟨#[50]⟩, .int .i64 0])]
theorem t150_ok : TabOk Tryz.prog 150 t150 := tab_cons r150_0 (by kernel_rfl) (tab_cons r150_1 (by kernel_rfl) (tab_cons r150_2 (by kernel_rfl) (tab_cons r150_3 (by kernel_rfl) (tab_cons r150_4 (by kernel_rfl) (tab_cons r150_5 (by kernel_rfl) (tab_cons r150_6 (by kernel_rfl) (tab_cons r150_7 (by kernel_rfl) (tab_cons r150_8 (by kernel_rfl) (tab_cons r150_9 (by kernel_rfl) (tab_cons r150_10 (by kernel_rfl) (tab_cons r150_11 (by kernel_rfl) (tab_cons r150_12 (by kernel_rfl) (tab_cons r150_13 (by kernel_rfl) (tab_cons r150_14 (by kernel_rfl) (tab_nil)))))))))))))))
/-! abugidaref02.Cmp -/
theorem r151_0 : Known Tryz.prog 151 [.string ⟨#[53]⟩, .string ⟨#[51]⟩] (.int .i64 1) := row_known text_ok lst1_ok (n := 2000) (by kernel_rfl) (by kernel_rfl)
theorem r151_1 : Known Tryz.prog 151 [.string ⟨#[49]⟩, .string ⟨#[48]⟩] (.int .i64 1) := row_known text_ok lst1_ok (n := 2000) (by kernel_rfl) (by kernel_rfl)
theorem r151_2 : Known Tryz.prog 151 [.string ⟨#[48]⟩, .string ⟨#[48]⟩] (.int .i64 0) := row_known text_ok lst1_ok (n := 2000) (by kernel_rfl) (by kernel_rfl)
theorem r151_3 : Known Tryz.prog 151 [.string ⟨#[48]⟩, .string ⟨#[49]⟩] (.int .i64 (-1)) := row_known text_ok lst1_ok (n := 2000) (by kernel_rfl) (by kernel_rfl)
theorem r151_4 : Known Tryz.prog 151 [.string ⟨#[49]⟩, .string ⟨#[50]⟩] (.int .i64 (-1)) := row_known text_ok lst1_ok (n := 2000) (by kernel_rfl) (by kernel_rfl)
theorem r151_5 : Known Tryz.prog 151 [.string ⟨#[50]⟩, .string ⟨#[49]⟩] (.int .i64 1) := row_known text_ok lst1_ok (n := 2000) (by kernel_rfl) (by kernel_rfl)
theorem r151_6 : Known Tryz.prog 151 [.string ⟨#[50]⟩, .string ⟨#[48]⟩] (.int .i64 1) := row_known text_ok lst1_ok (n := 2000) (by kernel_rfl) (by kernel_rfl)
noncomputable def t151 : List (List Value × Value) := [([.string ⟨#[53]⟩, .string ⟨#[51]⟩], .int .i64 1), ([.string ⟨#[49]⟩, .string ⟨#[48]⟩], .int .i64 1), ([.string ⟨#[48]⟩, .string ⟨#[48]⟩], .int .i64 0), ([.string ⟨#[48]⟩, .string ⟨#[49]⟩], .int .i64 (-1)), ([.string ⟨#[49]⟩, .string ⟨#[50]⟩], .int .i64 (-1)), ([.string ⟨#[50]⟩, .string ⟨#[49]⟩], .int .i64 1), ([.string ⟨#[50]⟩, .string ⟨#[48]⟩], .int .i64 1)]
theorem t151_ok : TabOk Tryz.prog 151 t151 := tab_cons r151_0 (by kernel_rfl) (tab_cons r151_1 (by kernel_rfl) (tab_cons r151_2 (by kernel_rfl) (tab_cons r151_3 (by kernel_rfl) (tab_cons r151_4 (by kernel_rfl) (tab_cons r151_5 (by kernel_rfl) (tab_cons r151_6 (by kernel_rfl) (tab_nil)))))))
/-! abugidaref02.Sub -/
theorem r152_0 : Known Tryz.prog 152 [.string ⟨#[53]⟩, .string ⟨#[51]⟩] (.tuple #[.string ⟨#[50]⟩, .int .i64 0]) := row_known text_ok lst1_ok (n := 2000) (by kernel_rfl) (by kernel_rfl)
theorem r152_1 : Known Tryz.prog 152 [.string ⟨#[49]⟩, .string ⟨#[48]⟩] (.tuple #[.string ⟨#[49]⟩, .int .i64 0]) := row_known text_ok lst1_ok (n := 2000) (by kernel_rfl) (by kernel_rfl)
theorem r152_2 : Known Tryz.prog 152 [.string ⟨#[48]⟩, .string ⟨#[48]⟩] (.tuple #[.string ⟨#[48]⟩, .int .i64 0]) := row_known text_ok lst1_ok (n := 2000) (by kernel_rfl) (by kernel_rfl)
theorem r152_3 : Known Tryz.prog 152 [.string ⟨#[50]⟩, .string ⟨#[49]⟩] (.tuple #[.string ⟨#[49]⟩, .int .i64 0]) := row_known text_ok lst1_ok (n := 2000) (by kernel_rfl) (by kernel_rfl)
theorem r152_4 : Known Tryz.prog 152 [.string ⟨#[50]⟩, .string ⟨#[48]⟩] (.tuple #[.string ⟨#[50]⟩, .int .i64 0]) := row_known text_ok lst1_ok (n := 2000) (by kernel_rfl) (by kernel_rfl)
noncomputable def t152 : List (List Value × Value) := [([.string ⟨#[53]⟩, .string ⟨#[51]⟩], .tuple #[.string ⟨#[50]⟩, .int .i64 0]), ([.string ⟨#[49]⟩, .string ⟨#[48]⟩], .tuple #[.string ⟨#[49]⟩, .int .i64 0]), ([.string ⟨#[48]⟩, .string ⟨#[48]⟩], .tuple #[.string ⟨#[48]⟩, .int .i64 0]), ([.string ⟨#[50]⟩, .string ⟨#[49]⟩], .tuple #[.string ⟨#[49]⟩, .int .i64 0]), ([.string ⟨#[50]⟩, .string ⟨#[48]⟩], .tuple #[.string ⟨#[50]⟩, .int .i64 0])]
theorem t152_ok : TabOk Tryz.prog 152 t152 := tab_cons r152_0 (by kernel_rfl) (tab_cons r152_1 (by kernel_rfl) (tab_cons r152_2 (by kernel_rfl) (tab_cons r152_3 (by kernel_rfl) (tab_cons r152_4 (by kernel_rfl) (tab_nil)))))
/-! abugidaref02.Mul -/
theorem r153_0 : Known Tryz.prog 153 [.string ⟨#[48]⟩, .string ⟨#[49]⟩] (.tuple #[.string ⟨#[48]⟩, .int .i64 0]) := row_known text_ok lst1_ok (n := 2000) (by kernel_rfl) (by kernel_rfl)
theorem r153_1 : Known Tryz.prog 153 [.string ⟨#[49]⟩, .string ⟨#[49]⟩] (.tuple #[.string ⟨#[49]⟩, .int .i64 0]) := row_known text_ok lst1_ok (n := 2000) (by kernel_rfl) (by kernel_rfl)
theorem r153_2 : Known Tryz.prog 153 [.string ⟨#[51]⟩, .string ⟨#[49]⟩] (.tuple #[.string ⟨#[51]⟩, .int .i64 0]) := row_known text_ok lst1_ok (n := 2000) (by kernel_rfl) (by kernel_rfl)
theorem r153_3 : Known Tryz.prog 153 [.string ⟨#[53]⟩, .string ⟨#[49]⟩] (.tuple #[.string ⟨#[53]⟩, .int .i64 0]) := row_known text_ok lst1_ok (n := 2000) (by kernel_rfl) (by kernel_rfl)
theorem r153_4 : Known Tryz.prog 153 [.string ⟨#[56]⟩, .string ⟨#[49]⟩] (.tuple #[.string ⟨#[56]⟩, .int .i64 0]) := row_known text_ok lst1_ok (n := 2000) (by kernel_rfl) (by kernel_rfl)
theorem r153_5 : Known Tryz.prog 153 [.string ⟨#[54]⟩, .string ⟨#[49]⟩] (.tuple #[.string ⟨#[54]⟩, .int .i64 0]) := row_known text_ok lst1_ok (n := 2000) (by kernel_rfl) (by kernel_rfl)
theorem r153_6 : Known Tryz.prog 153 [.string ⟨#[55]⟩, .string ⟨#[49]⟩] (.tuple #[.string ⟨#[55]⟩, .int .i64 0]) := row_known text_ok lst1_ok (n := 2000) (by kernel_rfl) (by kernel_rfl)
theorem r153_7 : Known Tryz.prog 153 [.string ⟨#[48]⟩, .string ⟨#[50]⟩] (.tuple #[.string ⟨#[48]⟩, .int .i64 0]) := row_known text_ok lst1_ok (n := 2000) (by kernel_rfl) (by kernel_rfl)
theorem r153_8 : Known Tryz.prog 153 [.string ⟨#[50]⟩, .string ⟨#[49]⟩] (.tuple #[.string ⟨#[50]⟩, .int .i64 0]) := row_known text_ok lst1_ok (n := 2000) (by kernel_rfl) (by kernel_rfl)
theorem r153_9 : Known Tryz.prog 153 [.string ⟨#[49]⟩, .string ⟨#[50]⟩] (.tuple #[.string ⟨#[50]⟩, .int .i64 0]) := row_known text_ok lst1_ok (n := 2000) (by kernel_rfl) (by kernel_rfl)
theorem r153_10 : Known Tryz.prog 153 [.string ⟨#[50]⟩, .string ⟨#[50]⟩] (.tuple #[.string ⟨#[52]⟩, .int .i64 0]) := row_known text_ok lst1_ok (n := 2000) (by kernel_rfl) (by kernel_rfl)
noncomputable def t153 : List (List Value × Value) := [([.string ⟨#[48]⟩, .string ⟨#[49]⟩], .tuple #[.string ⟨#[48]⟩, .int .i64 0]), ([.string ⟨#[49]⟩, .string ⟨#[49]⟩], .tuple #[.string ⟨#[49]⟩, .int .i64 0]), ([.string ⟨#[51]⟩, .string ⟨#[49]⟩], .tuple #[.string ⟨#[51]⟩, .int .i64 0]), ([.string ⟨#[53]⟩, .string ⟨#[49]⟩], .tuple #[.string ⟨#[53]⟩, .int .i64 0]), ([.string ⟨#[56]⟩, .string ⟨#[49]⟩], .tuple #[.string ⟨#[56]⟩, .int .i64 0]), ([.string ⟨#[54]⟩, .string ⟨#[49]⟩], .tuple #[.string ⟨#[54]⟩, .int .i64 0]), ([.string ⟨#[55]⟩, .string ⟨#[49]⟩], .tuple #[.string ⟨#[55]⟩, .int .i64 0]), ([.string ⟨#[48]⟩, .string ⟨#[50]⟩], .tuple #[.string ⟨#[48]⟩, .int .i64 0]), ([.string ⟨#[50]⟩, .string ⟨#[49]⟩], .tuple #[.string ⟨#[50]⟩, .int .i64 0]), ([.string ⟨#[49]⟩, .string ⟨#[50]⟩], .tuple #[.string ⟨#[50]⟩, .int .i64 0]), ([.string ⟨#[50]⟩, .string ⟨#[50]⟩], .tuple #[.string ⟨#[52]⟩, .int .i64 0])]
theorem t153_ok : TabOk Tryz.prog 153 t153 := tab_cons r153_0 (by kernel_rfl) (tab_cons r153_1 (by kernel_rfl) (tab_cons r153_2 (by kernel_rfl) (tab_cons r153_3 (by kernel_rfl) (tab_cons r153_4 (by kernel_rfl) (tab_cons r153_5 (by kernel_rfl) (tab_cons r153_6 (by kernel_rfl) (tab_cons r153_7 (by kernel_rfl) (tab_cons r153_8 (by kernel_rfl) (tab_cons r153_9 (by kernel_rfl) (tab_cons r153_10 (by kernel_rfl) (tab_nil)))))))))))
/-! abugidaref02.Div -/
theorem r155_0 : Known Tryz.prog 155 [.string ⟨#[48]⟩, .string ⟨#[49]⟩] (.tuple #[.string ⟨#[48]⟩, .string ⟨#[48]⟩, .int .i64 0]) := row_known text_ok lst1_ok (n := 2000) (by kernel_rfl) (by kernel_rfl)
theorem r155_1 : Known Tryz.prog 155 [.string ⟨#[51]⟩, .string ⟨#[49]⟩] (.tuple #[.string ⟨#[51]⟩, .string ⟨#[48]⟩, .int .i64 0]) := row_known text_ok lst1_ok (n := 2000) (by kernel_rfl) (by kernel_rfl)
theorem r155_2 : Known Tryz.prog 155 [.string ⟨#[53]⟩, .string ⟨#[49]⟩] (.tuple #[.string ⟨#[53]⟩, .string ⟨#[48]⟩, .int .i64 0]) := row_known text_ok lst1_ok (n := 2000) (by kernel_rfl) (by kernel_rfl)
theorem r155_3 : Known Tryz.prog 155 [.string ⟨#[49]⟩, .string ⟨#[49]⟩] (.tuple #[.string ⟨#[49]⟩, .string ⟨#[48]⟩, .int .i64 0]) := row_known text_ok lst1_ok (n := 2000) (by kernel_rfl) (by kernel_rfl)
theorem r155_4 : Known Tryz.prog 155 [.string ⟨#[56]⟩, .string ⟨#[49]⟩] (.tuple #[.string ⟨#[56]⟩, .string ⟨#[48]⟩, .int .i64 0]) := row_known text_ok lst1_ok (n := 2000) (by kernel_rfl) (by kernel_rfl)
theorem r155_5 : Known Tryz.prog 155 [.string ⟨#[54]⟩, .string ⟨#[49]⟩] (.tuple #[.string ⟨#[54]⟩, .string ⟨#[48]⟩, .int .i64 0]) := row_known text_ok lst1_ok (n := 2000) (by kernel_rfl) (by kernel_rfl)
theorem r155_6 : Known Tryz.prog 155 [.string ⟨#[57]⟩, .string ⟨#[49]⟩] (.tuple #[.string ⟨#[57]⟩, .string ⟨#[48]⟩, .int .i64 0]) := row_known text_ok lst1_ok (n := 2000) (by kernel_rfl) (by kernel_rfl)
theorem r155_7 : Known Tryz.prog 155 [.string ⟨#[55]⟩, .string ⟨#[50]⟩] (.tuple #[.string ⟨#[51]⟩, .string ⟨#[49]⟩, .int .i64 0]) := row_known text_ok lst1_ok (n := 2000) (by kernel_rfl) (by kernel_rfl)
theorem r155_8 : Known Tryz.prog 155 [.string ⟨#[50]⟩, .string ⟨#[49]⟩] (.tuple #[.string ⟨#[50]⟩, .string ⟨#[48]⟩, .int .i64 0]) := row_known text_ok lst1_ok (n := 2000) (by kernel_rfl) (by kernel_rfl)
theorem r155_9 : Known Tryz.prog 155 [.string ⟨#[55]⟩, .string ⟨#[49]⟩] (.tuple #[.string ⟨#[55]⟩, .string ⟨#[48]⟩, .int .i64 0]) := row_known text_ok lst1_ok (n := 2000) (by kernel_rfl) (by kernel_rfl)
theorem r155_10 : Known Tryz.prog 155 [.string ⟨#[49]⟩, .string ⟨#[50]⟩] (.tuple #[.string ⟨#[48]⟩, .string ⟨#[49]⟩, .int .i64 0]) := row_known text_ok lst1_ok (n := 2000) (by kernel_rfl) (by kernel_rfl)
theorem r155_11 : Known Tryz.prog 155 [.string ⟨#[50]⟩, .string ⟨#[50]⟩] (.tuple #[.string ⟨#[49]⟩, .string ⟨#[48]⟩, .int .i64 0]) := row_known text_ok lst1_ok (n := 2000) (by kernel_rfl) (by kernel_rfl)
theorem r155_12 : Known Tryz.prog 155 [.string ⟨#[52]⟩, .string ⟨#[52]⟩] (.tuple #[.string ⟨#[49]⟩, .string ⟨#[48]⟩, .int .i64 0]) := row_known text_ok lst1_ok (n := 2000) (by kernel_rfl) (by kernel_rfl)
noncomputable def t155 : List (List Value × Value) := [([.string ⟨#[48]⟩, .string ⟨#[49]⟩], .tuple #[.string ⟨#[48]⟩, .string ⟨#[48]⟩, .int .i64 0]), ([.string ⟨#[51]⟩, .string ⟨#[49]⟩], .tuple #[.string ⟨#[51]⟩, .string ⟨#[48]⟩, .int .i64 0]), ([.string ⟨#[53]⟩, .string ⟨#[49]⟩], .tuple #[.string ⟨#[53]⟩, .string ⟨#[48]⟩, .int .i64 0]), ([.string ⟨#[49]⟩, .string ⟨#[49]⟩], .tuple #[.string ⟨#[49]⟩, .string ⟨#[48]⟩, .int .i64 0]), ([.string ⟨#[56]⟩, .string ⟨#[49]⟩], .tuple #[.string ⟨#[56]⟩, .string ⟨#[48]⟩, .int .i64 0]), ([.string ⟨#[54]⟩, .string ⟨#[49]⟩], .tuple #[.string ⟨#[54]⟩, .string ⟨#[48]⟩, .int .i64 0]), ([.string ⟨#[57]⟩, .string ⟨#[49]⟩], .tuple #[.string ⟨#[57]⟩, .string ⟨#[48]⟩, .int .i64 0]), ([.string ⟨#[55]⟩, .string ⟨#[50]⟩], .tuple #[.string ⟨#[51]⟩, .string ⟨#[49]⟩, .int .i64 0]), ([.string ⟨#[50]⟩, .string ⟨#[49]⟩], .tuple #[.string ⟨#[50]⟩, .string ⟨#[48]⟩, .int .i64 0]), ([.string ⟨#[55]⟩, .string ⟨#[49]⟩], .tuple #[.string ⟨#[55]⟩, .string ⟨#[48]⟩, .int .i64 0]), ([.string ⟨#[49]⟩, .string ⟨#[50]⟩], .tuple #[.string ⟨#[48]⟩, .string ⟨#[49]⟩, .int .i64 0]), ([.string ⟨#[50]⟩, .string ⟨#[50]⟩], .tuple #[.string ⟨#[49]⟩, .string ⟨#[48]⟩, .int .i64 0]), ([.string ⟨#[52]⟩, .string ⟨#[52]⟩], .tuple #[.string ⟨#[49]⟩, .string ⟨#[48]⟩, .int .i64 0])]
theorem t155_ok : TabOk Tryz.prog 155 t155 := tab_cons r155_0 (by kernel_rfl) (tab_cons r155_1 (by kernel_rfl) (tab_cons r155_2 (by kernel_rfl) (tab_cons r155_3 (by kernel_rfl) (tab_cons r155_4 (by kernel_rfl) (tab_cons r155_5 (by kernel_rfl) (tab_cons r155_6 (by kernel_rfl) (tab_cons r155_7 (by kernel_rfl) (tab_cons r155_8 (by kernel_rfl) (tab_cons r155_9 (by kernel_rfl) (tab_cons r155_10 (by kernel_rfl) (tab_cons r155_11 (by kernel_rfl) (tab_cons r155_12 (by kernel_rfl) (tab_nil)))))))))))))
noncomputable def lst2 : PList := (82, .memo t82) :: (89, .memo t89) :: (110, .memo t110) :: (111, .memo t111) :: (112, .memo t112) :: (117, .memo t117) :: (135, .memo t135) :: (144, .memo t144) :: (150, .memo t150) :: (151, .memo t151) :: (152, .memo t152) :: (153, .memo t153) :: (155, .memo t155) :: lst1
theorem lst2_ok : AllOk Tryz.prog noGl lst2 := allOk_memo t82_ok (allOk_memo t89_ok (allOk_memo t110_ok (allOk_memo t111_ok (allOk_memo t112_ok (allOk_memo t117_ok (allOk_memo t135_ok (allOk_memo t144_ok (allOk_memo t150_ok (allOk_memo t151_ok (allOk_memo t152_ok (allOk_memo t153_ok (allOk_memo t155_ok (lst1_ok)))))))))))))
/-! rat.parse -/
theorem r91_0 : Known Tryz.prog 91 [.string ⟨#[51]⟩] (.tuple #[.agg #[.bool false, .string ⟨#[51]⟩, .string ⟨#[49]⟩], .bool true]) := row_known text_ok lst2_ok (n := 2000) (by kernel_rfl) (by kernel_rfl)
theorem r91_1 : Known Tryz.prog 91 [.string ⟨#[49]⟩] (.tuple #[.agg #[.bool false, .string ⟨#[49]⟩, .string ⟨#[49]⟩], .bool true]) := row_known text_ok lst2_ok (n := 2000) (by kernel_rfl) (by kernel_rfl)
theorem r91_2 : Known Tryz.prog 91 [.string ⟨#[48]⟩] (.tuple #[.agg #[.bool false, .string ⟨#[48]⟩, .string ⟨#[49]⟩], .bool true]) := row_known text_ok lst2_ok (n := 2000) (by kernel_rfl) (by kernel_rfl)
theorem r91_3 : Known Tryz.prog 91 [.string ⟨#[105, 110, 102]⟩] (.tuple #[.agg #[.bool false, .string ⟨#[]⟩, .string ⟨#[]⟩], .bool false]) := row_known text_ok lst2_ok (n := 2000) (by kernel_rfl) (by kernel_rfl)
theorem r91_4 : Known Tryz.prog 91 [.string ⟨#[53]⟩] (.tuple #[.agg #[.bool false, .string ⟨#[53]⟩, .string ⟨#[49]⟩], .bool true]) := row_known text_ok lst2_ok (n := 2000) (by kernel_rfl) (by kernel_rfl)
theorem r91_5 : Known Tryz.prog 91 [.string ⟨#[49, 47, 50]⟩] (.tuple #[.agg #[.bool false, .string ⟨#[49]⟩, .string ⟨#[50]⟩], .bool true]) := row_known text_ok lst2_ok (n := 2000) (by kernel_rfl) (by kernel_rfl)
noncomputable def t91 : List (List Value × Value) := [([.string ⟨#[51]⟩], .tuple #[.agg #[.bool false, .string ⟨#[51]⟩, .string ⟨#[49]⟩], .bool true]), ([.string ⟨#[49]⟩], .tuple #[.agg #[.bool false, .string ⟨#[49]⟩, .string ⟨#[49]⟩], .bool true]), ([.string ⟨#[48]⟩], .tuple #[.agg #[.bool false, .string ⟨#[48]⟩, .string ⟨#[49]⟩], .bool true]), ([.string ⟨#[105, 110, 102]⟩], .tuple #[.agg #[.bool false, .string ⟨#[]⟩, .string ⟨#[]⟩], .bool false]), ([.string ⟨#[53]⟩], .tuple #[.agg #[.bool false, .string ⟨#[53]⟩, .string ⟨#[49]⟩], .bool true]), ([.string ⟨#[49, 47, 50]⟩], .tuple #[.agg #[.bool false, .string ⟨#[49]⟩, .string ⟨#[50]⟩], .bool true])]
theorem t91_ok : TabOk Tryz.prog 91 t91 := tab_cons r91_0 (by kernel_rfl) (tab_cons r91_1 (by kernel_rfl) (tab_cons r91_2 (by kernel_rfl) (tab_cons r91_3 (by kernel_rfl) (tab_cons r91_4 (by kernel_rfl) (tab_cons r91_5 (by kernel_rfl) (tab_nil))))))
/-! abugidaref02.Gcd -/
theorem r149_0 : Known Tryz.prog 149 [.string ⟨#[48]⟩, .string ⟨#[49]⟩] (.tuple #[.string ⟨#[49]⟩, .int .i64 0]) := row_known text_ok lst2_ok (n := 2000) (by kernel_rfl) (by kernel_rfl)
theorem r149_1 : Known Tryz.prog 149 [.string ⟨#[51]⟩, .string ⟨#[49]⟩] (.tuple #[.string ⟨#[49]⟩, .int .i64 0]) := row_known text_ok lst2_ok (n := 2000) (by kernel_rfl) (by kernel_rfl)
theorem r149_2 : Known Tryz.prog 149 [.string ⟨#[53]⟩, .string ⟨#[49]⟩] (.tuple #[.string ⟨#[49]⟩, .int .i64 0]) := row_known text_ok lst2_ok (n := 2000) (by kernel_rfl) (by kernel_rfl)
theorem r149_3 : Known Tryz.prog 149 [.string ⟨#[56]⟩, .string ⟨#[49]⟩] (.tuple #[.string ⟨#[49]⟩, .int .i64 0]) := row_known text_ok lst2_ok (n := 2000) (by kernel_rfl) (by kernel_rfl)
theorem r149_4 : Known Tryz.prog 149 [.string ⟨#[54]⟩, .string ⟨#[49]⟩] (.tuple #[.string ⟨#[49]⟩, .int .i64 0]) := row_known text_ok lst2_ok (n := 2000) (by kernel_rfl) (by kernel_rfl)
theorem r149_5 : Known Tryz.prog 149 [.string ⟨#[57]⟩, .string ⟨#[49]⟩] (.tuple #[.string ⟨#[49]⟩, .int .i64 0]) := row_known text_ok lst2_ok (n := 2000) (by kernel_rfl) (by kernel_rfl)
theorem r149_6 : Known Tryz.prog 149 [.string ⟨#[55]⟩, .string ⟨#[50]⟩] (.tuple #[.string ⟨#[49]⟩, .int .i64 0]) := row_known text_ok lst2_ok (n := 2000) (by kernel_rfl) (by kernel_rfl)
theorem r149_7 : Known Tryz.prog 149 [.string ⟨#[49]⟩, .string ⟨#[49]⟩] (.tuple #[.string ⟨#[49]⟩, .int .i64 0]) := row_known text_ok lst2_ok (n := 2000) (by kernel_rfl) (by kernel_rfl)
theorem r149_8 : Known Tryz.prog 149 [.string ⟨#[49]⟩, .string ⟨#[50]⟩] (.tuple #[.string ⟨#[49]⟩, .int .i64 0]) := row_known text_ok lst2_ok (n := 2000) (by kernel_rfl) (by kernel_rfl)
theorem r149_9 : Known Tryz.prog 149 [.string ⟨#[50]⟩, .string ⟨#[49]⟩] (.tuple #[.string ⟨#[49]⟩, .int .i64 0]) := row_known text_ok lst2_ok (n := 2000) (by kernel_rfl) (by kernel_rfl)
theorem r149_10 : Known Tryz.prog 149 [.string ⟨#[50]⟩, .string ⟨#[50]⟩] (.tuple #[.string ⟨#[50]⟩, .int .i64 0]) := row_known text_ok lst2_ok (n := 2000) (by kernel_rfl) (by kernel_rfl)
theorem r149_11 : Known Tryz.prog 149 [.string ⟨#[52]⟩, .string ⟨#[52]⟩] (.tuple #[.string ⟨#[52]⟩, .int .i64 0]) := row_known text_ok lst2_ok (n := 2000) (by kernel_rfl) (by kernel_rfl)
noncomputable def t149 : List (List Value × Value) := [([.string ⟨#[48]⟩, .string ⟨#[49]⟩], .tuple #[.string ⟨#[49]⟩, .int .i64 0]), ([.string ⟨#[51]⟩, .string ⟨#[49]⟩], .tuple #[.string ⟨#[49]⟩, .int .i64 0]), ([.string ⟨#[53]⟩, .string ⟨#[49]⟩], .tuple #[.string ⟨#[49]⟩, .int .i64 0]), ([.string ⟨#[56]⟩, .string ⟨#[49]⟩], .tuple #[.string ⟨#[49]⟩, .int .i64 0]), ([.string ⟨#[54]⟩, .string ⟨#[49]⟩], .tuple #[.string ⟨#[49]⟩, .int .i64 0]), ([.string ⟨#[57]⟩, .string ⟨#[49]⟩], .tuple #[.string ⟨#[49]⟩, .int .i64 0]), ([.string ⟨#[55]⟩, .string ⟨#[50]⟩], .tuple #[.string ⟨#[49]⟩, .int .i64 0]), ([.string ⟨#[49]⟩, .string ⟨#[49]⟩], .tuple #[.string ⟨#[49]⟩, .int .i64 0]), ([.string ⟨#[49]⟩, .string ⟨#[50]⟩], .tuple #[.string ⟨#[49]⟩, .int .i64 0]), ([.string ⟨#[50]⟩, .string ⟨#[49]⟩], .tuple #[.string ⟨#[49]⟩, .int .i64 0]), ([.string ⟨#[50]⟩, .string ⟨#[50]⟩], .tuple #[.string ⟨#[50]⟩, .int .i64 0]), ([.string ⟨#[52]⟩, .string ⟨#[52]⟩], .tuple #[.string ⟨#[52]⟩, .int .i64 0])]
theorem t149_ok : TabOk Tryz.prog 149 t149 := tab_cons r149_0 (by kernel_rfl) (tab_cons r149_1 (by kernel_rfl) (tab_cons r149_2 (by kernel_rfl) (tab_cons r149_3 (by kernel_rfl) (tab_cons r149_4 (by kernel_rfl) (tab_cons r149_5 (by kernel_rfl) (tab_cons r149_6 (by kernel_rfl) (tab_cons r149_7 (by kernel_rfl) (tab_cons r149_8 (by kernel_rfl) (tab_cons r149_9 (by kernel_rfl) (tab_cons r149_10 (by kernel_rfl) (tab_cons r149_11 (by kernel_rfl) (tab_nil))))))))))))
noncomputable def lst3 : PList := (91, .memo t91) :: (149, .memo t149) :: lst2
theorem lst3_ok : AllOk Tryz.prog noGl lst3 := allOk_memo t91_ok (allOk_memo t149_ok (lst2_ok))
end Go.Proofs.YtcngigfjdlgfbaaGreatDoor
