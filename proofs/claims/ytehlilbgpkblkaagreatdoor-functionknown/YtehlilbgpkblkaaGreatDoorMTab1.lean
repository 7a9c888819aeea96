/- Answers of the arithmetic at the values that the examples come to: from level 1 on. -/
import Derived.Test.YtehlilbgpkblkaaGreatDoorMTabBase
namespace Go.Proofs.YtehlilbgpkblkaaGreatDoor
open Go Go.Ab
/-! semi.One -/
theorem r15_0 : Known Tryz.prog 15 [.int .i64 3] (.string ⟨#[49]⟩) := row_known text_ok lst0_ok (n := 2000) (by kernel_rfl) (by kernel_rfl)
theorem r15_1 : Known Tryz.prog 15 [.int .i64 1] (.string ⟨#[48]⟩) := row_known text_ok lst0_ok (n := 2000) (by kernel_rfl) (by kernel_rfl)
noncomputable def t15 : List (List Value × Value) := [([.int .i64 3], .string ⟨#[49]⟩), ([.int .i64 1], .string ⟨#[48]⟩)]
theorem t15_ok : TabOk Tryz.prog 15 t15 := tab_cons r15_0 (by kernel_rfl) (tab_cons r15_1 (by kernel_rfl) (tab_nil))
/-! nat.Valid -/
theorem r110_0 : Known Tryz.prog 110 [.string ⟨#[48]⟩] (.bool true) := row_known text_ok lst0_ok (n := 2000) (by kernel_rfl) (by kernel_rfl)
theorem r110_1 : Known Tryz.prog 110 [.string ⟨#[49]⟩] (.bool true) := row_known text_ok lst0_ok (n := 2000) (by kernel_rfl) (by kernel_rfl)
noncomputable def t110 : List (List Value × Value) := [([.string ⟨#[48]⟩], .bool true), ([.string ⟨#[49]⟩], .bool true)]
theorem t110_ok : TabOk Tryz.prog 110 t110 := tab_cons r110_0 (by kernel_rfl) (tab_cons r110_1 (by kernel_rfl) (tab_nil))
noncomputable def lst1 : PList := (15, .memo t15) :: (110, .memo t110) :: lst0
theorem lst1_ok : AllOk Tryz.prog noGl lst1 := allOk_memo t15_ok (allOk_memo t110_ok (lst0_ok))
/-! nat.Mul -/
theorem r85_0 : Known Tryz.prog 85 [.string ⟨#[49]⟩, .string ⟨#[49]⟩] (.tuple #[.string ⟨#[49]⟩, .int .i64 0]) := row_known text_ok lst1_ok (n := 2000) (by kernel_rfl) (by kernel_rfl)
theorem r85_1 : Known Tryz.prog 85 [.string ⟨#[48]⟩, .string ⟨#[49]⟩] (.tuple #[.string ⟨#[48]⟩, .int .i64 0]) := row_known text_ok lst1_ok (n := 2000) (by kernel_rfl) (by kernel_rfl)
noncomputable def t85 : List (List Value × Value) := [([.string ⟨#[49]⟩, .string ⟨#[49]⟩], .tuple #[.string ⟨#[49]⟩, .int .i64 0]), ([.string ⟨#[48]⟩, .string ⟨#[49]⟩], .tuple #[.string ⟨#[48]⟩, .int .i64 0])]
theorem t85_ok : TabOk Tryz.prog 85 t85 := tab_cons r85_0 (by kernel_rfl) (tab_cons r85_1 (by kernel_rfl) (tab_nil))
/-! nat.Cmp -/
theorem r108_0 : Known Tryz.prog 108 [.string ⟨#[49]⟩, .string ⟨#[48]⟩] (.int .i64 1) := row_known text_ok lst1_ok (n := 2000) (by kernel_rfl) (by kernel_rfl)
noncomputable def t108 : List (List Value × Value) := [([.string ⟨#[49]⟩, .string ⟨#[48]⟩], .int .i64 1)]
theorem t108_ok : TabOk Tryz.prog 108 t108 := tab_cons r108_0 (by kernel_rfl) (tab_nil)
/-! nat.Sub -/
theorem r109_0 : Known Tryz.prog 109 [.string ⟨#[49]⟩, .string ⟨#[48]⟩] (.tuple #[.string ⟨#[49]⟩, .int .i64 0]) := row_known text_ok lst1_ok (n := 2000) (by kernel_rfl) (by kernel_rfl)
noncomputable def t109 : List (List Value × Value) := [([.string ⟨#[49]⟩, .string ⟨#[48]⟩], .tuple #[.string ⟨#[49]⟩, .int .i64 0])]
theorem t109_ok : TabOk Tryz.prog 109 t109 := tab_cons r109_0 (by kernel_rfl) (tab_nil)
/-! nat.Gcd -/
theorem r114_0 : Known Tryz.prog 114 [.string ⟨#[48]⟩, .string ⟨#[49]⟩] (.tuple #[.string ⟨#[49]⟩, .int .i64 0]) := row_known text_ok lst1_ok (n := 2000) (by kernel_rfl) (by kernel_rfl)
theorem r114_1 : Known Tryz.prog 114 [.string ⟨#[49]⟩, .string ⟨#[49]⟩] (.tuple #[.string ⟨#[49]⟩, .int .i64 0]) := row_known text_ok lst1_ok (n := 2000) (by kernel_rfl) (by kernel_rfl)
noncomputable def t114 : List (List Value × Value) := [([.string ⟨#[48]⟩, .string ⟨#[49]⟩], .tuple #[.string ⟨#[49]⟩, .int .i64 0]), ([.string ⟨#[49]⟩, .string ⟨#[49]⟩], .tuple #[.string ⟨#[49]⟩, .int .i64 0])]
theorem t114_ok : TabOk Tryz.prog 114 t114 := tab_cons r114_0 (by kernel_rfl) (tab_cons r114_1 (by kernel_rfl) (tab_nil))
noncomputable def lst2 : PList := (85, .memo t85) :: (108, .memo t108) :: (109, .memo t109) :: (114, .memo t114) :: lst1
theorem lst2_ok : AllOk Tryz.prog noGl lst2 := allOk_memo t85_ok (allOk_memo t108_ok (allOk_memo t109_ok (allOk_memo t114_ok (lst1_ok))))
/-! rat.parse -/
theorem r87_0 : Known Tryz.prog 87 [.string ⟨#[48]⟩] (.tuple #[.agg #[.bool false, .string ⟨#[48]⟩, .string ⟨#[49]⟩], .bool true]) := row_known text_ok lst2_ok (n := 2000) (by kernel_rfl) (by kernel_rfl)
theorem r87_1 : Known Tryz.prog 87 [.string ⟨#[49]⟩] (.tuple #[.agg #[.bool false, .string ⟨#[49]⟩, .string ⟨#[49]⟩], .bool true]) := row_known text_ok lst2_ok (n := 2000) (by kernel_rfl) (by kernel_rfl)
noncomputable def t87 : List (List Value × Value) := [([.string ⟨#[48]⟩], .tuple #[.agg #[.bool false, .string ⟨#[48]⟩, .string ⟨#[49]⟩], .bool true]), ([.string ⟨#[49]⟩], .tuple #[.agg #[.bool false, .string ⟨#[49]⟩, .string ⟨#[49]⟩], .bool true])]
theorem t87_ok : TabOk Tryz.prog 87 t87 := tab_cons r87_0 (by kernel_rfl) (tab_cons r87_1 (by kernel_rfl) (tab_nil))
noncomputable def lst3 : PList := (87, .memo t87) :: lst2
theorem lst3_ok : AllOk Tryz.prog noGl lst3 := allOk_memo t87_ok (lst2_ok)
/-! rat.Valid -/
theorem r68_0 : Known Tryz.prog 68 [.string ⟨#[48]⟩] (.bool true) := row_known text_ok lst3_ok (n := 2000) (by kernel_rfl) (by kernel_rfl)
theorem r68_1 : Known Tryz.prog 68 [.string ⟨#[49]⟩] (.bool true) := row_known text_ok lst3_ok (n := 2000) (by kernel_rfl) (by kernel_rfl)
noncomputable def t68 : List (List Value × Value) := [([.string ⟨#[48]⟩], .bool true), ([.string ⟨#[49]⟩], .bool true)]
theorem t68_ok : TabOk Tryz.prog 68 t68 := tab_cons r68_0 (by kernel_rfl) (tab_cons r68_1 (by kernel_rfl) (tab_nil))
/-! rat.Cmp -/
theorem r91_0 : Known Tryz.prog 91 [.string ⟨#[49]⟩, .string ⟨#[48]⟩] (.int .i64 1) := row_known text_ok lst3_ok (n := 2000) (by kernel_rfl) (by kernel_rfl)
noncomputable def t91 : List (List Value × Value) := [([.string ⟨#[49]⟩, .string ⟨#[48]⟩], .int .i64 1)]
theorem t91_ok : TabOk Tryz.prog 91 t91 := tab_cons r91_0 (by kernel_rfl) (tab_nil)
noncomputable def lst4 : PList := (68, .memo t68) :: (91, .memo t91) :: lst3
theorem lst4_ok : AllOk Tryz.prog noGl lst4 := allOk_memo t68_ok (allOk_memo t91_ok (lst3_ok))
/-! semi.positive -/
theorem r73_0 : Known Tryz.prog 73 [.string ⟨#[49]⟩] (.bool true) := row_known text_ok lst4_ok (n := 2000) (by kernel_rfl) (by kernel_rfl)
noncomputable def t73 : List (List Value × Value) := [([.string ⟨#[49]⟩], .bool true)]
theorem t73_ok : TabOk Tryz.prog 73 t73 := tab_cons r73_0 (by kernel_rfl) (tab_nil)
noncomputable def lst5 : PList := (73, .memo t73) :: lst4
theorem lst5_ok : AllOk Tryz.prog noGl lst5 := allOk_memo t73_ok (lst4_ok)
/-! semi.Weight -/
theorem r48_0 : Known Tryz.prog 48 [.int .i64 1, .string ⟨#[48]⟩] (.bool true) := row_known text_ok lst5_ok (n := 2000) (by kernel_rfl) (by kernel_rfl)
theorem r48_1 : Known Tryz.prog 48 [.int .i64 3, .string ⟨#[49]⟩] (.bool true) := row_known text_ok lst5_ok (n := 2000) (by kernel_rfl) (by kernel_rfl)
noncomputable def t48 : List (List Value × Value) := [([.int .i64 1, .string ⟨#[48]⟩], .bool true), ([.int .i64 3, .string ⟨#[49]⟩], .bool true)]
theorem t48_ok : TabOk Tryz.prog 48 t48 := tab_cons r48_0 (by kernel_rfl) (tab_cons r48_1 (by kernel_rfl) (tab_nil))
noncomputable def lst6 : PList := (48, .memo t48) :: lst5
theorem lst6_ok : AllOk Tryz.prog noGl lst6 := allOk_memo t48_ok (lst5_ok)
end Go.Proofs.YtehlilbgpkblkaaGreatDoor
