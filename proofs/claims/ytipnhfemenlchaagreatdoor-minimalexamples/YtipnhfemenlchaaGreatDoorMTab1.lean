/- Answers of the arithmetic at the values that the examples come to: from level 1 on. -/
import Derived.Test.YtipnhfemenlchaaGreatDoorMTabBase
namespace Go.Proofs.YtipnhfemenlchaaGreatDoor
open Go Go.Ab
/-! abugidaref04.Kind -/
theorem r22_0 : Known Tryz.prog 22 [.int .i64 1] (.bool true) := row_known text_ok lst0_ok (n := 2000) (by kernel_rfl) (by kernel_rfl)
noncomputable def t22 : List (List Value × Value) := [([.int .i64 1], .bool true)]
theorem t22_ok : TabOk Tryz.prog 22 t22 := tab_cons r22_0 (by kernel_rfl) (tab_nil)
/-! semi.One -/
theorem r30_0 : Known Tryz.prog 30 [.int .i64 1] (.string ⟨#[48]⟩) := row_known text_ok lst0_ok (n := 2000) (by kernel_rfl) (by kernel_rfl)
noncomputable def t30 : List (List Value × Value) := [([.int .i64 1], .string ⟨#[48]⟩)]
theorem t30_ok : TabOk Tryz.prog 30 t30 := tab_cons r30_0 (by kernel_rfl) (tab_nil)
/-! nat.Valid -/
theorem r123_0 : Known Tryz.prog 123 [.string ⟨#[49]⟩] (.bool true) := row_known text_ok lst0_ok (n := 2000) (by kernel_rfl) (by kernel_rfl)
theorem r123_1 : Known Tryz.prog 123 [.string ⟨#[50]⟩] (.bool true) := row_known text_ok lst0_ok (n := 2000) (by kernel_rfl) (by kernel_rfl)
theorem r123_2 : Known Tryz.prog 123 [.string ⟨#[53]⟩] (.bool true) := row_known text_ok lst0_ok (n := 2000) (by kernel_rfl) (by kernel_rfl)
theorem r123_3 : Known Tryz.prog 123 [.string ⟨#[48]⟩] (.bool true) := row_known text_ok lst0_ok (n := 2000) (by kernel_rfl) (by kernel_rfl)
theorem r123_4 : Known Tryz.prog 123 [.string ⟨#[52]⟩] (.bool true) := row_known text_ok lst0_ok (n := 2000) (by kernel_rfl) (by kernel_rfl)
theorem r123_5 : Known Tryz.prog 123 [.string ⟨#[54]⟩] (.bool true) := row_known text_ok lst0_ok (n := 2000) (by kernel_rfl) (by kernel_rfl)
theorem r123_6 : Known Tryz.prog 123 [.string ⟨#[49, 48]⟩] (.bool true) := row_known text_ok lst0_ok (n := 2000) (by kernel_rfl) (by kernel_rfl)
theorem r123_7 : Known Tryz.prog 123 [.string ⟨#[55]⟩] (.bool true) := row_known text_ok lst0_ok (n := 2000) (by kernel_rfl) (by kernel_rfl)
noncomputable def t123 : List (List Value × Value) := [([.string ⟨#[49]⟩], .bool true), ([.string ⟨#[50]⟩], .bool true), ([.string ⟨#[53]⟩], .bool true), ([.string ⟨#[48]⟩], .bool true), ([.string ⟨#[52]⟩], .bool true), ([.string ⟨#[54]⟩], .bool true), ([.string ⟨#[49, 48]⟩], .bool true), ([.string ⟨#[55]⟩], .bool true)]
theorem t123_ok : TabOk Tryz.prog 123 t123 := tab_cons r123_0 (by kernel_rfl) (tab_cons r123_1 (by kernel_rfl) (tab_cons r123_2 (by kernel_rfl) (tab_cons r123_3 (by kernel_rfl) (tab_cons r123_4 (by kernel_rfl) (tab_cons r123_5 (by kernel_rfl) (tab_cons r123_6 (by kernel_rfl) (tab_cons r123_7 (by kernel_rfl) (tab_nil))))))))
noncomputable def lst1 : PList := (22, .memo t22) :: (30, .memo t30) :: (123, .memo t123) :: lst0
theorem lst1_ok : AllOk Tryz.prog noGl lst1 := allOk_memo t22_ok (allOk_memo t30_ok (allOk_memo t123_ok (lst0_ok)))
/-! abugidaref04.One -/
theorem r23_0 : Known Tryz.prog 23 [.int .i64 1] (.string ⟨#[48]⟩) := row_known text_ok lst1_ok (n := 2000) (by kernel_rfl) (by kernel_rfl)
noncomputable def t23 : List (List Value × Value) := [([.int .i64 1], .string ⟨#[48]⟩)]
theorem t23_ok : TabOk Tryz.prog 23 t23 := tab_cons r23_0 (by kernel_rfl) (tab_nil)
/-! nat.Mul -/
theorem r83_0 : Known Tryz.prog 83 [.string ⟨#[48]⟩, .string ⟨#[49]⟩] (.tuple #[.string ⟨#[48]⟩, .int .i64 0]) := row_known text_ok lst1_ok (n := 2000) (by kernel_rfl) (by kernel_rfl)
theorem r83_1 : Known Tryz.prog 83 [.string ⟨#[52]⟩, .string ⟨#[49]⟩] (.tuple #[.string ⟨#[52]⟩, .int .i64 0]) := row_known text_ok lst1_ok (n := 2000) (by kernel_rfl) (by kernel_rfl)
theorem r83_2 : Known Tryz.prog 83 [.string ⟨#[49]⟩, .string ⟨#[49]⟩] (.tuple #[.string ⟨#[49]⟩, .int .i64 0]) := row_known text_ok lst1_ok (n := 2000) (by kernel_rfl) (by kernel_rfl)
theorem r83_3 : Known Tryz.prog 83 [.string ⟨#[50]⟩, .string ⟨#[49]⟩] (.tuple #[.string ⟨#[50]⟩, .int .i64 0]) := row_known text_ok lst1_ok (n := 2000) (by kernel_rfl) (by kernel_rfl)
theorem r83_4 : Known Tryz.prog 83 [.string ⟨#[54]⟩, .string ⟨#[49]⟩] (.tuple #[.string ⟨#[54]⟩, .int .i64 0]) := row_known text_ok lst1_ok (n := 2000) (by kernel_rfl) (by kernel_rfl)
theorem r83_5 : Known Tryz.prog 83 [.string ⟨#[53]⟩, .string ⟨#[49]⟩] (.tuple #[.string ⟨#[53]⟩, .int .i64 0]) := row_known text_ok lst1_ok (n := 2000) (by kernel_rfl) (by kernel_rfl)
theorem r83_6 : Known Tryz.prog 83 [.string ⟨#[49, 48]⟩, .string ⟨#[49]⟩] (.tuple #[.string ⟨#[49, 48]⟩, .int .i64 0]) := row_known text_ok lst1_ok (n := 2000) (by kernel_rfl) (by kernel_rfl)
noncomputable def t83 : List (List Value × Value) := [([.string ⟨#[48]⟩, .string ⟨#[49]⟩], .tuple #[.string ⟨#[48]⟩, .int .i64 0]), ([.string ⟨#[52]⟩, .string ⟨#[49]⟩], .tuple #[.string ⟨#[52]⟩, .int .i64 0]), ([.string ⟨#[49]⟩, .string ⟨#[49]⟩], .tuple #[.string ⟨#[49]⟩, .int .i64 0]), ([.string ⟨#[50]⟩, .string ⟨#[49]⟩], .tuple #[.string ⟨#[50]⟩, .int .i64 0]), ([.string ⟨#[54]⟩, .string ⟨#[49]⟩], .tuple #[.string ⟨#[54]⟩, .int .i64 0]), ([.string ⟨#[53]⟩, .string ⟨#[49]⟩], .tuple #[.string ⟨#[53]⟩, .int .i64 0]), ([.string ⟨#[49, 48]⟩, .string ⟨#[49]⟩], .tuple #[.string ⟨#[49, 48]⟩, .int .i64 0])]
theorem t83_ok : TabOk Tryz.prog 83 t83 := tab_cons r83_0 (by kernel_rfl) (tab_cons r83_1 (by kernel_rfl) (tab_cons r83_2 (by kernel_rfl) (tab_cons r83_3 (by kernel_rfl) (tab_cons r83_4 (by kernel_rfl) (tab_cons r83_5 (by kernel_rfl) (tab_cons r83_6 (by kernel_rfl) (tab_nil)))))))
/-! nat.Add -/
theorem r120_0 : Known Tryz.prog 120 [.string ⟨#[48]⟩, .string ⟨#[52]⟩] (.tuple #[.string ⟨#[52]⟩, .int .i64 0]) := row_known text_ok lst1_ok (n := 2000) (by kernel_rfl) (by kernel_rfl)
theorem r120_1 : Known Tryz.prog 120 [.string ⟨#[49]⟩, .string ⟨#[52]⟩] (.tuple #[.string ⟨#[53]⟩, .int .i64 0]) := row_known text_ok lst1_ok (n := 2000) (by kernel_rfl) (by kernel_rfl)
theorem r120_2 : Known Tryz.prog 120 [.string ⟨#[50]⟩, .string ⟨#[52]⟩] (.tuple #[.string ⟨#[54]⟩, .int .i64 0]) := row_known text_ok lst1_ok (n := 2000) (by kernel_rfl) (by kernel_rfl)
theorem r120_3 : Known Tryz.prog 120 [.string ⟨#[53]⟩, .string ⟨#[53]⟩] (.tuple #[.string ⟨#[49, 48]⟩, .int .i64 0]) := row_known text_ok lst1_ok (n := 2000) (by kernel_rfl) (by kernel_rfl)
theorem r120_4 : Known Tryz.prog 120 [.string ⟨#[49]⟩, .string ⟨#[54]⟩] (.tuple #[.string ⟨#[55]⟩, .int .i64 0]) := row_known text_ok lst1_ok (n := 2000) (by kernel_rfl) (by kernel_rfl)
noncomputable def t120 : List (List Value × Value) := [([.string ⟨#[48]⟩, .string ⟨#[52]⟩], .tuple #[.string ⟨#[52]⟩, .int .i64 0]), ([.string ⟨#[49]⟩, .string ⟨#[52]⟩], .tuple #[.string ⟨#[53]⟩, .int .i64 0]), ([.string ⟨#[50]⟩, .string ⟨#[52]⟩], .tuple #[.string ⟨#[54]⟩, .int .i64 0]), ([.string ⟨#[53]⟩, .string ⟨#[53]⟩], .tuple #[.string ⟨#[49, 48]⟩, .int .i64 0]), ([.string ⟨#[49]⟩, .string ⟨#[54]⟩], .tuple #[.string ⟨#[55]⟩, .int .i64 0])]
theorem t120_ok : TabOk Tryz.prog 120 t120 := tab_cons r120_0 (by kernel_rfl) (tab_cons r120_1 (by kernel_rfl) (tab_cons r120_2 (by kernel_rfl) (tab_cons r120_3 (by kernel_rfl) (tab_cons r120_4 (by kernel_rfl) (tab_nil)))))
/-! nat.Cmp -/
theorem r121_0 : Known Tryz.prog 121 [.string ⟨#[54]⟩, .string ⟨#[54]⟩] (.int .i64 0) := row_known text_ok lst1_ok (n := 2000) (by kernel_rfl) (by kernel_rfl)
theorem r121_1 : Known Tryz.prog 121 [.string ⟨#[49, 48]⟩, .string ⟨#[54]⟩] (.int .i64 1) := row_known text_ok lst1_ok (n := 2000) (by kernel_rfl) (by kernel_rfl)
theorem r121_2 : Known Tryz.prog 121 [.string ⟨#[52]⟩, .string ⟨#[52]⟩] (.int .i64 0) := row_known text_ok lst1_ok (n := 2000) (by kernel_rfl) (by kernel_rfl)
theorem r121_3 : Known Tryz.prog 121 [.string ⟨#[53]⟩, .string ⟨#[53]⟩] (.int .i64 0) := row_known text_ok lst1_ok (n := 2000) (by kernel_rfl) (by kernel_rfl)
noncomputable def t121 : List (List Value × Value) := [([.string ⟨#[54]⟩, .string ⟨#[54]⟩], .int .i64 0), ([.string ⟨#[49, 48]⟩, .string ⟨#[54]⟩], .int .i64 1), ([.string ⟨#[52]⟩, .string ⟨#[52]⟩], .int .i64 0), ([.string ⟨#[53]⟩, .string ⟨#[53]⟩], .int .i64 0)]
theorem t121_ok : TabOk Tryz.prog 121 t121 := tab_cons r121_0 (by kernel_rfl) (tab_cons r121_1 (by kernel_rfl) (tab_cons r121_2 (by kernel_rfl) (tab_cons r121_3 (by kernel_rfl) (tab_nil))))
/-! nat.Sub -/
theorem r122_0 : Known Tryz.prog 122 [.string ⟨#[54]⟩, .string ⟨#[54]⟩] (.tuple #[.string ⟨#[48]⟩, .int .i64 0]) := row_known text_ok lst1_ok (n := 2000) (by kernel_rfl) (by kernel_rfl)
theorem r122_1 : Known Tryz.prog 122 [.string ⟨#[49, 48]⟩, .string ⟨#[54]⟩] (.tuple #[.string ⟨#[52]⟩, .int .i64 0]) := row_known text_ok lst1_ok (n := 2000) (by kernel_rfl) (by kernel_rfl)
theorem r122_2 : Known Tryz.prog 122 [.string ⟨#[52]⟩, .string ⟨#[52]⟩] (.tuple #[.string ⟨#[48]⟩, .int .i64 0]) := row_known text_ok lst1_ok (n := 2000) (by kernel_rfl) (by kernel_rfl)
theorem r122_3 : Known Tryz.prog 122 [.string ⟨#[53]⟩, .string ⟨#[53]⟩] (.tuple #[.string ⟨#[48]⟩, .int .i64 0]) := row_known text_ok lst1_ok (n := 2000) (by kernel_rfl) (by kernel_rfl)
noncomputable def t122 : List (List Value × Value) := [([.string ⟨#[54]⟩, .string ⟨#[54]⟩], .tuple #[.string ⟨#[48]⟩, .int .i64 0]), ([.string ⟨#[49, 48]⟩, .string ⟨#[54]⟩], .tuple #[.string ⟨#[52]⟩, .int .i64 0]), ([.string ⟨#[52]⟩, .string ⟨#[52]⟩], .tuple #[.string ⟨#[48]⟩, .int .i64 0]), ([.string ⟨#[53]⟩, .string ⟨#[53]⟩], .tuple #[.string ⟨#[48]⟩, .int .i64 0])]
theorem t122_ok : TabOk Tryz.prog 122 t122 := tab_cons r122_0 (by kernel_rfl) (tab_cons r122_1 (by kernel_rfl) (tab_cons r122_2 (by kernel_rfl) (tab_cons r122_3 (by kernel_rfl) (tab_nil))))
/-! nat.Gcd -/
theorem r127_0 : Known Tryz.prog 127 [.string ⟨#[49]⟩, .string ⟨#[49]⟩] (.tuple #[.string ⟨#[49]⟩, .int .i64 0]) := row_known text_ok lst1_ok (n := 2000) (by kernel_rfl) (by kernel_rfl)
theorem r127_1 : Known Tryz.prog 127 [.string ⟨#[50]⟩, .string ⟨#[49]⟩] (.tuple #[.string ⟨#[49]⟩, .int .i64 0]) := row_known text_ok lst1_ok (n := 2000) (by kernel_rfl) (by kernel_rfl)
theorem r127_2 : Known Tryz.prog 127 [.string ⟨#[53]⟩, .string ⟨#[49]⟩] (.tuple #[.string ⟨#[49]⟩, .int .i64 0]) := row_known text_ok lst1_ok (n := 2000) (by kernel_rfl) (by kernel_rfl)
theorem r127_3 : Known Tryz.prog 127 [.string ⟨#[48]⟩, .string ⟨#[49]⟩] (.tuple #[.string ⟨#[49]⟩, .int .i64 0]) := row_known text_ok lst1_ok (n := 2000) (by kernel_rfl) (by kernel_rfl)
theorem r127_4 : Known Tryz.prog 127 [.string ⟨#[52]⟩, .string ⟨#[49]⟩] (.tuple #[.string ⟨#[49]⟩, .int .i64 0]) := row_known text_ok lst1_ok (n := 2000) (by kernel_rfl) (by kernel_rfl)
theorem r127_5 : Known Tryz.prog 127 [.string ⟨#[54]⟩, .string ⟨#[49]⟩] (.tuple #[.string ⟨#[49]⟩, .int .i64 0]) := row_known text_ok lst1_ok (n := 2000) (by kernel_rfl) (by kernel_rfl)
theorem r127_6 : Known Tryz.prog 127 [.string ⟨#[49, 48]⟩, .string ⟨#[49]⟩] (.tuple #[.string ⟨#[49]⟩, .int .i64 0]) := row_known text_ok lst1_ok (n := 2000) (by kernel_rfl) (by kernel_rfl)
theorem r127_7 : Known Tryz.prog 127 [.string ⟨#[55]⟩, .string ⟨#[49]⟩] (.tuple #[.string ⟨#[49]⟩, .int .i64 0]) := row_known text_ok lst1_ok (n := 2000) (by kernel_rfl) (by kernel_rfl)
noncomputable def t127 : List (List Value × Value) := [([.string ⟨#[49]⟩, .string ⟨#[49]⟩], .tuple #[.string ⟨#[49]⟩, .int .i64 0]), ([.string ⟨#[50]⟩, .string ⟨#[49]⟩], .tuple #[.string ⟨#[49]⟩, .int .i64 0]), ([.string ⟨#[53]⟩, .string ⟨#[49]⟩], .tuple #[.string ⟨#[49]⟩, .int .i64 0]), ([.string ⟨#[48]⟩, .string ⟨#[49]⟩], .tuple #[.string ⟨#[49]⟩, .int .i64 0]), ([.string ⟨#[52]⟩, .string ⟨#[49]⟩], .tuple #[.string ⟨#[49]⟩, .int .i64 0]), ([.string ⟨#[54]⟩, .string ⟨#[49]⟩], .tuple #[.string ⟨#[49]⟩, .int .i64 0]), ([.string ⟨#[49, 48]⟩, .string ⟨#[49]⟩], .tuple #[.string ⟨#[49]⟩, .int .i64 0]), ([.string ⟨#[55]⟩, .string ⟨#[49]⟩], .tuple #[.string ⟨#[49]⟩, .int .i64 0])]
theorem t127_ok : TabOk Tryz.prog 127 t127 := tab_cons r127_0 (by kernel_rfl) (tab_cons r127_1 (by kernel_rfl) (tab_cons r127_2 (by kernel_rfl) (tab_cons r127_3 (by kernel_rfl) (tab_cons r127_4 (by kernel_rfl) (tab_cons r127_5 (by kernel_rfl) (tab_cons r127_6 (by kernel_rfl) (tab_cons r127_7 (by kernel_rfl) (tab_nil))))))))
/-! nat.Div -/
theorem r151_0 : Known Tryz.prog 151 [.string ⟨#[52]⟩, .string ⟨#[49]⟩] (.tuple #[.string ⟨#[52]⟩, .string ⟨#[48]⟩, .int .i64 0]) := row_known text_ok lst1_ok (n := 2000) (by kernel_rfl) (by kernel_rfl)
theorem r151_1 : Known Tryz.prog 151 [.string ⟨#[49]⟩, .string ⟨#[49]⟩] (.tuple #[.string ⟨#[49]⟩, .string ⟨#[48]⟩, .int .i64 0]) := row_known text_ok lst1_ok (n := 2000) (by kernel_rfl) (by kernel_rfl)
theorem r151_2 : Known Tryz.prog 151 [.string ⟨#[53]⟩, .string ⟨#[49]⟩] (.tuple #[.string ⟨#[53]⟩, .string ⟨#[48]⟩, .int .i64 0]) := row_known text_ok lst1_ok (n := 2000) (by kernel_rfl) (by kernel_rfl)
theorem r151_3 : Known Tryz.prog 151 [.string ⟨#[54]⟩, .string ⟨#[49]⟩] (.tuple #[.string ⟨#[54]⟩, .string ⟨#[48]⟩, .int .i64 0]) := row_known text_ok lst1_ok (n := 2000) (by kernel_rfl) (by kernel_rfl)
theorem r151_4 : Known Tryz.prog 151 [.string ⟨#[48]⟩, .string ⟨#[49]⟩] (.tuple #[.string ⟨#[48]⟩, .string ⟨#[48]⟩, .int .i64 0]) := row_known text_ok lst1_ok (n := 2000) (by kernel_rfl) (by kernel_rfl)
theorem r151_5 : Known Tryz.prog 151 [.string ⟨#[49, 48]⟩, .string ⟨#[49]⟩] (.tuple #[.string ⟨#[49, 48]⟩, .string ⟨#[48]⟩, .int .i64 0]) := row_known text_ok lst1_ok (n := 2000) (by kernel_rfl) (by kernel_rfl)
theorem r151_6 : Known Tryz.prog 151 [.string ⟨#[55]⟩, .string ⟨#[49]⟩] (.tuple #[.string ⟨#[55]⟩, .string ⟨#[48]⟩, .int .i64 0]) := row_known text_ok lst1_ok (n := 2000) (by kernel_rfl) (by kernel_rfl)
noncomputable def t151 : List (List Value × Value) := [([.string ⟨#[52]⟩, .string ⟨#[49]⟩], .tuple #[.string ⟨#[52]⟩, .string ⟨#[48]⟩, .int .i64 0]), ([.string ⟨#[49]⟩, .string ⟨#[49]⟩], .tuple #[.string ⟨#[49]⟩, .string ⟨#[48]⟩, .int .i64 0]), ([.string ⟨#[53]⟩, .string ⟨#[49]⟩], .tuple #[.string ⟨#[53]⟩, .string ⟨#[48]⟩, .int .i64 0]), ([.string ⟨#[54]⟩, .string ⟨#[49]⟩], .tuple #[.string ⟨#[54]⟩, .string ⟨#[48]⟩, .int .i64 0]), ([.string ⟨#[48]⟩, .string ⟨#[49]⟩], .tuple #[.string ⟨#[48]⟩, .string ⟨#[48]⟩, .int .i64 0]), ([.string ⟨#[49, 48]⟩, .string ⟨#[49]⟩], .tuple #[.string ⟨#[49, 48]⟩, .string ⟨#[48]⟩, .int .i64 0]), ([.string ⟨#[55]⟩, .string ⟨#[49]⟩], .tuple #[.string ⟨#[55]⟩, .string ⟨#[48]⟩, .int .i64 0])]
theorem t151_ok : TabOk Tryz.prog 151 t151 := tab_cons r151_0 (by kernel_rfl) (tab_cons r151_1 (by kernel_rfl) (tab_cons r151_2 (by kernel_rfl) (tab_cons r151_3 (by kernel_rfl) (tab_cons r151_4 (by kernel_rfl) (tab_cons r151_5 (by kernel_rfl) (tab_cons r151_6 (by kernel_rfl) (tab_nil)))))))
noncomputable def lst2 : PList := (23, .memo t23) :: (83, .memo t83) :: (120, .memo t120) :: (121, .memo t121) :: (122, .memo t122) :: (127, .memo t127) :: (151, .memo t151) :: lst1
theorem lst2_ok : AllOk Tryz.prog noGl lst2 := allOk_memo t23_ok (allOk_memo t83_ok (allOk_memo t120_ok (allOk_memo t121_ok (allOk_memo t122_ok (allOk_memo t127_ok (allOk_memo t151_ok (lst1_ok)))))))
/-! rat.parse -/
theorem r117_0 : Known Tryz.prog 117 [.string ⟨#[49]⟩] (.tuple #[.agg #[.bool false, .string ⟨#[49]⟩, .string ⟨#[49]⟩], .bool true]) := row_known text_ok lst2_ok (n := 2000) (by kernel_rfl) (by kernel_rfl)
theorem r117_1 : Known Tryz.prog 117 [.string ⟨#[50]⟩] (.tuple #[.agg #[.bool false, .string ⟨#[50]⟩, .string ⟨#[49]⟩], .bool true]) := row_known text_ok lst2_ok (n := 2000) (by kernel_rfl) (by kernel_rfl)
theorem r117_2 : Known Tryz.prog 117 [.string ⟨#[53]⟩] (.tuple #[.agg #[.bool false, .string ⟨#[53]⟩, .string ⟨#[49]⟩], .bool true]) := row_known text_ok lst2_ok (n := 2000) (by kernel_rfl) (by kernel_rfl)
theorem r117_3 : Known Tryz.prog 117 [.string ⟨#[48]⟩] (.tuple #[.agg #[.bool false, .string ⟨#[48]⟩, .string ⟨#[49]⟩], .bool true]) := row_known text_ok lst2_ok (n := 2000) (by kernel_rfl) (by kernel_rfl)
theorem r117_4 : Known Tryz.prog 117 [.string ⟨#[52]⟩] (.tuple #[.agg #[.bool false, .string ⟨#[52]⟩, .string ⟨#[49]⟩], .bool true]) := row_known text_ok lst2_ok (n := 2000) (by kernel_rfl) (by kernel_rfl)
theorem r117_5 : Known Tryz.prog 117 [.string ⟨#[54]⟩] (.tuple #[.agg #[.bool false, .string ⟨#[54]⟩, .string ⟨#[49]⟩], .bool true]) := row_known text_ok lst2_ok (n := 2000) (by kernel_rfl) (by kernel_rfl)
theorem r117_6 : Known Tryz.prog 117 [.string ⟨#[49, 48]⟩] (.tuple #[.agg #[.bool false, .string ⟨#[49, 48]⟩, .string ⟨#[49]⟩], .bool true]) := row_known text_ok lst2_ok (n := 2000) (by kernel_rfl) (by kernel_rfl)
theorem r117_7 : Known Tryz.prog 117 [.string ⟨#[55]⟩] (.tuple #[.agg #[.bool false, .string ⟨#[55]⟩, .string ⟨#[49]⟩], .bool true]) := row_known text_ok lst2_ok (n := 2000) (by kernel_rfl) (by kernel_rfl)
noncomputable def t117 : List (List Value × Value) := [([.string ⟨#[49]⟩], .tuple #[.agg #[.bool false, .string ⟨#[49]⟩, .string ⟨#[49]⟩], .bool true]), ([.string ⟨#[50]⟩], .tuple #[.agg #[.bool false, .string ⟨#[50]⟩, .string ⟨#[49]⟩], .bool true]), ([.string ⟨#[53]⟩], .tuple #[.agg #[.bool false, .string ⟨#[53]⟩, .string ⟨#[49]⟩], .bool true]), ([.string ⟨#[48]⟩], .tuple #[.agg #[.bool false, .string ⟨#[48]⟩, .string ⟨#[49]⟩], .bool true]), ([.string ⟨#[52]⟩], .tuple #[.agg #[.bool false, .string ⟨#[52]⟩, .string ⟨#[49]⟩], .bool true]), ([.string ⟨#[54]⟩], .tuple #[.agg #[.bool false, .string ⟨#[54]⟩, .string ⟨#[49]⟩], .bool true]), ([.string ⟨#[49, 48]⟩], .tuple #[.agg #[.bool false, .string ⟨#[49, 48]⟩, .string ⟨#[49]⟩], .bool true]), ([.string ⟨#[55]⟩], .tuple #[.agg #[.bool false, .string ⟨#[55]⟩, .string ⟨#[49]⟩], .bool true])]
theorem t117_ok : TabOk Tryz.prog 117 t117 := tab_cons r117_0 (by kernel_rfl) (tab_cons r117_1 (by kernel_rfl) (tab_cons r117_2 (by kernel_rfl) (tab_cons r117_3 (by kernel_rfl) (tab_cons r117_4 (by kernel_rfl) (tab_cons r117_5 (by kernel_rfl) (tab_cons r117_6 (by kernel_rfl) (tab_cons r117_7 (by kernel_rfl) (tab_nil))))))))
noncomputable def lst3 : PList := (117, .memo t117) :: lst2
theorem lst3_ok : AllOk Tryz.prog noGl lst3 := allOk_memo t117_ok (lst2_ok)
/-! rat.Sub -/
theorem r54_0 : Known Tryz.prog 54 [.string ⟨#[54]⟩, .string ⟨#[54]⟩] (.tuple #[.string ⟨#[48]⟩, .int .i64 0]) := row_known text_ok lst3_ok (n := 2000) (by kernel_rfl) (by kernel_rfl)
theorem r54_1 : Known Tryz.prog 54 [.string ⟨#[49, 48]⟩, .string ⟨#[54]⟩] (.tuple #[.string ⟨#[52]⟩, .int .i64 0]) := row_known text_ok lst3_ok (n := 2000) (by kernel_rfl) (by kernel_rfl)
theorem r54_2 : Known Tryz.prog 54 [.string ⟨#[52]⟩, .string ⟨#[52]⟩] (.tuple #[.string ⟨#[48]⟩, .int .i64 0]) := row_known text_ok lst3_ok (n := 2000) (by kernel_rfl) (by kernel_rfl)
theorem r54_3 : Known Tryz.prog 54 [.string ⟨#[53]⟩, .string ⟨#[53]⟩] (.tuple #[.string ⟨#[48]⟩, .int .i64 0]) := row_known text_ok lst3_ok (n := 2000) (by kernel_rfl) (by kernel_rfl)
noncomputable def t54 : List (List Value × Value) := [([.string ⟨#[54]⟩, .string ⟨#[54]⟩], .tuple #[.string ⟨#[48]⟩, .int .i64 0]), ([.string ⟨#[49, 48]⟩, .string ⟨#[54]⟩], .tuple #[.string ⟨#[52]⟩, .int .i64 0]), ([.string ⟨#[52]⟩, .string ⟨#[52]⟩], .tuple #[.string ⟨#[48]⟩, .int .i64 0]), ([.string ⟨#[53]⟩, .string ⟨#[53]⟩], .tuple #[.string ⟨#[48]⟩, .int .i64 0])]
theorem t54_ok : TabOk Tryz.prog 54 t54 := tab_cons r54_0 (by kernel_rfl) (tab_cons r54_1 (by kernel_rfl) (tab_cons r54_2 (by kernel_rfl) (tab_cons r54_3 (by kernel_rfl) (tab_nil))))
/-! rat.Valid -/
theorem r85_0 : Known Tryz.prog 85 [.string ⟨#[49]⟩] (.bool true) := row_known text_ok lst3_ok (n := 2000) (by kernel_rfl) (by kernel_rfl)
theorem r85_1 : Known Tryz.prog 85 [.string ⟨#[50]⟩] (.bool true) := row_known text_ok lst3_ok (n := 2000) (by kernel_rfl) (by kernel_rfl)
theorem r85_2 : Known Tryz.prog 85 [.string ⟨#[53]⟩] (.bool true) := row_known text_ok lst3_ok (n := 2000) (by kernel_rfl) (by kernel_rfl)
theorem r85_3 : Known Tryz.prog 85 [.string ⟨#[48]⟩] (.bool true) := row_known text_ok lst3_ok (n := 2000) (by kernel_rfl) (by kernel_rfl)
theorem r85_4 : Known Tryz.prog 85 [.string ⟨#[52]⟩] (.bool true) := row_known text_ok lst3_ok (n := 2000) (by kernel_rfl) (by kernel_rfl)
theorem r85_5 : Known Tryz.prog 85 [.string ⟨#[54]⟩] (.bool true) := row_known text_ok lst3_ok (n := 2000) (by kernel_rfl) (by kernel_rfl)
theorem r85_6 : Known Tryz.prog 85 [.string ⟨#[49, 48]⟩] (.bool true) := row_known text_ok lst3_ok (n := 2000) (by kernel_rfl) (by kernel_rfl)
theorem r85_7 : Known Tryz.prog 85 [.string ⟨#[55]⟩] (.bool true) := row_known text_ok lst3_ok (n := 2000) (by kernel_rfl) (by kernel_rfl)
noncomputable def t85 : List (List Value × Value) := [([.string ⟨#[49]⟩], .bool true), ([.string ⟨#[50]⟩], .bool true), ([.string ⟨#[53]⟩], .bool true), ([.string ⟨#[48]⟩], .bool true), ([.string ⟨#[52]⟩], .bool true), ([.string ⟨#[54]⟩], .bool true), ([.string ⟨#[49, 48]⟩], .bool true), ([.string ⟨#[55]⟩], .bool true)]
theorem t85_ok : TabOk Tryz.prog 85 t85 := tab_cons r85_0 (by kernel_rfl) (tab_cons r85_1 (by kernel_rfl) (tab_cons r85_2 (by kernel_rfl) (tab_cons r85_3 (by kernel_rfl) (tab_cons r85_4 (by kernel_rfl) (tab_cons r85_5 (by kernel_rfl) (tab_cons r85_6 (by kernel_rfl) (tab_cons r85_7 (by kernel_rfl) (tab_nil))))))))
/-! rat.Add -/
theorem r97_0 : Known Tryz.prog 97 [.string ⟨#[48]⟩, .string ⟨#[52]⟩] (.tuple #[.string ⟨#[52]⟩, .int .i64 0]) := row_known text_ok lst3_ok (n := 2000) (by kernel_rfl) (by kernel_rfl)
theorem r97_1 : Known Tryz.prog 97 [.string ⟨#[49]⟩, .string ⟨#[52]⟩] (.tuple #[.string ⟨#[53]⟩, .int .i64 0]) := row_known text_ok lst3_ok (n := 2000) (by kernel_rfl) (by kernel_rfl)
theorem r97_2 : Known Tryz.prog 97 [.string ⟨#[50]⟩, .string ⟨#[52]⟩] (.tuple #[.string ⟨#[54]⟩, .int .i64 0]) := row_known text_ok lst3_ok (n := 2000) (by kernel_rfl) (by kernel_rfl)
theorem r97_3 : Known Tryz.prog 97 [.string ⟨#[53]⟩, .string ⟨#[53]⟩] (.tuple #[.string ⟨#[49, 48]⟩, .int .i64 0]) := row_known text_ok lst3_ok (n := 2000) (by kernel_rfl) (by kernel_rfl)
theorem r97_4 : Known Tryz.prog 97 [.string ⟨#[49]⟩, .string ⟨#[54]⟩] (.tuple #[.string ⟨#[55]⟩, .int .i64 0]) := row_known text_ok lst3_ok (n := 2000) (by kernel_rfl) (by kernel_rfl)
noncomputable def t97 : List (List Value × Value) := [([.string ⟨#[48]⟩, .string ⟨#[52]⟩], .tuple #[.string ⟨#[52]⟩, .int .i64 0]), ([.string ⟨#[49]⟩, .string ⟨#[52]⟩], .tuple #[.string ⟨#[53]⟩, .int .i64 0]), ([.string ⟨#[50]⟩, .string ⟨#[52]⟩], .tuple #[.string ⟨#[54]⟩, .int .i64 0]), ([.string ⟨#[53]⟩, .string ⟨#[53]⟩], .tuple #[.string ⟨#[49, 48]⟩, .int .i64 0]), ([.string ⟨#[49]⟩, .string ⟨#[54]⟩], .tuple #[.string ⟨#[55]⟩, .int .i64 0])]
theorem t97_ok : TabOk Tryz.prog 97 t97 := tab_cons r97_0 (by kernel_rfl) (tab_cons r97_1 (by kernel_rfl) (tab_cons r97_2 (by kernel_rfl) (tab_cons r97_3 (by kernel_rfl) (tab_cons r97_4 (by kernel_rfl) (tab_nil)))))
noncomputable def lst4 : PList := (54, .memo t54) :: (85, .memo t85) :: (97, .memo t97) :: lst3
theorem lst4_ok : AllOk Tryz.prog noGl lst4 := allOk_memo t54_ok (allOk_memo t85_ok (allOk_memo t97_ok (lst3_ok)))
/-! semi.Times -/
theorem r20_0 : Known Tryz.prog 20 [.int .i64 1, .string ⟨#[48]⟩, .string ⟨#[52]⟩] (.tuple #[.string ⟨#[52]⟩, .int .i64 0]) := row_known text_ok lst4_ok (n := 2000) (by kernel_rfl) (by kernel_rfl)
theorem r20_1 : Known Tryz.prog 20 [.int .i64 1, .string ⟨#[49]⟩, .string ⟨#[52]⟩] (.tuple #[.string ⟨#[53]⟩, .int .i64 0]) := row_known text_ok lst4_ok (n := 2000) (by kernel_rfl) (by kernel_rfl)
theorem r20_2 : Known Tryz.prog 20 [.int .i64 1, .string ⟨#[50]⟩, .string ⟨#[52]⟩] (.tuple #[.string ⟨#[54]⟩, .int .i64 0]) := row_known text_ok lst4_ok (n := 2000) (by kernel_rfl) (by kernel_rfl)
theorem r20_3 : Known Tryz.prog 20 [.int .i64 1, .string ⟨#[53]⟩, .string ⟨#[53]⟩] (.tuple #[.string ⟨#[49, 48]⟩, .int .i64 0]) := row_known text_ok lst4_ok (n := 2000) (by kernel_rfl) (by kernel_rfl)
theorem r20_4 : Known Tryz.prog 20 [.int .i64 1, .string ⟨#[49]⟩, .string ⟨#[54]⟩] (.tuple #[.string ⟨#[55]⟩, .int .i64 0]) := row_known text_ok lst4_ok (n := 2000) (by kernel_rfl) (by kernel_rfl)
noncomputable def t20 : List (List Value × Value) := [([.int .i64 1, .string ⟨#[48]⟩, .string ⟨#[52]⟩], .tuple #[.string ⟨#[52]⟩, .int .i64 0]), ([.int .i64 1, .string ⟨#[49]⟩, .string ⟨#[52]⟩], .tuple #[.string ⟨#[53]⟩, .int .i64 0]), ([.int .i64 1, .string ⟨#[50]⟩, .string ⟨#[52]⟩], .tuple #[.string ⟨#[54]⟩, .int .i64 0]), ([.int .i64 1, .string ⟨#[53]⟩, .string ⟨#[53]⟩], .tuple #[.string ⟨#[49, 48]⟩, .int .i64 0]), ([.int .i64 1, .string ⟨#[49]⟩, .string ⟨#[54]⟩], .tuple #[.string ⟨#[55]⟩, .int .i64 0])]
theorem t20_ok : TabOk Tryz.prog 20 t20 := tab_cons r20_0 (by kernel_rfl) (tab_cons r20_1 (by kernel_rfl) (tab_cons r20_2 (by kernel_rfl) (tab_cons r20_3 (by kernel_rfl) (tab_cons r20_4 (by kernel_rfl) (tab_nil)))))
/-! semi.Over -/
theorem r34_0 : Known Tryz.prog 34 [.int .i64 1, .string ⟨#[54]⟩, .string ⟨#[54]⟩] (.tuple #[.string ⟨#[48]⟩, .int .i64 0]) := row_known text_ok lst4_ok (n := 2000) (by kernel_rfl) (by kernel_rfl)
theorem r34_1 : Known Tryz.prog 34 [.int .i64 1, .string ⟨#[49, 48]⟩, .string ⟨#[54]⟩] (.tuple #[.string ⟨#[52]⟩, .int .i64 0]) := row_known text_ok lst4_ok (n := 2000) (by kernel_rfl) (by kernel_rfl)
theorem r34_2 : Known Tryz.prog 34 [.int .i64 1, .string ⟨#[52]⟩, .string ⟨#[52]⟩] (.tuple #[.string ⟨#[48]⟩, .int .i64 0]) := row_known text_ok lst4_ok (n := 2000) (by kernel_rfl) (by kernel_rfl)
theorem r34_3 : Known Tryz.prog 34 [.int .i64 1, .string ⟨#[53]⟩, .string ⟨#[53]⟩] (.tuple #[.string ⟨#[48]⟩, .int .i64 0]) := row_known text_ok lst4_ok (n := 2000) (by kernel_rfl) (by kernel_rfl)
noncomputable def t34 : List (List Value × Value) := [([.int .i64 1, .string ⟨#[54]⟩, .string ⟨#[54]⟩], .tuple #[.string ⟨#[48]⟩, .int .i64 0]), ([.int .i64 1, .string ⟨#[49, 48]⟩, .string ⟨#[54]⟩], .tuple #[.string ⟨#[52]⟩, .int .i64 0]), ([.int .i64 1, .string ⟨#[52]⟩, .string ⟨#[52]⟩], .tuple #[.string ⟨#[48]⟩, .int .i64 0]), ([.int .i64 1, .string ⟨#[53]⟩, .string ⟨#[53]⟩], .tuple #[.string ⟨#[48]⟩, .int .i64 0])]
theorem t34_ok : TabOk Tryz.prog 34 t34 := tab_cons r34_0 (by kernel_rfl) (tab_cons r34_1 (by kernel_rfl) (tab_cons r34_2 (by kernel_rfl) (tab_cons r34_3 (by kernel_rfl) (tab_nil))))
/-! semi.Weight -/
theorem r44_0 : Known Tryz.prog 44 [.int .i64 1, .string ⟨#[49]⟩] (.bool true) := row_known text_ok lst4_ok (n := 2000) (by kernel_rfl) (by kernel_rfl)
theorem r44_1 : Known Tryz.prog 44 [.int .i64 1, .string ⟨#[50]⟩] (.bool true) := row_known text_ok lst4_ok (n := 2000) (by kernel_rfl) (by kernel_rfl)
theorem r44_2 : Known Tryz.prog 44 [.int .i64 1, .string ⟨#[53]⟩] (.bool true) := row_known text_ok lst4_ok (n := 2000) (by kernel_rfl) (by kernel_rfl)
theorem r44_3 : Known Tryz.prog 44 [.int .i64 1, .string ⟨#[48]⟩] (.bool true) := row_known text_ok lst4_ok (n := 2000) (by kernel_rfl) (by kernel_rfl)
theorem r44_4 : Known Tryz.prog 44 [.int .i64 1, .string ⟨#[52]⟩] (.bool true) := row_known text_ok lst4_ok (n := 2000) (by kernel_rfl) (by kernel_rfl)
theorem r44_5 : Known Tryz.prog 44 [.int .i64 1, .string ⟨#[55]⟩] (.bool true) := row_known text_ok lst4_ok (n := 2000) (by kernel_rfl) (by kernel_rfl)
noncomputable def t44 : List (List Value × Value) := [([.int .i64 1, .string ⟨#[49]⟩], .bool true), ([.int .i64 1, .string ⟨#[50]⟩], .bool true), ([.int .i64 1, .string ⟨#[53]⟩], .bool true), ([.int .i64 1, .string ⟨#[48]⟩], .bool true), ([.int .i64 1, .string ⟨#[52]⟩], .bool true), ([.int .i64 1, .string ⟨#[55]⟩], .bool true)]
theorem t44_ok : TabOk Tryz.prog 44 t44 := tab_cons r44_0 (by kernel_rfl) (tab_cons r44_1 (by kernel_rfl) (tab_cons r44_2 (by kernel_rfl) (tab_cons r44_3 (by kernel_rfl) (tab_cons r44_4 (by kernel_rfl) (tab_cons r44_5 (by kernel_rfl) (tab_nil))))))
noncomputable def lst5 : PList := (20, .memo t20) :: (34, .memo t34) :: (44, .memo t44) :: lst4
theorem lst5_ok : AllOk Tryz.prog noGl lst5 := allOk_memo t20_ok (allOk_memo t34_ok (allOk_memo t44_ok (lst4_ok)))
end Go.Proofs.YtipnhfemenlchaaGreatDoor
