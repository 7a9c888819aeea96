/-
  DERIVED. GIVEN WITH THE SEED: THE CARDS: each row of YtnlccnpbjeiccaaGreatDoorRows.lean that lists a variable, with what it lists TIED to the program's text (the seventh form; the later family's looks); each row that meets fmt, with fmt's text TOLD by the authors' own Lean function (tested against real Go, not proved from fmt's source: count such statements apart). THE CARD IS WHAT COUNTS. Prove the row's statement (the work); the ties are given (YtnlccnpbjeiccaaGreatDoorTie.lean); close each card by the builder's one call (the guide's Derived/Test/ToyasCard.lean, 'card_holds'). Laid BY PROGRAM, IN A SANDBOX (cutbox-door.mjs). By AI agents, Wed Nov 11 2026. No macro, syntax, notation, axiom, sorry.
-/
import Derived.Test.YtnlccnpbjeiccaaGreatDoorRows
import GoSem.ClaimSeven
namespace Go.Proofs.YtnlccnpbjeiccaaGreatDoor
namespace Rows

/-- THE TIED CARD OF 'abugidalaw17.FunctionDecides'. -/
def functionDecidesCard : Claim7 := { stood := { row := functionDecidesRow, standIns := [], harness := (true, "ff3441c17bcda657332785e9cffc769a5e1afd95a52b44779d36b3cd125930a8"), looks := true }, kinds := [], alts := [], laidByText := true, laidKinds := [.data, .data, .data], laidTests := true, laidLooks := .later }
def FunctionDecidesCardSaid : Prop := Claim7.holds Tryz.pinned (.plain (OpenSpec.ofChange functionDecidesSpec)) functionDecidesCard

/-- THE TIED CARD OF 'abugidalaw17.FunctionSingle'. -/
def functionSingleCard : Claim7 := { stood := { row := functionSingleRow, standIns := [], harness := (true, "ff3441c17bcda657332785e9cffc769a5e1afd95a52b44779d36b3cd125930a8"), looks := true }, kinds := [], alts := [], laidByText := true, laidKinds := [.data, .data, .data], laidTests := true, laidLooks := .later }
def FunctionSingleCardSaid : Prop := Claim7.holds Tryz.pinned (.plain (OpenSpec.ofChange functionSingleSpec)) functionSingleCard

/-- THE TIED CARD OF 'abugidalaw17.FunctionSame'. -/
def functionSameCard : Claim7 := { stood := { row := functionSameRow, standIns := [], harness := (true, "ff3441c17bcda657332785e9cffc769a5e1afd95a52b44779d36b3cd125930a8"), looks := true }, kinds := [], alts := [], laidByText := true, laidKinds := [.data, .data, .data], laidTests := true, laidLooks := .later }
def FunctionSameCardSaid : Prop := Claim7.holds Tryz.pinned (.plain (OpenSpec.ofChange functionSameSpec)) functionSameCard

/-- THE TIED CARD OF 'abugidalaw17.FunctionSure'. -/
def functionSureCard : Claim7 := { stood := { row := functionSureRow, standIns := [], harness := (true, "ff3441c17bcda657332785e9cffc769a5e1afd95a52b44779d36b3cd125930a8"), looks := true }, kinds := [], alts := [], laidByText := true, laidKinds := [.data, .data, .data], laidTests := true, laidLooks := .later }
def FunctionSureCardSaid : Prop := Claim7.holds Tryz.pinned (.plain (OpenSpec.ofChange functionSureSpec)) functionSureCard

/-- THE TIED CARD OF 'abugidalaw17.FunctionLess'. -/
def functionLessCard : Claim7 := { stood := { row := functionLessRow, standIns := [], harness := (true, "ff3441c17bcda657332785e9cffc769a5e1afd95a52b44779d36b3cd125930a8"), looks := true }, kinds := [], alts := [], laidByText := true, laidKinds := [.data, .data, .data], laidTests := true, laidLooks := .later }
def FunctionLessCardSaid : Prop := Claim7.holds Tryz.pinned (.plain (OpenSpec.ofChange functionLessSpec)) functionLessCard

/-- THE TIED CARD OF 'abugidalaw17.FunctionCounts'. -/
def functionCountsCard : Claim7 := { stood := { row := functionCountsRow, standIns := [], harness := (true, "ff3441c17bcda657332785e9cffc769a5e1afd95a52b44779d36b3cd125930a8"), looks := true }, kinds := [], alts := [], laidByText := true, laidKinds := [.data, .data, .data], laidTests := true, laidLooks := .later }
def FunctionCountsCardSaid : Prop := Claim7.holds Tryz.pinned (.plain (OpenSpec.ofChange functionCountsSpec)) functionCountsCard

/-- THE TIED CARD OF 'abugidalaw17.FunctionPaths'. -/
def functionPathsCard : Claim7 := { stood := { row := functionPathsRow, standIns := [], harness := (true, "ff3441c17bcda657332785e9cffc769a5e1afd95a52b44779d36b3cd125930a8"), looks := true }, kinds := [], alts := [], laidByText := true, laidKinds := [.data, .data, .data], laidTests := true, laidLooks := .later }
def FunctionPathsCardSaid : Prop := Claim7.holds Tryz.pinned (.plain (OpenSpec.ofChange functionPathsSpec)) functionPathsCard

/-- THE TIED CARD OF 'abugidalaw17.FunctionPairs'. -/
def functionPairsCard : Claim7 := { stood := { row := functionPairsRow, standIns := [], harness := (true, "ff3441c17bcda657332785e9cffc769a5e1afd95a52b44779d36b3cd125930a8"), looks := true }, kinds := [], alts := [], laidByText := true, laidKinds := [.data, .data, .data], laidTests := true, laidLooks := .later }
def FunctionPairsCardSaid : Prop := Claim7.holds Tryz.pinned (.plain (OpenSpec.ofChange functionPairsSpec)) functionPairsCard

/-- THE TIED CARD OF 'abugidalaw17.FunctionItself'. -/
def functionItselfCard : Claim7 := { stood := { row := functionItselfRow, standIns := [], harness := (true, "ff3441c17bcda657332785e9cffc769a5e1afd95a52b44779d36b3cd125930a8"), looks := true }, kinds := [], alts := [], laidByText := true, laidKinds := [.data, .data, .data], laidTests := true, laidLooks := .later }
def FunctionItselfCardSaid : Prop := Claim7.holds Tryz.pinned (.plain (OpenSpec.ofChange functionItselfSpec)) functionItselfCard

/-- THE SECOND FORM's CARD OF 'abugidalaw17.FunctionDecides'. -/
def functionDecidesUptoCard : Claim7 := { stood := { row := functionDecidesUptoRow, standIns := [], harness := (true, "ff3441c17bcda657332785e9cffc769a5e1afd95a52b44779d36b3cd125930a8"), looks := true }, kinds := [], alts := [], laidByText := true, laidKinds := [.data, .data, .data], laidTests := true, laidLooks := .later }
def FunctionDecidesUptoCardSaid : Prop := Claim7.holds Tryz.pinned (.plain (OpenSpec.upto functionDecidesSpec)) functionDecidesUptoCard

/-- THE SECOND FORM's CARD OF 'abugidalaw17.FunctionSingle'. -/
def functionSingleUptoCard : Claim7 := { stood := { row := functionSingleUptoRow, standIns := [], harness := (true, "ff3441c17bcda657332785e9cffc769a5e1afd95a52b44779d36b3cd125930a8"), looks := true }, kinds := [], alts := [], laidByText := true, laidKinds := [.data, .data, .data], laidTests := true, laidLooks := .later }
def FunctionSingleUptoCardSaid : Prop := Claim7.holds Tryz.pinned (.plain (OpenSpec.upto functionSingleSpec)) functionSingleUptoCard

/-- THE SECOND FORM's CARD OF 'abugidalaw17.FunctionSame'. -/
def functionSameUptoCard : Claim7 := { stood := { row := functionSameUptoRow, standIns := [], harness := (true, "ff3441c17bcda657332785e9cffc769a5e1afd95a52b44779d36b3cd125930a8"), looks := true }, kinds := [], alts := [], laidByText := true, laidKinds := [.data, .data, .data], laidTests := true, laidLooks := .later }
def FunctionSameUptoCardSaid : Prop := Claim7.holds Tryz.pinned (.plain (OpenSpec.upto functionSameSpec)) functionSameUptoCard

/-- THE SECOND FORM's CARD OF 'abugidalaw17.FunctionSure'. -/
def functionSureUptoCard : Claim7 := { stood := { row := functionSureUptoRow, standIns := [], harness := (true, "ff3441c17bcda657332785e9cffc769a5e1afd95a52b44779d36b3cd125930a8"), looks := true }, kinds := [], alts := [], laidByText := true, laidKinds := [.data, .data, .data], laidTests := true, laidLooks := .later }
def FunctionSureUptoCardSaid : Prop := Claim7.holds Tryz.pinned (.plain (OpenSpec.upto functionSureSpec)) functionSureUptoCard

/-- THE SECOND FORM's CARD OF 'abugidalaw17.FunctionLess'. -/
def functionLessUptoCard : Claim7 := { stood := { row := functionLessUptoRow, standIns := [], harness := (true, "ff3441c17bcda657332785e9cffc769a5e1afd95a52b44779d36b3cd125930a8"), looks := true }, kinds := [], alts := [], laidByText := true, laidKinds := [.data, .data, .data], laidTests := true, laidLooks := .later }
def FunctionLessUptoCardSaid : Prop := Claim7.holds Tryz.pinned (.plain (OpenSpec.upto functionLessSpec)) functionLessUptoCard

/-- THE SECOND FORM's CARD OF 'abugidalaw17.FunctionCounts'. -/
def functionCountsUptoCard : Claim7 := { stood := { row := functionCountsUptoRow, standIns := [], harness := (true, "ff3441c17bcda657332785e9cffc769a5e1afd95a52b44779d36b3cd125930a8"), looks := true }, kinds := [], alts := [], laidByText := true, laidKinds := [.data, .data, .data], laidTests := true, laidLooks := .later }
def FunctionCountsUptoCardSaid : Prop := Claim7.holds Tryz.pinned (.plain (OpenSpec.upto functionCountsSpec)) functionCountsUptoCard

/-- THE SECOND FORM's CARD OF 'abugidalaw17.FunctionPaths'. -/
def functionPathsUptoCard : Claim7 := { stood := { row := functionPathsUptoRow, standIns := [], harness := (true, "ff3441c17bcda657332785e9cffc769a5e1afd95a52b44779d36b3cd125930a8"), looks := true }, kinds := [], alts := [], laidByText := true, laidKinds := [.data, .data, .data], laidTests := true, laidLooks := .later }
def FunctionPathsUptoCardSaid : Prop := Claim7.holds Tryz.pinned (.plain (OpenSpec.upto functionPathsSpec)) functionPathsUptoCard

/-- THE SECOND FORM's CARD OF 'abugidalaw17.FunctionPairs'. -/
def functionPairsUptoCard : Claim7 := { stood := { row := functionPairsUptoRow, standIns := [], harness := (true, "ff3441c17bcda657332785e9cffc769a5e1afd95a52b44779d36b3cd125930a8"), looks := true }, kinds := [], alts := [], laidByText := true, laidKinds := [.data, .data, .data], laidTests := true, laidLooks := .later }
def FunctionPairsUptoCardSaid : Prop := Claim7.holds Tryz.pinned (.plain (OpenSpec.upto functionPairsSpec)) functionPairsUptoCard

/-- THE SECOND FORM's CARD OF 'abugidalaw17.FunctionItself'. -/
def functionItselfUptoCard : Claim7 := { stood := { row := functionItselfUptoRow, standIns := [], harness := (true, "ff3441c17bcda657332785e9cffc769a5e1afd95a52b44779d36b3cd125930a8"), looks := true }, kinds := [], alts := [], laidByText := true, laidKinds := [.data, .data, .data], laidTests := true, laidLooks := .later }
def FunctionItselfUptoCardSaid : Prop := Claim7.holds Tryz.pinned (.plain (OpenSpec.upto functionItselfSpec)) functionItselfUptoCard
end Rows
end Go.Proofs.YtnlccnpbjeiccaaGreatDoor
