/-
  DERIVED. GIVEN WITH THE SEED: THE CARDS: each row of YtcngigfjdlgfbaaGreatDoorRows.lean that lists a variable, with what it lists TIED to the program's text (the seventh form; the later family's looks); each row that meets fmt, with fmt's text TOLD by the authors' own Lean function (tested against real Go, not proved from fmt's source: count such statements apart). THE CARD IS WHAT COUNTS. Prove the row's statement (the work); the ties are given (YtcngigfjdlgfbaaGreatDoorTie.lean); close each card by the builder's one call (the guide's Derived/Test/ToyasCard.lean, 'card_holds'). Laid BY PROGRAM, IN A SANDBOX (cutbox-door.mjs). By AI agents, Wed Nov 11 2026. No macro, syntax, notation, axiom, sorry.
-/
import Derived.Test.YtcngigfjdlgfbaaGreatDoorRows
import GoSem.ClaimSeven
namespace Go.Proofs.YtcngigfjdlgfbaaGreatDoor
namespace Rows

/-- THE TIED CARD OF 'abugidalaw09.BuildExamples'. -/
def buildExamplesCard : Claim7 := { stood := { row := buildExamplesRow, standIns := [], harness := (true, "668dfa05de4f9d97005e472ab6386c6e6cc974321f5ec367d04f285eb74d0c00"), looks := true }, kinds := [], alts := [], laidByText := true, laidKinds := [.data, .data, .data], laidTests := true, laidLooks := .later }
def BuildExamplesCardSaid : Prop := Claim7.holds Tryz.pinned (.plain (OpenSpec.ofChange buildExamplesSpec)) buildExamplesCard

/-- THE SECOND FORM's CARD OF 'abugidalaw09.BuildExamples'. -/
def buildExamplesUptoCard : Claim7 := { stood := { row := buildExamplesUptoRow, standIns := [], harness := (true, "668dfa05de4f9d97005e472ab6386c6e6cc974321f5ec367d04f285eb74d0c00"), looks := true }, kinds := [], alts := [], laidByText := true, laidKinds := [.data, .data, .data], laidTests := true, laidLooks := .later }
def BuildExamplesUptoCardSaid : Prop := Claim7.holds Tryz.pinned (.plain (OpenSpec.upto buildExamplesSpec)) buildExamplesUptoCard
end Rows
end Go.Proofs.YtcngigfjdlgfbaaGreatDoor
