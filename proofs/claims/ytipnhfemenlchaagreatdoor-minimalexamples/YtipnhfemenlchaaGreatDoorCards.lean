/-
  DERIVED. GIVEN WITH THE SEED: THE CARDS: each row of YtipnhfemenlchaaGreatDoorRows.lean that lists a variable, with what it lists TIED to the program's text (the seventh form; the later family's looks); each row that meets fmt, with fmt's text TOLD by the authors' own Lean function (tested against real Go, not proved from fmt's source: count such statements apart). THE CARD IS WHAT COUNTS. Prove the row's statement (the work); the ties are given (YtipnhfemenlchaaGreatDoorTie.lean); close each card by the builder's one call (the guide's Derived/Test/ToyasCard.lean, 'card_holds'). Laid BY PROGRAM, IN A SANDBOX (cutbox-door.mjs). By AI agents, Wed Nov 11 2026. No macro, syntax, notation, axiom, sorry.
-/
import Derived.Test.YtipnhfemenlchaaGreatDoorRows
import GoSem.ClaimSeven
namespace Go.Proofs.YtipnhfemenlchaaGreatDoor
namespace Rows

/-- THE TIED CARD OF 'abugidalaw15.MinimalExamples'. -/
def minimalExamplesCard : Claim7 := { stood := { row := minimalExamplesRow, standIns := [], harness := (true, "7e0576c352a5963393ef95d687a406aa263b49bc41a876e4320b44b8a66ce226"), looks := true }, kinds := [], alts := [], laidByText := true, laidKinds := [.data, .data, .data], laidTests := true, laidLooks := .later }
def MinimalExamplesCardSaid : Prop := Claim7.holds Tryz.pinned (.plain (OpenSpec.ofChange minimalExamplesSpec)) minimalExamplesCard

/-- THE SECOND FORM's CARD OF 'abugidalaw15.MinimalExamples'. -/
def minimalExamplesUptoCard : Claim7 := { stood := { row := minimalExamplesUptoRow, standIns := [], harness := (true, "7e0576c352a5963393ef95d687a406aa263b49bc41a876e4320b44b8a66ce226"), looks := true }, kinds := [], alts := [], laidByText := true, laidKinds := [.data, .data, .data], laidTests := true, laidLooks := .later }
def MinimalExamplesUptoCardSaid : Prop := Claim7.holds Tryz.pinned (.plain (OpenSpec.upto minimalExamplesSpec)) minimalExamplesUptoCard
end Rows
end Go.Proofs.YtipnhfemenlchaaGreatDoor
