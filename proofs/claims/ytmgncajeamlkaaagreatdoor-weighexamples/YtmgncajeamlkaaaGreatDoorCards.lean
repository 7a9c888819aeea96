/-
  DERIVED. GIVEN WITH THE SEED: THE CARDS: each row of YtmgncajeamlkaaaGreatDoorRows.lean that lists a variable, with what it lists TIED to the program's text (the seventh form; the later family's looks); each row that meets fmt, with fmt's text TOLD by the authors' own Lean function (tested against real Go, not proved from fmt's source: count such statements apart). THE CARD IS WHAT COUNTS. Prove the row's statement (the work); the ties are given (YtmgncajeamlkaaaGreatDoorTie.lean); close each card by the builder's one call (the guide's Derived/Test/ToyasCard.lean, 'card_holds'). Laid BY PROGRAM, IN A SANDBOX (cutbox-door.mjs). By AI agents, Wed Nov 11 2026. No macro, syntax, notation, axiom, sorry.
-/
import Derived.Test.YtmgncajeamlkaaaGreatDoorRows
import GoSem.ClaimSeven
namespace Go.Proofs.YtmgncajeamlkaaaGreatDoor
namespace Rows

/-- THE TIED CARD OF 'abugidalaw08.WeighExamples'. -/
def weighExamplesCard : Claim7 := { stood := { row := weighExamplesRow, standIns := [], harness := (true, "9c9076e50adeb1be28e3a1fc6c56345481607df3cb4544f9fbfcec2a0b35b9d9"), looks := true }, kinds := [], alts := [], laidByText := true, laidKinds := [.data, .data, .data], laidTests := true, laidLooks := .later }
def WeighExamplesCardSaid : Prop := Claim7.holds Tryz.pinned (.plain (OpenSpec.ofChange weighExamplesSpec)) weighExamplesCard

/-- THE SECOND FORM's CARD OF 'abugidalaw08.WeighExamples'. -/
def weighExamplesUptoCard : Claim7 := { stood := { row := weighExamplesUptoRow, standIns := [], harness := (true, "9c9076e50adeb1be28e3a1fc6c56345481607df3cb4544f9fbfcec2a0b35b9d9"), looks := true }, kinds := [], alts := [], laidByText := true, laidKinds := [.data, .data, .data], laidTests := true, laidLooks := .later }
def WeighExamplesUptoCardSaid : Prop := Claim7.holds Tryz.pinned (.plain (OpenSpec.upto weighExamplesSpec)) weighExamplesUptoCard
end Rows
end Go.Proofs.YtmgncajeamlkaaaGreatDoor
