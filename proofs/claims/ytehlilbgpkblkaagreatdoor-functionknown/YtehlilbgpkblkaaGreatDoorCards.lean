/-
  DERIVED. GIVEN WITH THE SEED: THE CARDS: each row of YtehlilbgpkblkaaGreatDoorRows.lean that lists a variable, with what it lists TIED to the program's text (the seventh form; the later family's looks); each row that meets fmt, with fmt's text TOLD by the authors' own Lean function (tested against real Go, not proved from fmt's source: count such statements apart). THE CARD IS WHAT COUNTS. Prove the row's statement (the work); the ties are given (YtehlilbgpkblkaaGreatDoorTie.lean); close each card by the builder's one call (the guide's Derived/Test/ToyasCard.lean, 'card_holds'). Laid BY PROGRAM, IN A SANDBOX (cutbox-door.mjs). By AI agents, Wed Nov 11 2026. No macro, syntax, notation, axiom, sorry.
-/
import Derived.Test.YtehlilbgpkblkaaGreatDoorRows
import GoSem.ClaimSeven
namespace Go.Proofs.YtehlilbgpkblkaaGreatDoor
namespace Rows

/-- THE TIED CARD OF 'abugidalaw17.FunctionKnown'. -/
def functionKnownCard : Claim7 := { stood := { row := functionKnownRow, standIns := [], harness := (true, "8ef1d54c6cd085fed597f8dd3ae73a11dbf4e8b8271e4b45166a44b09fdb9075"), looks := true }, kinds := [], alts := [], laidByText := true, laidKinds := [.data, .data, .data], laidTests := true, laidLooks := .later }
def FunctionKnownCardSaid : Prop := Claim7.holds Tryz.pinned (.plain (OpenSpec.ofChange functionKnownSpec)) functionKnownCard

/-- THE SECOND FORM's CARD OF 'abugidalaw17.FunctionKnown'. -/
def functionKnownUptoCard : Claim7 := { stood := { row := functionKnownUptoRow, standIns := [], harness := (true, "8ef1d54c6cd085fed597f8dd3ae73a11dbf4e8b8271e4b45166a44b09fdb9075"), looks := true }, kinds := [], alts := [], laidByText := true, laidKinds := [.data, .data, .data], laidTests := true, laidLooks := .later }
def FunctionKnownUptoCardSaid : Prop := Claim7.holds Tryz.pinned (.plain (OpenSpec.upto functionKnownSpec)) functionKnownUptoCard
end Rows
end Go.Proofs.YtehlilbgpkblkaaGreatDoor
