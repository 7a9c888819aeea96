/-
  DERIVED. GIVEN WITH THE SEED: THE CARDS: each row of YtaheifbogkjpdaaGreatDoorRows.lean that lists a variable, with what it lists TIED to the program's text (the seventh form; the later family's looks); each row that meets fmt, with fmt's text TOLD by the authors' own Lean function (tested against real Go, not proved from fmt's source: count such statements apart). THE CARD IS WHAT COUNTS. Prove the row's statement (the work); the ties are given (YtaheifbogkjpdaaGreatDoorTie.lean); close each card by the builder's one call (the guide's Derived/Test/ToyasCard.lean, 'card_holds'). Laid BY PROGRAM, IN A SANDBOX (cutbox-door.mjs). By AI agents, Wed Nov 11 2026. No macro, syntax, notation, axiom, sorry.
-/
import Derived.Test.YtaheifbogkjpdaaGreatDoorRows
import GoSem.ClaimSeven
namespace Go.Proofs.YtaheifbogkjpdaaGreatDoor
namespace Rows

/-- THE TIED CARD OF 'abugidalaw15.MinimalFirst'. -/
def minimalFirstCard : Claim7 := { stood := { row := minimalFirstRow, standIns := [], harness := (true, "f27b5e8ceb2980a619348e3a61cbec73bd8b00a96177487f74729b0df1404cbb"), looks := true }, kinds := [], alts := [], laidByText := true, laidKinds := [.data, .data, .data], laidTests := true, laidLooks := .later }
def MinimalFirstCardSaid : Prop := Claim7.holds Tryz.pinned (.plain (OpenSpec.ofChange minimalFirstSpec)) minimalFirstCard

/-- THE TIED CARD OF 'abugidalaw15.MinimalLength'. -/
def minimalLengthCard : Claim7 := { stood := { row := minimalLengthRow, standIns := [], harness := (true, "f27b5e8ceb2980a619348e3a61cbec73bd8b00a96177487f74729b0df1404cbb"), looks := true }, kinds := [], alts := [], laidByText := true, laidKinds := [.data, .data, .data], laidTests := true, laidLooks := .later }
def MinimalLengthCardSaid : Prop := Claim7.holds Tryz.pinned (.plain (OpenSpec.ofChange minimalLengthSpec)) minimalLengthCard

/-- THE SECOND FORM's CARD OF 'abugidalaw15.MinimalFirst'. -/
def minimalFirstUptoCard : Claim7 := { stood := { row := minimalFirstUptoRow, standIns := [], harness := (true, "f27b5e8ceb2980a619348e3a61cbec73bd8b00a96177487f74729b0df1404cbb"), looks := true }, kinds := [], alts := [], laidByText := true, laidKinds := [.data, .data, .data], laidTests := true, laidLooks := .later }
def MinimalFirstUptoCardSaid : Prop := Claim7.holds Tryz.pinned (.plain (OpenSpec.upto minimalFirstSpec)) minimalFirstUptoCard

/-- THE SECOND FORM's CARD OF 'abugidalaw15.MinimalLength'. -/
def minimalLengthUptoCard : Claim7 := { stood := { row := minimalLengthUptoRow, standIns := [], harness := (true, "f27b5e8ceb2980a619348e3a61cbec73bd8b00a96177487f74729b0df1404cbb"), looks := true }, kinds := [], alts := [], laidByText := true, laidKinds := [.data, .data, .data], laidTests := true, laidLooks := .later }
def MinimalLengthUptoCardSaid : Prop := Claim7.holds Tryz.pinned (.plain (OpenSpec.upto minimalLengthSpec)) minimalLengthUptoCard
end Rows
end Go.Proofs.YtaheifbogkjpdaaGreatDoor
