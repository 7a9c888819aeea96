/-
  DERIVED. GIVEN WITH THE SEED: THE CARDS: each row of YtoabjjimjldcfaaGreatDoorRows.lean that lists a variable, with what it lists TIED to the program's text (the seventh form; the later family's looks); each row that meets fmt, with fmt's text TOLD by the authors' own Lean function (tested against real Go, not proved from fmt's source: count such statements apart). THE CARD IS WHAT COUNTS. Prove the row's statement (the work); the ties are given (YtoabjjimjldcfaaGreatDoorTie.lean); close each card by the builder's one call (the guide's Derived/Test/ToyasCard.lean, 'card_holds'). Laid BY PROGRAM, IN A SANDBOX (cutbox-door.mjs). By AI agents, Wed Nov 11 2026. No macro, syntax, notation, axiom, sorry.
-/
import Derived.Test.YtoabjjimjldcfaaGreatDoorRows
import GoSem.ClaimSeven
namespace Go.Proofs.YtoabjjimjldcfaaGreatDoor
namespace Rows

/-- THE TIED CARD OF 'abugidalaw06.MachineValid'. -/
def machineValidCard : Claim7 := { stood := { row := machineValidRow, standIns := [], harness := (true, "ea4656df63b73b94884b59f7838f0dfac73e8ec20c036833f77c270eb3448717"), looks := true }, kinds := [], alts := [], laidByText := true, laidKinds := [.data, .data, .data], laidTests := true, laidLooks := .later }
def MachineValidCardSaid : Prop := Claim7.holds Tryz.pinned (.plain (OpenSpec.ofChange machineValidSpec)) machineValidCard

/-- THE TIED CARD OF 'abugidalaw06.MachineTrims'. -/
def machineTrimsCard : Claim7 := { stood := { row := machineTrimsRow, standIns := [], harness := (true, "ea4656df63b73b94884b59f7838f0dfac73e8ec20c036833f77c270eb3448717"), looks := true }, kinds := [], alts := [], laidByText := true, laidKinds := [.data, .data, .data], laidTests := true, laidLooks := .later }
def MachineTrimsCardSaid : Prop := Claim7.holds Tryz.pinned (.plain (OpenSpec.ofChange machineTrimsSpec)) machineTrimsCard

/-- THE TIED CARD OF 'abugidalaw06.MachineRenumbered'. -/
def machineRenumberedCard : Claim7 := { stood := { row := machineRenumberedRow, standIns := [], harness := (true, "ea4656df63b73b94884b59f7838f0dfac73e8ec20c036833f77c270eb3448717"), looks := true }, kinds := [], alts := [], laidByText := true, laidKinds := [.data, .data, .data], laidTests := true, laidLooks := .later }
def MachineRenumberedCardSaid : Prop := Claim7.holds Tryz.pinned (.plain (OpenSpec.ofChange machineRenumberedSpec)) machineRenumberedCard

/-- THE TIED CARD OF 'abugidalaw06.MachineExamples'. -/
def machineExamplesCard : Claim7 := { stood := { row := machineExamplesRow, standIns := [], harness := (true, "ea4656df63b73b94884b59f7838f0dfac73e8ec20c036833f77c270eb3448717"), looks := true }, kinds := [], alts := [], laidByText := true, laidKinds := [.data, .data, .data], laidTests := true, laidLooks := .later }
def MachineExamplesCardSaid : Prop := Claim7.holds Tryz.pinned (.plain (OpenSpec.ofChange machineExamplesSpec)) machineExamplesCard

/-- THE TIED CARD OF 'abugidalaw06.MachineTrimmed'. -/
def machineTrimmedCard : Claim7 := { stood := { row := machineTrimmedRow, standIns := [], harness := (true, "ea4656df63b73b94884b59f7838f0dfac73e8ec20c036833f77c270eb3448717"), looks := true }, kinds := [], alts := [], laidByText := true, laidKinds := [.data, .data, .data], laidTests := true, laidLooks := .later }
def MachineTrimmedCardSaid : Prop := Claim7.holds Tryz.pinned (.plain (OpenSpec.ofChange machineTrimmedSpec)) machineTrimmedCard

/-- THE SECOND FORM's CARD OF 'abugidalaw06.MachineValid'. -/
def machineValidUptoCard : Claim7 := { stood := { row := machineValidUptoRow, standIns := [], harness := (true, "ea4656df63b73b94884b59f7838f0dfac73e8ec20c036833f77c270eb3448717"), looks := true }, kinds := [], alts := [], laidByText := true, laidKinds := [.data, .data, .data], laidTests := true, laidLooks := .later }
def MachineValidUptoCardSaid : Prop := Claim7.holds Tryz.pinned (.plain (OpenSpec.upto machineValidSpec)) machineValidUptoCard

/-- THE SECOND FORM's CARD OF 'abugidalaw06.MachineTrims'. -/
def machineTrimsUptoCard : Claim7 := { stood := { row := machineTrimsUptoRow, standIns := [], harness := (true, "ea4656df63b73b94884b59f7838f0dfac73e8ec20c036833f77c270eb3448717"), looks := true }, kinds := [], alts := [], laidByText := true, laidKinds := [.data, .data, .data], laidTests := true, laidLooks := .later }
def MachineTrimsUptoCardSaid : Prop := Claim7.holds Tryz.pinned (.plain (OpenSpec.upto machineTrimsSpec)) machineTrimsUptoCard

/-- THE SECOND FORM's CARD OF 'abugidalaw06.MachineRenumbered'. -/
def machineRenumberedUptoCard : Claim7 := { stood := { row := machineRenumberedUptoRow, standIns := [], harness := (true, "ea4656df63b73b94884b59f7838f0dfac73e8ec20c036833f77c270eb3448717"), looks := true }, kinds := [], alts := [], laidByText := true, laidKinds := [.data, .data, .data], laidTests := true, laidLooks := .later }
def MachineRenumberedUptoCardSaid : Prop := Claim7.holds Tryz.pinned (.plain (OpenSpec.upto machineRenumberedSpec)) machineRenumberedUptoCard

/-- THE SECOND FORM's CARD OF 'abugidalaw06.MachineExamples'. -/
def machineExamplesUptoCard : Claim7 := { stood := { row := machineExamplesUptoRow, standIns := [], harness := (true, "ea4656df63b73b94884b59f7838f0dfac73e8ec20c036833f77c270eb3448717"), looks := true }, kinds := [], alts := [], laidByText := true, laidKinds := [.data, .data, .data], laidTests := true, laidLooks := .later }
def MachineExamplesUptoCardSaid : Prop := Claim7.holds Tryz.pinned (.plain (OpenSpec.upto machineExamplesSpec)) machineExamplesUptoCard

/-- THE SECOND FORM's CARD OF 'abugidalaw06.MachineTrimmed'. -/
def machineTrimmedUptoCard : Claim7 := { stood := { row := machineTrimmedUptoRow, standIns := [], harness := (true, "ea4656df63b73b94884b59f7838f0dfac73e8ec20c036833f77c270eb3448717"), looks := true }, kinds := [], alts := [], laidByText := true, laidKinds := [.data, .data, .data], laidTests := true, laidLooks := .later }
def MachineTrimmedUptoCardSaid : Prop := Claim7.holds Tryz.pinned (.plain (OpenSpec.upto machineTrimmedSpec)) machineTrimmedUptoCard
end Rows
end Go.Proofs.YtoabjjimjldcfaaGreatDoor
