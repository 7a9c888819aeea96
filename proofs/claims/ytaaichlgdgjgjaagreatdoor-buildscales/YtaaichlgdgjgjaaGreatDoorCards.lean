/-
  DERIVED. GIVEN WITH THE SEED: THE CARDS: each row of YtaaichlgdgjgjaaGreatDoorRows.lean that lists a variable, with what it lists TIED to the program's text (the seventh form; the later family's looks); each row that meets fmt, with fmt's text TOLD by the authors' own Lean function (tested against real Go, not proved from fmt's source: count such statements apart). THE CARD IS WHAT COUNTS. Prove the row's statement (the work); the ties are given (YtaaichlgdgjgjaaGreatDoorTie.lean); close each card by the builder's one call (the guide's Derived/Test/ToyasCard.lean, 'card_holds'). Laid BY PROGRAM, IN A SANDBOX (cutbox-door.mjs). By AI agents, Wed Nov 11 2026. No macro, syntax, notation, axiom, sorry.
-/
import Derived.Test.YtaaichlgdgjgjaaGreatDoorRows
import GoSem.ClaimSeven
namespace Go.Proofs.YtaaichlgdgjgjaaGreatDoor
namespace Rows

/-- THE TIED CARD OF 'abugidalaw09.BuildWords'. -/
def buildWordsCard : Claim7 := { stood := { row := buildWordsRow, standIns := [], harness := (true, "c6fdbccbd4f7b918257715cfda7cd04cead22867ce6bb9351446e2ee10eec580"), looks := true }, kinds := [], alts := [], laidByText := true, laidKinds := [.data, .data, .data], laidTests := true, laidLooks := .later }
def BuildWordsCardSaid : Prop := Claim7.holds Tryz.pinned (.plain (OpenSpec.ofChange buildWordsSpec)) buildWordsCard

/-- THE TIED CARD OF 'abugidalaw09.BuildLetters'. -/
def buildLettersCard : Claim7 := { stood := { row := buildLettersRow, standIns := [], harness := (true, "c6fdbccbd4f7b918257715cfda7cd04cead22867ce6bb9351446e2ee10eec580"), looks := true }, kinds := [], alts := [], laidByText := true, laidKinds := [.data, .data, .data], laidTests := true, laidLooks := .later }
def BuildLettersCardSaid : Prop := Claim7.holds Tryz.pinned (.plain (OpenSpec.ofChange buildLettersSpec)) buildLettersCard

/-- THE TIED CARD OF 'abugidalaw09.BuildUnions'. -/
def buildUnionsCard : Claim7 := { stood := { row := buildUnionsRow, standIns := [], harness := (true, "c6fdbccbd4f7b918257715cfda7cd04cead22867ce6bb9351446e2ee10eec580"), looks := true }, kinds := [], alts := [], laidByText := true, laidKinds := [.data, .data, .data], laidTests := true, laidLooks := .later }
def BuildUnionsCardSaid : Prop := Claim7.holds Tryz.pinned (.plain (OpenSpec.ofChange buildUnionsSpec)) buildUnionsCard

/-- THE TIED CARD OF 'abugidalaw09.BuildConcats'. -/
def buildConcatsCard : Claim7 := { stood := { row := buildConcatsRow, standIns := [], harness := (true, "c6fdbccbd4f7b918257715cfda7cd04cead22867ce6bb9351446e2ee10eec580"), looks := true }, kinds := [], alts := [], laidByText := true, laidKinds := [.data, .data, .data], laidTests := true, laidLooks := .later }
def BuildConcatsCardSaid : Prop := Claim7.holds Tryz.pinned (.plain (OpenSpec.ofChange buildConcatsSpec)) buildConcatsCard

/-- THE TIED CARD OF 'abugidalaw09.BuildStars'. -/
def buildStarsCard : Claim7 := { stood := { row := buildStarsRow, standIns := [], harness := (true, "c6fdbccbd4f7b918257715cfda7cd04cead22867ce6bb9351446e2ee10eec580"), looks := true }, kinds := [], alts := [], laidByText := true, laidKinds := [.data, .data, .data], laidTests := true, laidLooks := .later }
def BuildStarsCardSaid : Prop := Claim7.holds Tryz.pinned (.plain (OpenSpec.ofChange buildStarsSpec)) buildStarsCard

/-- THE TIED CARD OF 'abugidalaw09.BuildRepeats'. -/
def buildRepeatsCard : Claim7 := { stood := { row := buildRepeatsRow, standIns := [], harness := (true, "c6fdbccbd4f7b918257715cfda7cd04cead22867ce6bb9351446e2ee10eec580"), looks := true }, kinds := [], alts := [], laidByText := true, laidKinds := [.data, .data, .data], laidTests := true, laidLooks := .later }
def BuildRepeatsCardSaid : Prop := Claim7.holds Tryz.pinned (.plain (OpenSpec.ofChange buildRepeatsSpec)) buildRepeatsCard

/-- THE TIED CARD OF 'abugidalaw09.BuildScales'. -/
def buildScalesCard : Claim7 := { stood := { row := buildScalesRow, standIns := [], harness := (true, "c6fdbccbd4f7b918257715cfda7cd04cead22867ce6bb9351446e2ee10eec580"), looks := true }, kinds := [], alts := [], laidByText := true, laidKinds := [.data, .data, .data], laidTests := true, laidLooks := .later }
def BuildScalesCardSaid : Prop := Claim7.holds Tryz.pinned (.plain (OpenSpec.ofChange buildScalesSpec)) buildScalesCard

/-- THE TIED CARD OF 'abugidalaw09.BuildLaws'. -/
def buildLawsCard : Claim7 := { stood := { row := buildLawsRow, standIns := [], harness := (true, "c6fdbccbd4f7b918257715cfda7cd04cead22867ce6bb9351446e2ee10eec580"), looks := true }, kinds := [], alts := [], laidByText := true, laidKinds := [.data, .data, .data], laidTests := true, laidLooks := .later }
def BuildLawsCardSaid : Prop := Claim7.holds Tryz.pinned (.plain (OpenSpec.ofChange buildLawsSpec)) buildLawsCard

/-- THE SECOND FORM's CARD OF 'abugidalaw09.BuildWords'. -/
def buildWordsUptoCard : Claim7 := { stood := { row := buildWordsUptoRow, standIns := [], harness := (true, "c6fdbccbd4f7b918257715cfda7cd04cead22867ce6bb9351446e2ee10eec580"), looks := true }, kinds := [], alts := [], laidByText := true, laidKinds := [.data, .data, .data], laidTests := true, laidLooks := .later }
def BuildWordsUptoCardSaid : Prop := Claim7.holds Tryz.pinned (.plain (OpenSpec.upto buildWordsSpec)) buildWordsUptoCard

/-- THE SECOND FORM's CARD OF 'abugidalaw09.BuildLetters'. -/
def buildLettersUptoCard : Claim7 := { stood := { row := buildLettersUptoRow, standIns := [], harness := (true, "c6fdbccbd4f7b918257715cfda7cd04cead22867ce6bb9351446e2ee10eec580"), looks := true }, kinds := [], alts := [], laidByText := true, laidKinds := [.data, .data, .data], laidTests := true, laidLooks := .later }
def BuildLettersUptoCardSaid : Prop := Claim7.holds Tryz.pinned (.plain (OpenSpec.upto buildLettersSpec)) buildLettersUptoCard

/-- THE SECOND FORM's CARD OF 'abugidalaw09.BuildUnions'. -/
def buildUnionsUptoCard : Claim7 := { stood := { row := buildUnionsUptoRow, standIns := [], harness := (true, "c6fdbccbd4f7b918257715cfda7cd04cead22867ce6bb9351446e2ee10eec580"), looks := true }, kinds := [], alts := [], laidByText := true, laidKinds := [.data, .data, .data], laidTests := true, laidLooks := .later }
def BuildUnionsUptoCardSaid : Prop := Claim7.holds Tryz.pinned (.plain (OpenSpec.upto buildUnionsSpec)) buildUnionsUptoCard

/-- THE SECOND FORM's CARD OF 'abugidalaw09.BuildConcats'. -/
def buildConcatsUptoCard : Claim7 := { stood := { row := buildConcatsUptoRow, standIns := [], harness := (true, "c6fdbccbd4f7b918257715cfda7cd04cead22867ce6bb9351446e2ee10eec580"), looks := true }, kinds := [], alts := [], laidByText := true, laidKinds := [.data, .data, .data], laidTests := true, laidLooks := .later }
def BuildConcatsUptoCardSaid : Prop := Claim7.holds Tryz.pinned (.plain (OpenSpec.upto buildConcatsSpec)) buildConcatsUptoCard

/-- THE SECOND FORM's CARD OF 'abugidalaw09.BuildStars'. -/
def buildStarsUptoCard : Claim7 := { stood := { row := buildStarsUptoRow, standIns := [], harness := (true, "c6fdbccbd4f7b918257715cfda7cd04cead22867ce6bb9351446e2ee10eec580"), looks := true }, kinds := [], alts := [], laidByText := true, laidKinds := [.data, .data, .data], laidTests := true, laidLooks := .later }
def BuildStarsUptoCardSaid : Prop := Claim7.holds Tryz.pinned (.plain (OpenSpec.upto buildStarsSpec)) buildStarsUptoCard

/-- THE SECOND FORM's CARD OF 'abugidalaw09.BuildRepeats'. -/
def buildRepeatsUptoCard : Claim7 := { stood := { row := buildRepeatsUptoRow, standIns := [], harness := (true, "c6fdbccbd4f7b918257715cfda7cd04cead22867ce6bb9351446e2ee10eec580"), looks := true }, kinds := [], alts := [], laidByText := true, laidKinds := [.data, .data, .data], laidTests := true, laidLooks := .later }
def BuildRepeatsUptoCardSaid : Prop := Claim7.holds Tryz.pinned (.plain (OpenSpec.upto buildRepeatsSpec)) buildRepeatsUptoCard

/-- THE SECOND FORM's CARD OF 'abugidalaw09.BuildScales'. -/
def buildScalesUptoCard : Claim7 := { stood := { row := buildScalesUptoRow, standIns := [], harness := (true, "c6fdbccbd4f7b918257715cfda7cd04cead22867ce6bb9351446e2ee10eec580"), looks := true }, kinds := [], alts := [], laidByText := true, laidKinds := [.data, .data, .data], laidTests := true, laidLooks := .later }
def BuildScalesUptoCardSaid : Prop := Claim7.holds Tryz.pinned (.plain (OpenSpec.upto buildScalesSpec)) buildScalesUptoCard

/-- THE SECOND FORM's CARD OF 'abugidalaw09.BuildLaws'. -/
def buildLawsUptoCard : Claim7 := { stood := { row := buildLawsUptoRow, standIns := [], harness := (true, "c6fdbccbd4f7b918257715cfda7cd04cead22867ce6bb9351446e2ee10eec580"), looks := true }, kinds := [], alts := [], laidByText := true, laidKinds := [.data, .data, .data], laidTests := true, laidLooks := .later }
def BuildLawsUptoCardSaid : Prop := Claim7.holds Tryz.pinned (.plain (OpenSpec.upto buildLawsSpec)) buildLawsUptoCard
end Rows
end Go.Proofs.YtaaichlgdgjgjaaGreatDoor
