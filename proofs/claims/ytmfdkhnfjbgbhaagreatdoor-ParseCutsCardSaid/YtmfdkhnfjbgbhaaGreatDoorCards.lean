/-
  DERIVED. GIVEN WITH THE SEED: THE CARDS: each row of YtmfdkhnfjbgbhaaGreatDoorRows.lean that lists a variable, with what it lists TIED to the program's text (the seventh form; the later family's looks); each row that meets fmt, with fmt's text TOLD by the authors' own Lean function (tested against real Go, not proved from fmt's source: count such statements apart). THE CARD IS WHAT COUNTS. Prove the row's statement (the work); the ties are given (YtmfdkhnfjbgbhaaGreatDoorTie.lean); close each card by the builder's one call (the guide's Derived/Test/ToyasCard.lean, 'card_holds'). Laid BY PROGRAM, IN A SANDBOX (cutbox-door.mjs). By AI agents, Wed Nov 11 2026. No macro, syntax, notation, axiom, sorry.
-/
import Derived.Test.YtmfdkhnfjbgbhaaGreatDoorRows
import GoSem.ClaimSeven
namespace Go.Proofs.YtmfdkhnfjbgbhaaGreatDoor
namespace Rows

/-- THE TIED CARD OF 'hagglerlaw08.ParseTells'. -/
def parseTellsCard : Claim7 := { stood := { row := parseTellsRow, standIns := [], harness := (true, "8052fc18f94a2caf55ac816d06ef091a9bff081ec140f24223c60c7ef3f10b5e"), looks := true }, kinds := [], alts := [], laidByText := true, laidKinds := [.data, .data, .data, .sentinel, .sentinel], laidTests := true, laidLooks := .later }
def ParseTellsCardSaid : Prop := Claim7.holds Tryz.pinned (.plain (OpenSpec.ofChange parseTellsSpec)) parseTellsCard

/-- THE TIED CARD OF 'hagglerlaw08.ParseCuts'. -/
def parseCutsCard : Claim7 := { stood := { row := parseCutsRow, standIns := [], harness := (true, "8052fc18f94a2caf55ac816d06ef091a9bff081ec140f24223c60c7ef3f10b5e"), looks := true }, kinds := [], alts := [], laidByText := true, laidKinds := [.data, .data, .data, .sentinel, .sentinel], laidTests := true, laidLooks := .later }
def ParseCutsCardSaid : Prop := Claim7.holds Tryz.pinned (.plain (OpenSpec.ofChange parseCutsSpec)) parseCutsCard

/-- THE TIED CARD OF 'hagglerlaw08.ParseMore'. -/
def parseMoreCard : Claim7 := { stood := { row := parseMoreRow, standIns := [], harness := (true, "8052fc18f94a2caf55ac816d06ef091a9bff081ec140f24223c60c7ef3f10b5e"), looks := true }, kinds := [], alts := [], laidByText := true, laidKinds := [.data, .data, .data, .sentinel, .sentinel], laidTests := true, laidLooks := .later }
def ParseMoreCardSaid : Prop := Claim7.holds Tryz.pinned (.plain (OpenSpec.ofChange parseMoreSpec)) parseMoreCard

/-- THE TIED CARD OF 'hagglerlaw08.ParseBack'. -/
def parseBackCard : Claim7 := { stood := { row := parseBackRow, standIns := [], harness := (true, "8052fc18f94a2caf55ac816d06ef091a9bff081ec140f24223c60c7ef3f10b5e"), looks := true }, kinds := [], alts := [], laidByText := true, laidKinds := [.data, .data, .data, .sentinel, .sentinel], laidTests := true, laidLooks := .later }
def ParseBackCardSaid : Prop := Claim7.holds Tryz.pinned (.plain (OpenSpec.ofChange parseBackSpec)) parseBackCard

/-- THE TIED CARD OF 'hagglerlaw08.ParseBlanks'. -/
def parseBlanksCard : Claim7 := { stood := { row := parseBlanksRow, standIns := [], harness := (true, "8052fc18f94a2caf55ac816d06ef091a9bff081ec140f24223c60c7ef3f10b5e"), looks := true }, kinds := [], alts := [], laidByText := true, laidKinds := [.data, .data, .data, .sentinel, .sentinel], laidTests := true, laidLooks := .later }
def ParseBlanksCardSaid : Prop := Claim7.holds Tryz.pinned (.plain (OpenSpec.ofChange parseBlanksSpec)) parseBlanksCard

/-- THE TIED CARD OF 'hagglerlaw08.ParseForth'. -/
def parseForthCard : Claim7 := { stood := { row := parseForthRow, standIns := [], harness := (true, "8052fc18f94a2caf55ac816d06ef091a9bff081ec140f24223c60c7ef3f10b5e"), looks := true }, kinds := [], alts := [], laidByText := true, laidKinds := [.data, .data, .data, .sentinel, .sentinel], laidTests := true, laidLooks := .later }
def ParseForthCardSaid : Prop := Claim7.holds Tryz.pinned (.plain (OpenSpec.ofChange parseForthSpec)) parseForthCard

/-- THE SECOND FORM's CARD OF 'hagglerlaw08.ParseTells'. -/
def parseTellsUptoCard : Claim7 := { stood := { row := parseTellsUptoRow, standIns := [], harness := (true, "8052fc18f94a2caf55ac816d06ef091a9bff081ec140f24223c60c7ef3f10b5e"), looks := true }, kinds := [], alts := [], laidByText := true, laidKinds := [.data, .data, .data, .sentinel, .sentinel], laidTests := true, laidLooks := .later }
def ParseTellsUptoCardSaid : Prop := Claim7.holds Tryz.pinned (.plain (OpenSpec.upto parseTellsSpec)) parseTellsUptoCard

/-- THE SECOND FORM's CARD OF 'hagglerlaw08.ParseCuts'. -/
def parseCutsUptoCard : Claim7 := { stood := { row := parseCutsUptoRow, standIns := [], harness := (true, "8052fc18f94a2caf55ac816d06ef091a9bff081ec140f24223c60c7ef3f10b5e"), looks := true }, kinds := [], alts := [], laidByText := true, laidKinds := [.data, .data, .data, .sentinel, .sentinel], laidTests := true, laidLooks := .later }
def ParseCutsUptoCardSaid : Prop := Claim7.holds Tryz.pinned (.plain (OpenSpec.upto parseCutsSpec)) parseCutsUptoCard

/-- THE SECOND FORM's CARD OF 'hagglerlaw08.ParseMore'. -/
def parseMoreUptoCard : Claim7 := { stood := { row := parseMoreUptoRow, standIns := [], harness := (true, "8052fc18f94a2caf55ac816d06ef091a9bff081ec140f24223c60c7ef3f10b5e"), looks := true }, kinds := [], alts := [], laidByText := true, laidKinds := [.data, .data, .data, .sentinel, .sentinel], laidTests := true, laidLooks := .later }
def ParseMoreUptoCardSaid : Prop := Claim7.holds Tryz.pinned (.plain (OpenSpec.upto parseMoreSpec)) parseMoreUptoCard

/-- THE SECOND FORM's CARD OF 'hagglerlaw08.ParseBack'. -/
def parseBackUptoCard : Claim7 := { stood := { row := parseBackUptoRow, standIns := [], harness := (true, "8052fc18f94a2caf55ac816d06ef091a9bff081ec140f24223c60c7ef3f10b5e"), looks := true }, kinds := [], alts := [], laidByText := true, laidKinds := [.data, .data, .data, .sentinel, .sentinel], laidTests := true, laidLooks := .later }
def ParseBackUptoCardSaid : Prop := Claim7.holds Tryz.pinned (.plain (OpenSpec.upto parseBackSpec)) parseBackUptoCard

/-- THE SECOND FORM's CARD OF 'hagglerlaw08.ParseBlanks'. -/
def parseBlanksUptoCard : Claim7 := { stood := { row := parseBlanksUptoRow, standIns := [], harness := (true, "8052fc18f94a2caf55ac816d06ef091a9bff081ec140f24223c60c7ef3f10b5e"), looks := true }, kinds := [], alts := [], laidByText := true, laidKinds := [.data, .data, .data, .sentinel, .sentinel], laidTests := true, laidLooks := .later }
def ParseBlanksUptoCardSaid : Prop := Claim7.holds Tryz.pinned (.plain (OpenSpec.upto parseBlanksSpec)) parseBlanksUptoCard

/-- THE SECOND FORM's CARD OF 'hagglerlaw08.ParseForth'. -/
def parseForthUptoCard : Claim7 := { stood := { row := parseForthUptoRow, standIns := [], harness := (true, "8052fc18f94a2caf55ac816d06ef091a9bff081ec140f24223c60c7ef3f10b5e"), looks := true }, kinds := [], alts := [], laidByText := true, laidKinds := [.data, .data, .data, .sentinel, .sentinel], laidTests := true, laidLooks := .later }
def ParseForthUptoCardSaid : Prop := Claim7.holds Tryz.pinned (.plain (OpenSpec.upto parseForthSpec)) parseForthUptoCard
end Rows
end Go.Proofs.YtmfdkhnfjbgbhaaGreatDoor
