/-
  DERIVED. GIVEN WITH THE SEED: THE CARDS: each row of YtadpifnlkmeifaaDoorRows.lean that lists a variable, with what it lists TIED to the program's text (the seventh form; the later family's looks); each row that meets fmt, with fmt's text TOLD by the authors' own Lean function (tested against real Go, not proved from fmt's source: count such statements apart). THE CARD IS WHAT COUNTS. Prove the row's statement (the work); the ties are given (YtadpifnlkmeifaaDoorTie.lean); close each card by the builder's one call (the guide's Derived/Test/ToyasCard.lean, 'card_holds'). Laid BY PROGRAM, IN A SANDBOX (cutbox-door.mjs). By AI agents, Wed Nov 11 2026. No macro, syntax, notation, axiom, sorry.
-/
import Derived.Test.YtadpifnlkmeifaaDoorRows
import GoSem.ClaimSeven
namespace Go.Proofs.YtadpifnlkmeifaaDoor
namespace Rows

/-- THE TIED CARD OF 'hagglerlaw10.CodeTells'. -/
def codeTellsCard : Claim7 := { stood := { row := codeTellsRow, standIns := [], harness := (true, "663dd15097037bce51be777db45c4479c6d76ce117a364a4ec0b8742e6a297d0"), looks := false }, kinds := [], alts := [], laidByText := true, laidKinds := [.data, .data, .data], laidTests := true, laidLooks := .later }
def CodeTellsCardSaid : Prop := Claim7.holds Tryd.pinned (.plain (OpenSpec.ofChange codeTellsSpec)) codeTellsCard

/-- THE TIED CARD OF 'hagglerlaw10.CodeSize'. -/
def codeSizeCard : Claim7 := { stood := { row := codeSizeRow, standIns := [], harness := (true, "663dd15097037bce51be777db45c4479c6d76ce117a364a4ec0b8742e6a297d0"), looks := false }, kinds := [], alts := [], laidByText := true, laidKinds := [.data, .data, .data], laidTests := true, laidLooks := .later }
def CodeSizeCardSaid : Prop := Claim7.holds Tryd.pinned (.plain (OpenSpec.ofChange codeSizeSpec)) codeSizeCard

/-- THE TIED CARD OF 'hagglerlaw10.CodeUnlike'. -/
def codeUnlikeCard : Claim7 := { stood := { row := codeUnlikeRow, standIns := [], harness := (true, "663dd15097037bce51be777db45c4479c6d76ce117a364a4ec0b8742e6a297d0"), looks := false }, kinds := [], alts := [], laidByText := true, laidKinds := [.data, .data, .data], laidTests := true, laidLooks := .later }
def CodeUnlikeCardSaid : Prop := Claim7.holds Tryd.pinned (.plain (OpenSpec.ofChange codeUnlikeSpec)) codeUnlikeCard

/-- THE TIED CARD OF 'hagglerlaw10.CodeParts'. -/
def codePartsCard : Claim7 := { stood := { row := codePartsRow, standIns := [], harness := (true, "663dd15097037bce51be777db45c4479c6d76ce117a364a4ec0b8742e6a297d0"), looks := false }, kinds := [], alts := [], laidByText := true, laidKinds := [.data, .data, .data], laidTests := true, laidLooks := .later }
def CodePartsCardSaid : Prop := Claim7.holds Tryd.pinned (.plain (OpenSpec.ofChange codePartsSpec)) codePartsCard

/-- THE TIED CARD OF 'hagglerlaw10.CodeLeads'. -/
def codeLeadsCard : Claim7 := { stood := { row := codeLeadsRow, standIns := [], harness := (true, "663dd15097037bce51be777db45c4479c6d76ce117a364a4ec0b8742e6a297d0"), looks := false }, kinds := [], alts := [], laidByText := true, laidKinds := [.data, .data, .data], laidTests := true, laidLooks := .later }
def CodeLeadsCardSaid : Prop := Claim7.holds Tryd.pinned (.plain (OpenSpec.ofChange codeLeadsSpec)) codeLeadsCard

/-- THE SECOND FORM's CARD OF 'hagglerlaw10.CodeTells'. -/
def codeTellsUptoCard : Claim7 := { stood := { row := codeTellsUptoRow, standIns := [], harness := (true, "663dd15097037bce51be777db45c4479c6d76ce117a364a4ec0b8742e6a297d0"), looks := false }, kinds := [], alts := [], laidByText := true, laidKinds := [.data, .data, .data], laidTests := true, laidLooks := .later }
def CodeTellsUptoCardSaid : Prop := Claim7.holds Tryd.pinned (.plain (OpenSpec.upto codeTellsSpec)) codeTellsUptoCard

/-- THE SECOND FORM's CARD OF 'hagglerlaw10.CodeSize'. -/
def codeSizeUptoCard : Claim7 := { stood := { row := codeSizeUptoRow, standIns := [], harness := (true, "663dd15097037bce51be777db45c4479c6d76ce117a364a4ec0b8742e6a297d0"), looks := false }, kinds := [], alts := [], laidByText := true, laidKinds := [.data, .data, .data], laidTests := true, laidLooks := .later }
def CodeSizeUptoCardSaid : Prop := Claim7.holds Tryd.pinned (.plain (OpenSpec.upto codeSizeSpec)) codeSizeUptoCard

/-- THE SECOND FORM's CARD OF 'hagglerlaw10.CodeUnlike'. -/
def codeUnlikeUptoCard : Claim7 := { stood := { row := codeUnlikeUptoRow, standIns := [], harness := (true, "663dd15097037bce51be777db45c4479c6d76ce117a364a4ec0b8742e6a297d0"), looks := false }, kinds := [], alts := [], laidByText := true, laidKinds := [.data, .data, .data], laidTests := true, laidLooks := .later }
def CodeUnlikeUptoCardSaid : Prop := Claim7.holds Tryd.pinned (.plain (OpenSpec.upto codeUnlikeSpec)) codeUnlikeUptoCard

/-- THE SECOND FORM's CARD OF 'hagglerlaw10.CodeParts'. -/
def codePartsUptoCard : Claim7 := { stood := { row := codePartsUptoRow, standIns := [], harness := (true, "663dd15097037bce51be777db45c4479c6d76ce117a364a4ec0b8742e6a297d0"), looks := false }, kinds := [], alts := [], laidByText := true, laidKinds := [.data, .data, .data], laidTests := true, laidLooks := .later }
def CodePartsUptoCardSaid : Prop := Claim7.holds Tryd.pinned (.plain (OpenSpec.upto codePartsSpec)) codePartsUptoCard

/-- THE SECOND FORM's CARD OF 'hagglerlaw10.CodeLeads'. -/
def codeLeadsUptoCard : Claim7 := { stood := { row := codeLeadsUptoRow, standIns := [], harness := (true, "663dd15097037bce51be777db45c4479c6d76ce117a364a4ec0b8742e6a297d0"), looks := false }, kinds := [], alts := [], laidByText := true, laidKinds := [.data, .data, .data], laidTests := true, laidLooks := .later }
def CodeLeadsUptoCardSaid : Prop := Claim7.holds Tryd.pinned (.plain (OpenSpec.upto codeLeadsSpec)) codeLeadsUptoCard
end Rows
end Go.Proofs.YtadpifnlkmeifaaDoor
