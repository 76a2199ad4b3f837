/-
  DERIVED. GIVEN WITH THE SEED: THE CARDS: each row of YtglbgfjmfccemaaDoorRows.lean that lists a variable, with what it lists TIED to the program's text (the seventh form; the later family's looks); each row that meets fmt, with fmt's text TOLD by the authors' own Lean function (tested against real Go, not proved from fmt's source: count such statements apart). THE CARD IS WHAT COUNTS. Prove the row's statement (the work); the ties are given (YtglbgfjmfccemaaDoorTie.lean); close each card by the builder's one call (the guide's Derived/Test/ToyasCard.lean, 'card_holds'). Laid BY PROGRAM, IN A SANDBOX (cutbox-door.mjs). By AI agents, Wed Nov 11 2026. No macro, syntax, notation, axiom, sorry.
-/
import Derived.Test.YtglbgfjmfccemaaDoorRows
import GoSem.ClaimSeven
namespace Go.Proofs.YtglbgfjmfccemaaDoor
namespace Rows

/-- THE TIED CARD OF 'hagglerlaw02.DecTells'. -/
def decTellsCard : Claim7 := { stood := { row := decTellsRow, standIns := [], harness := (true, "86d828f964bbb0f6ef563d18b535cafd6d920c47308b413b7994e2a3e5a61efd"), looks := true }, kinds := [], alts := [], laidByText := true, laidKinds := [.data, .data, .data, .sentinel, .sentinel], laidTests := true, laidLooks := .later }
def DecTellsCardSaid : Prop := Claim7.holds Tryd.pinned (.plain (OpenSpec.ofChange decTellsSpec)) decTellsCard

/-- THE TIED CARD OF 'hagglerlaw02.DecBack'. -/
def decBackCard : Claim7 := { stood := { row := decBackRow, standIns := [], harness := (true, "86d828f964bbb0f6ef563d18b535cafd6d920c47308b413b7994e2a3e5a61efd"), looks := true }, kinds := [], alts := [], laidByText := true, laidKinds := [.data, .data, .data, .sentinel, .sentinel], laidTests := true, laidLooks := .later }
def DecBackCardSaid : Prop := Claim7.holds Tryd.pinned (.plain (OpenSpec.ofChange decBackSpec)) decBackCard

/-- THE TIED CARD OF 'hagglerlaw02.DecForth'. -/
def decForthCard : Claim7 := { stood := { row := decForthRow, standIns := [], harness := (true, "86d828f964bbb0f6ef563d18b535cafd6d920c47308b413b7994e2a3e5a61efd"), looks := true }, kinds := [], alts := [], laidByText := true, laidKinds := [.data, .data, .data, .sentinel, .sentinel], laidTests := true, laidLooks := .later }
def DecForthCardSaid : Prop := Claim7.holds Tryd.pinned (.plain (OpenSpec.ofChange decForthSpec)) decForthCard

/-- THE TIED CARD OF 'hagglerlaw02.DecShape'. -/
def decShapeCard : Claim7 := { stood := { row := decShapeRow, standIns := [], harness := (true, "86d828f964bbb0f6ef563d18b535cafd6d920c47308b413b7994e2a3e5a61efd"), looks := true }, kinds := [], alts := [], laidByText := true, laidKinds := [.data, .data, .data, .sentinel, .sentinel], laidTests := true, laidLooks := .later }
def DecShapeCardSaid : Prop := Claim7.holds Tryd.pinned (.plain (OpenSpec.ofChange decShapeSpec)) decShapeCard

/-- THE TIED CARD OF 'hagglerlaw02.DecOrder'. -/
def decOrderCard : Claim7 := { stood := { row := decOrderRow, standIns := [], harness := (true, "86d828f964bbb0f6ef563d18b535cafd6d920c47308b413b7994e2a3e5a61efd"), looks := true }, kinds := [], alts := [], laidByText := true, laidKinds := [.data, .data, .data, .sentinel, .sentinel], laidTests := true, laidLooks := .later }
def DecOrderCardSaid : Prop := Claim7.holds Tryd.pinned (.plain (OpenSpec.ofChange decOrderSpec)) decOrderCard

/-- THE TIED CARD OF 'hagglerlaw02.DecSigns'. -/
def decSignsCard : Claim7 := { stood := { row := decSignsRow, standIns := [], harness := (true, "86d828f964bbb0f6ef563d18b535cafd6d920c47308b413b7994e2a3e5a61efd"), looks := true }, kinds := [], alts := [], laidByText := true, laidKinds := [.data, .data, .data, .sentinel, .sentinel], laidTests := true, laidLooks := .later }
def DecSignsCardSaid : Prop := Claim7.holds Tryd.pinned (.plain (OpenSpec.ofChange decSignsSpec)) decSignsCard

/-- THE SECOND FORM's CARD OF 'hagglerlaw02.DecTells'. -/
def decTellsUptoCard : Claim7 := { stood := { row := decTellsUptoRow, standIns := [], harness := (true, "86d828f964bbb0f6ef563d18b535cafd6d920c47308b413b7994e2a3e5a61efd"), looks := true }, kinds := [], alts := [], laidByText := true, laidKinds := [.data, .data, .data, .sentinel, .sentinel], laidTests := true, laidLooks := .later }
def DecTellsUptoCardSaid : Prop := Claim7.holds Tryd.pinned (.plain (OpenSpec.upto decTellsSpec)) decTellsUptoCard

/-- THE SECOND FORM's CARD OF 'hagglerlaw02.DecBack'. -/
def decBackUptoCard : Claim7 := { stood := { row := decBackUptoRow, standIns := [], harness := (true, "86d828f964bbb0f6ef563d18b535cafd6d920c47308b413b7994e2a3e5a61efd"), looks := true }, kinds := [], alts := [], laidByText := true, laidKinds := [.data, .data, .data, .sentinel, .sentinel], laidTests := true, laidLooks := .later }
def DecBackUptoCardSaid : Prop := Claim7.holds Tryd.pinned (.plain (OpenSpec.upto decBackSpec)) decBackUptoCard

/-- THE SECOND FORM's CARD OF 'hagglerlaw02.DecForth'. -/
def decForthUptoCard : Claim7 := { stood := { row := decForthUptoRow, standIns := [], harness := (true, "86d828f964bbb0f6ef563d18b535cafd6d920c47308b413b7994e2a3e5a61efd"), looks := true }, kinds := [], alts := [], laidByText := true, laidKinds := [.data, .data, .data, .sentinel, .sentinel], laidTests := true, laidLooks := .later }
def DecForthUptoCardSaid : Prop := Claim7.holds Tryd.pinned (.plain (OpenSpec.upto decForthSpec)) decForthUptoCard

/-- THE SECOND FORM's CARD OF 'hagglerlaw02.DecShape'. -/
def decShapeUptoCard : Claim7 := { stood := { row := decShapeUptoRow, standIns := [], harness := (true, "86d828f964bbb0f6ef563d18b535cafd6d920c47308b413b7994e2a3e5a61efd"), looks := true }, kinds := [], alts := [], laidByText := true, laidKinds := [.data, .data, .data, .sentinel, .sentinel], laidTests := true, laidLooks := .later }
def DecShapeUptoCardSaid : Prop := Claim7.holds Tryd.pinned (.plain (OpenSpec.upto decShapeSpec)) decShapeUptoCard

/-- THE SECOND FORM's CARD OF 'hagglerlaw02.DecOrder'. -/
def decOrderUptoCard : Claim7 := { stood := { row := decOrderUptoRow, standIns := [], harness := (true, "86d828f964bbb0f6ef563d18b535cafd6d920c47308b413b7994e2a3e5a61efd"), looks := true }, kinds := [], alts := [], laidByText := true, laidKinds := [.data, .data, .data, .sentinel, .sentinel], laidTests := true, laidLooks := .later }
def DecOrderUptoCardSaid : Prop := Claim7.holds Tryd.pinned (.plain (OpenSpec.upto decOrderSpec)) decOrderUptoCard

/-- THE SECOND FORM's CARD OF 'hagglerlaw02.DecSigns'. -/
def decSignsUptoCard : Claim7 := { stood := { row := decSignsUptoRow, standIns := [], harness := (true, "86d828f964bbb0f6ef563d18b535cafd6d920c47308b413b7994e2a3e5a61efd"), looks := true }, kinds := [], alts := [], laidByText := true, laidKinds := [.data, .data, .data, .sentinel, .sentinel], laidTests := true, laidLooks := .later }
def DecSignsUptoCardSaid : Prop := Claim7.holds Tryd.pinned (.plain (OpenSpec.upto decSignsSpec)) decSignsUptoCard
end Rows
end Go.Proofs.YtglbgfjmfccemaaDoor
