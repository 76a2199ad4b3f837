/-
  DERIVED. GIVEN WITH THE SEED: THE CARDS: each row of YtlhplknmcdllfaaDoorRows.lean that lists a variable, with what it lists TIED to the program's text (the seventh form; the later family's looks); each row that meets fmt, with fmt's text TOLD by the authors' own Lean function (tested against real Go, not proved from fmt's source: count such statements apart). THE CARD IS WHAT COUNTS. Prove the row's statement (the work); the ties are given (YtlhplknmcdllfaaDoorTie.lean); close each card by the builder's one call (the guide's Derived/Test/ToyasCard.lean, 'card_holds'). Laid BY PROGRAM, IN A SANDBOX (cutbox-door.mjs). By AI agents, Wed Nov 11 2026. No macro, syntax, notation, axiom, sorry.
-/
import Derived.Test.YtlhplknmcdllfaaDoorRows
import GoSem.ClaimSeven
namespace Go.Proofs.YtlhplknmcdllfaaDoor
namespace Rows

/-- THE TIED CARD OF 'hagglerlaw09.ValueOrder'. -/
def valueOrderCard : Claim7 := { stood := { row := valueOrderRow, standIns := [], harness := (true, "0f0f670022a32226b538aa8a62306da4a57dc863cf6ea5daf8c7b9d6fc313fcd"), looks := true }, kinds := [], alts := [], laidByText := true, laidKinds := [.data, .data, .data], laidTests := true, laidLooks := .later }
def ValueOrderCardSaid : Prop := Claim7.holds Tryd.pinned (.plain (OpenSpec.ofChange valueOrderSpec)) valueOrderCard

/-- THE TIED CARD OF 'hagglerlaw09.ValueLowest'. -/
def valueLowestCard : Claim7 := { stood := { row := valueLowestRow, standIns := [], harness := (true, "0f0f670022a32226b538aa8a62306da4a57dc863cf6ea5daf8c7b9d6fc313fcd"), looks := true }, kinds := [], alts := [], laidByText := true, laidKinds := [.data, .data, .data], laidTests := true, laidLooks := .later }
def ValueLowestCardSaid : Prop := Claim7.holds Tryd.pinned (.plain (OpenSpec.ofChange valueLowestSpec)) valueLowestCard

/-- THE TIED CARD OF 'hagglerlaw09.ValueBare'. -/
def valueBareCard : Claim7 := { stood := { row := valueBareRow, standIns := [], harness := (true, "0f0f670022a32226b538aa8a62306da4a57dc863cf6ea5daf8c7b9d6fc313fcd"), looks := true }, kinds := [], alts := [], laidByText := true, laidKinds := [.data, .data, .data], laidTests := true, laidLooks := .later }
def ValueBareCardSaid : Prop := Claim7.holds Tryd.pinned (.plain (OpenSpec.ofChange valueBareSpec)) valueBareCard

/-- THE TIED CARD OF 'hagglerlaw09.ValueGrows'. -/
def valueGrowsCard : Claim7 := { stood := { row := valueGrowsRow, standIns := [], harness := (true, "0f0f670022a32226b538aa8a62306da4a57dc863cf6ea5daf8c7b9d6fc313fcd"), looks := true }, kinds := [], alts := [], laidByText := true, laidKinds := [.data, .data, .data], laidTests := true, laidLooks := .later }
def ValueGrowsCardSaid : Prop := Claim7.holds Tryd.pinned (.plain (OpenSpec.ofChange valueGrowsSpec)) valueGrowsCard

/-- THE TIED CARD OF 'hagglerlaw09.ValueCuts'. -/
def valueCutsCard : Claim7 := { stood := { row := valueCutsRow, standIns := [], harness := (true, "0f0f670022a32226b538aa8a62306da4a57dc863cf6ea5daf8c7b9d6fc313fcd"), looks := true }, kinds := [], alts := [], laidByText := true, laidKinds := [.data, .data, .data], laidTests := true, laidLooks := .later }
def ValueCutsCardSaid : Prop := Claim7.holds Tryd.pinned (.plain (OpenSpec.ofChange valueCutsSpec)) valueCutsCard

/-- THE SECOND FORM's CARD OF 'hagglerlaw09.ValueOrder'. -/
def valueOrderUptoCard : Claim7 := { stood := { row := valueOrderUptoRow, standIns := [], harness := (true, "0f0f670022a32226b538aa8a62306da4a57dc863cf6ea5daf8c7b9d6fc313fcd"), looks := true }, kinds := [], alts := [], laidByText := true, laidKinds := [.data, .data, .data], laidTests := true, laidLooks := .later }
def ValueOrderUptoCardSaid : Prop := Claim7.holds Tryd.pinned (.plain (OpenSpec.upto valueOrderSpec)) valueOrderUptoCard

/-- THE SECOND FORM's CARD OF 'hagglerlaw09.ValueLowest'. -/
def valueLowestUptoCard : Claim7 := { stood := { row := valueLowestUptoRow, standIns := [], harness := (true, "0f0f670022a32226b538aa8a62306da4a57dc863cf6ea5daf8c7b9d6fc313fcd"), looks := true }, kinds := [], alts := [], laidByText := true, laidKinds := [.data, .data, .data], laidTests := true, laidLooks := .later }
def ValueLowestUptoCardSaid : Prop := Claim7.holds Tryd.pinned (.plain (OpenSpec.upto valueLowestSpec)) valueLowestUptoCard

/-- THE SECOND FORM's CARD OF 'hagglerlaw09.ValueBare'. -/
def valueBareUptoCard : Claim7 := { stood := { row := valueBareUptoRow, standIns := [], harness := (true, "0f0f670022a32226b538aa8a62306da4a57dc863cf6ea5daf8c7b9d6fc313fcd"), looks := true }, kinds := [], alts := [], laidByText := true, laidKinds := [.data, .data, .data], laidTests := true, laidLooks := .later }
def ValueBareUptoCardSaid : Prop := Claim7.holds Tryd.pinned (.plain (OpenSpec.upto valueBareSpec)) valueBareUptoCard

/-- THE SECOND FORM's CARD OF 'hagglerlaw09.ValueGrows'. -/
def valueGrowsUptoCard : Claim7 := { stood := { row := valueGrowsUptoRow, standIns := [], harness := (true, "0f0f670022a32226b538aa8a62306da4a57dc863cf6ea5daf8c7b9d6fc313fcd"), looks := true }, kinds := [], alts := [], laidByText := true, laidKinds := [.data, .data, .data], laidTests := true, laidLooks := .later }
def ValueGrowsUptoCardSaid : Prop := Claim7.holds Tryd.pinned (.plain (OpenSpec.upto valueGrowsSpec)) valueGrowsUptoCard

/-- THE SECOND FORM's CARD OF 'hagglerlaw09.ValueCuts'. -/
def valueCutsUptoCard : Claim7 := { stood := { row := valueCutsUptoRow, standIns := [], harness := (true, "0f0f670022a32226b538aa8a62306da4a57dc863cf6ea5daf8c7b9d6fc313fcd"), looks := true }, kinds := [], alts := [], laidByText := true, laidKinds := [.data, .data, .data], laidTests := true, laidLooks := .later }
def ValueCutsUptoCardSaid : Prop := Claim7.holds Tryd.pinned (.plain (OpenSpec.upto valueCutsSpec)) valueCutsUptoCard
end Rows
end Go.Proofs.YtlhplknmcdllfaaDoor
