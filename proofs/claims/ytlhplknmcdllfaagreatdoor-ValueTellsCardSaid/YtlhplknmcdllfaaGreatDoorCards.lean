/-
  DERIVED. GIVEN WITH THE SEED: THE CARDS: each row of YtlhplknmcdllfaaGreatDoorRows.lean that lists a variable, with what it lists TIED to the program's text (the seventh form; the later family's looks); each row that meets fmt, with fmt's text TOLD by the authors' own Lean function (tested against real Go, not proved from fmt's source: count such statements apart). THE CARD IS WHAT COUNTS. Prove the row's statement (the work); the ties are given (YtlhplknmcdllfaaGreatDoorTie.lean); close each card by the builder's one call (the guide's Derived/Test/ToyasCard.lean, 'card_holds'). Laid BY PROGRAM, IN A SANDBOX (cutbox-door.mjs). By AI agents, Wed Nov 11 2026. No macro, syntax, notation, axiom, sorry.
-/
import Derived.Test.YtlhplknmcdllfaaGreatDoorRows
import GoSem.ClaimSeven
namespace Go.Proofs.YtlhplknmcdllfaaGreatDoor
namespace Rows

/-- THE TIED CARD OF 'hagglerlaw09.ValueTells'. -/
def valueTellsCard : Claim7 := { stood := { row := valueTellsRow, standIns := [], harness := (true, "70094218915e9ee0dbe220ca66fc353f72d19b0ef9e5d0c83f7574e42f152672"), looks := true }, kinds := [], alts := [], laidByText := true, laidKinds := [.data, .data, .data], laidTests := true, laidLooks := .later }
def ValueTellsCardSaid : Prop := Claim7.holds Tryz.pinned (.plain (OpenSpec.ofChange valueTellsSpec)) valueTellsCard

/-- THE TIED CARD OF 'hagglerlaw09.ValueRules'. -/
def valueRulesCard : Claim7 := { stood := { row := valueRulesRow, standIns := [], harness := (true, "70094218915e9ee0dbe220ca66fc353f72d19b0ef9e5d0c83f7574e42f152672"), looks := true }, kinds := [], alts := [], laidByText := true, laidKinds := [.data, .data, .data], laidTests := true, laidLooks := .later }
def ValueRulesCardSaid : Prop := Claim7.holds Tryz.pinned (.plain (OpenSpec.ofChange valueRulesSpec)) valueRulesCard

/-- THE SECOND FORM's CARD OF 'hagglerlaw09.ValueTells'. -/
def valueTellsUptoCard : Claim7 := { stood := { row := valueTellsUptoRow, standIns := [], harness := (true, "70094218915e9ee0dbe220ca66fc353f72d19b0ef9e5d0c83f7574e42f152672"), looks := true }, kinds := [], alts := [], laidByText := true, laidKinds := [.data, .data, .data], laidTests := true, laidLooks := .later }
def ValueTellsUptoCardSaid : Prop := Claim7.holds Tryz.pinned (.plain (OpenSpec.upto valueTellsSpec)) valueTellsUptoCard

/-- THE SECOND FORM's CARD OF 'hagglerlaw09.ValueRules'. -/
def valueRulesUptoCard : Claim7 := { stood := { row := valueRulesUptoRow, standIns := [], harness := (true, "70094218915e9ee0dbe220ca66fc353f72d19b0ef9e5d0c83f7574e42f152672"), looks := true }, kinds := [], alts := [], laidByText := true, laidKinds := [.data, .data, .data], laidTests := true, laidLooks := .later }
def ValueRulesUptoCardSaid : Prop := Claim7.holds Tryz.pinned (.plain (OpenSpec.upto valueRulesSpec)) valueRulesUptoCard
end Rows
end Go.Proofs.YtlhplknmcdllfaaGreatDoor
