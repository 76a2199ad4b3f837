/-
  DERIVED. GIVEN WITH THE SEED: THE CARDS: each row of YtkolnkjdcncmpaaGreatDoorRows.lean that lists a variable, with what it lists TIED to the program's text (the seventh form; the later family's looks); each row that meets fmt, with fmt's text TOLD by the authors' own Lean function (tested against real Go, not proved from fmt's source: count such statements apart). THE CARD IS WHAT COUNTS. Prove the row's statement (the work); the ties are given (YtkolnkjdcncmpaaGreatDoorTie.lean); close each card by the builder's one call (the guide's Derived/Test/ToyasCard.lean, 'card_holds'). Laid BY PROGRAM, IN A SANDBOX (cutbox-door.mjs). By AI agents, Wed Nov 11 2026. No macro, syntax, notation, axiom, sorry.
-/
import Derived.Test.YtkolnkjdcncmpaaGreatDoorRows
import GoSem.ClaimSeven
namespace Go.Proofs.YtkolnkjdcncmpaaGreatDoor
namespace Rows

/-- THE TIED CARD OF 'hagglerlaw15.PaceTells'. -/
def paceTellsCard : Claim7 := { stood := { row := paceTellsRow, standIns := [], harness := (true, "5a5f1332f4ab531912acb466eddff405b3420e37aed80ccad41c7e499f4d3f98"), looks := true }, kinds := [], alts := [], laidByText := true, laidKinds := [.data, .data, .data, .sentinel, .sentinel], laidTests := true, laidLooks := .later }
def PaceTellsCardSaid : Prop := Claim7.holds Tryz.pinned (.plain (OpenSpec.ofChange paceTellsSpec)) paceTellsCard

/-- THE TIED CARD OF 'hagglerlaw15.PaceApart'. -/
def paceApartCard : Claim7 := { stood := { row := paceApartRow, standIns := [], harness := (true, "5a5f1332f4ab531912acb466eddff405b3420e37aed80ccad41c7e499f4d3f98"), looks := true }, kinds := [], alts := [], laidByText := true, laidKinds := [.data, .data, .data, .sentinel, .sentinel], laidTests := true, laidLooks := .later }
def PaceApartCardSaid : Prop := Claim7.holds Tryz.pinned (.plain (OpenSpec.ofChange paceApartSpec)) paceApartCard

/-- THE TIED CARD OF 'hagglerlaw15.PaceOnce'. -/
def paceOnceCard : Claim7 := { stood := { row := paceOnceRow, standIns := [], harness := (true, "5a5f1332f4ab531912acb466eddff405b3420e37aed80ccad41c7e499f4d3f98"), looks := true }, kinds := [], alts := [], laidByText := true, laidKinds := [.data, .data, .data, .sentinel, .sentinel], laidTests := true, laidLooks := .later }
def PaceOnceCardSaid : Prop := Claim7.holds Tryz.pinned (.plain (OpenSpec.ofChange paceOnceSpec)) paceOnceCard

/-- THE TIED CARD OF 'hagglerlaw15.PaceSwings'. -/
def paceSwingsCard : Claim7 := { stood := { row := paceSwingsRow, standIns := [], harness := (true, "5a5f1332f4ab531912acb466eddff405b3420e37aed80ccad41c7e499f4d3f98"), looks := true }, kinds := [], alts := [], laidByText := true, laidKinds := [.data, .data, .data, .sentinel, .sentinel], laidTests := true, laidLooks := .later }
def PaceSwingsCardSaid : Prop := Claim7.holds Tryz.pinned (.plain (OpenSpec.ofChange paceSwingsSpec)) paceSwingsCard

/-- THE TIED CARD OF 'hagglerlaw15.PaceBand'. -/
def paceBandCard : Claim7 := { stood := { row := paceBandRow, standIns := [], harness := (true, "5a5f1332f4ab531912acb466eddff405b3420e37aed80ccad41c7e499f4d3f98"), looks := true }, kinds := [], alts := [], laidByText := true, laidKinds := [.data, .data, .data, .sentinel, .sentinel], laidTests := true, laidLooks := .later }
def PaceBandCardSaid : Prop := Claim7.holds Tryz.pinned (.plain (OpenSpec.ofChange paceBandSpec)) paceBandCard

/-- THE TIED CARD OF 'hagglerlaw15.PaceRing'. -/
def paceRingCard : Claim7 := { stood := { row := paceRingRow, standIns := [], harness := (true, "5a5f1332f4ab531912acb466eddff405b3420e37aed80ccad41c7e499f4d3f98"), looks := true }, kinds := [], alts := [], laidByText := true, laidKinds := [.data, .data, .data, .sentinel, .sentinel], laidTests := true, laidLooks := .later }
def PaceRingCardSaid : Prop := Claim7.holds Tryz.pinned (.plain (OpenSpec.ofChange paceRingSpec)) paceRingCard

/-- THE TIED CARD OF 'hagglerlaw14.ConfigTells'. -/
def configTellsCard : Claim7 := { stood := { row := configTellsRow, standIns := [], harness := (true, "5a5f1332f4ab531912acb466eddff405b3420e37aed80ccad41c7e499f4d3f98"), looks := true }, kinds := [], alts := [], laidByText := true, laidKinds := [.data, .data, .data, .sentinel, .sentinel], laidTests := true, laidLooks := .later }
def ConfigTellsCardSaid : Prop := Claim7.holds Tryz.pinned (.plain (OpenSpec.ofChange configTellsSpec)) configTellsCard

/-- THE TIED CARD OF 'hagglerlaw14.ConfigWithin'. -/
def configWithinCard : Claim7 := { stood := { row := configWithinRow, standIns := [], harness := (true, "5a5f1332f4ab531912acb466eddff405b3420e37aed80ccad41c7e499f4d3f98"), looks := true }, kinds := [], alts := [], laidByText := true, laidKinds := [.data, .data, .data, .sentinel, .sentinel], laidTests := true, laidLooks := .later }
def ConfigWithinCardSaid : Prop := Claim7.holds Tryz.pinned (.plain (OpenSpec.ofChange configWithinSpec)) configWithinCard

/-- THE TIED CARD OF 'hagglerlaw14.ConfigOrder'. -/
def configOrderCard : Claim7 := { stood := { row := configOrderRow, standIns := [], harness := (true, "5a5f1332f4ab531912acb466eddff405b3420e37aed80ccad41c7e499f4d3f98"), looks := true }, kinds := [], alts := [], laidByText := true, laidKinds := [.data, .data, .data, .sentinel, .sentinel], laidTests := true, laidLooks := .later }
def ConfigOrderCardSaid : Prop := Claim7.holds Tryz.pinned (.plain (OpenSpec.ofChange configOrderSpec)) configOrderCard

/-- THE TIED CARD OF 'hagglerlaw14.ConfigFloor'. -/
def configFloorCard : Claim7 := { stood := { row := configFloorRow, standIns := [], harness := (true, "5a5f1332f4ab531912acb466eddff405b3420e37aed80ccad41c7e499f4d3f98"), looks := true }, kinds := [], alts := [], laidByText := true, laidKinds := [.data, .data, .data, .sentinel, .sentinel], laidTests := true, laidLooks := .later }
def ConfigFloorCardSaid : Prop := Claim7.holds Tryz.pinned (.plain (OpenSpec.ofChange configFloorSpec)) configFloorCard

/-- THE TIED CARD OF 'hagglerlaw14.ConfigMap'. -/
def configMapCard : Claim7 := { stood := { row := configMapRow, standIns := [], harness := (true, "5a5f1332f4ab531912acb466eddff405b3420e37aed80ccad41c7e499f4d3f98"), looks := true }, kinds := [], alts := [], laidByText := true, laidKinds := [.data, .data, .data, .sentinel, .sentinel], laidTests := true, laidLooks := .later }
def ConfigMapCardSaid : Prop := Claim7.holds Tryz.pinned (.plain (OpenSpec.ofChange configMapSpec)) configMapCard

/-- THE TIED CARD OF 'hagglerlaw14.ConfigAlone'. -/
def configAloneCard : Claim7 := { stood := { row := configAloneRow, standIns := [], harness := (true, "5a5f1332f4ab531912acb466eddff405b3420e37aed80ccad41c7e499f4d3f98"), looks := true }, kinds := [], alts := [], laidByText := true, laidKinds := [.data, .data, .data, .sentinel, .sentinel], laidTests := true, laidLooks := .later }
def ConfigAloneCardSaid : Prop := Claim7.holds Tryz.pinned (.plain (OpenSpec.ofChange configAloneSpec)) configAloneCard

/-- THE SECOND FORM's CARD OF 'hagglerlaw15.PaceTells'. -/
def paceTellsUptoCard : Claim7 := { stood := { row := paceTellsUptoRow, standIns := [], harness := (true, "5a5f1332f4ab531912acb466eddff405b3420e37aed80ccad41c7e499f4d3f98"), looks := true }, kinds := [], alts := [], laidByText := true, laidKinds := [.data, .data, .data, .sentinel, .sentinel], laidTests := true, laidLooks := .later }
def PaceTellsUptoCardSaid : Prop := Claim7.holds Tryz.pinned (.plain (OpenSpec.upto paceTellsSpec)) paceTellsUptoCard

/-- THE SECOND FORM's CARD OF 'hagglerlaw15.PaceApart'. -/
def paceApartUptoCard : Claim7 := { stood := { row := paceApartUptoRow, standIns := [], harness := (true, "5a5f1332f4ab531912acb466eddff405b3420e37aed80ccad41c7e499f4d3f98"), looks := true }, kinds := [], alts := [], laidByText := true, laidKinds := [.data, .data, .data, .sentinel, .sentinel], laidTests := true, laidLooks := .later }
def PaceApartUptoCardSaid : Prop := Claim7.holds Tryz.pinned (.plain (OpenSpec.upto paceApartSpec)) paceApartUptoCard

/-- THE SECOND FORM's CARD OF 'hagglerlaw15.PaceOnce'. -/
def paceOnceUptoCard : Claim7 := { stood := { row := paceOnceUptoRow, standIns := [], harness := (true, "5a5f1332f4ab531912acb466eddff405b3420e37aed80ccad41c7e499f4d3f98"), looks := true }, kinds := [], alts := [], laidByText := true, laidKinds := [.data, .data, .data, .sentinel, .sentinel], laidTests := true, laidLooks := .later }
def PaceOnceUptoCardSaid : Prop := Claim7.holds Tryz.pinned (.plain (OpenSpec.upto paceOnceSpec)) paceOnceUptoCard

/-- THE SECOND FORM's CARD OF 'hagglerlaw15.PaceSwings'. -/
def paceSwingsUptoCard : Claim7 := { stood := { row := paceSwingsUptoRow, standIns := [], harness := (true, "5a5f1332f4ab531912acb466eddff405b3420e37aed80ccad41c7e499f4d3f98"), looks := true }, kinds := [], alts := [], laidByText := true, laidKinds := [.data, .data, .data, .sentinel, .sentinel], laidTests := true, laidLooks := .later }
def PaceSwingsUptoCardSaid : Prop := Claim7.holds Tryz.pinned (.plain (OpenSpec.upto paceSwingsSpec)) paceSwingsUptoCard

/-- THE SECOND FORM's CARD OF 'hagglerlaw15.PaceBand'. -/
def paceBandUptoCard : Claim7 := { stood := { row := paceBandUptoRow, standIns := [], harness := (true, "5a5f1332f4ab531912acb466eddff405b3420e37aed80ccad41c7e499f4d3f98"), looks := true }, kinds := [], alts := [], laidByText := true, laidKinds := [.data, .data, .data, .sentinel, .sentinel], laidTests := true, laidLooks := .later }
def PaceBandUptoCardSaid : Prop := Claim7.holds Tryz.pinned (.plain (OpenSpec.upto paceBandSpec)) paceBandUptoCard

/-- THE SECOND FORM's CARD OF 'hagglerlaw15.PaceRing'. -/
def paceRingUptoCard : Claim7 := { stood := { row := paceRingUptoRow, standIns := [], harness := (true, "5a5f1332f4ab531912acb466eddff405b3420e37aed80ccad41c7e499f4d3f98"), looks := true }, kinds := [], alts := [], laidByText := true, laidKinds := [.data, .data, .data, .sentinel, .sentinel], laidTests := true, laidLooks := .later }
def PaceRingUptoCardSaid : Prop := Claim7.holds Tryz.pinned (.plain (OpenSpec.upto paceRingSpec)) paceRingUptoCard

/-- THE SECOND FORM's CARD OF 'hagglerlaw14.ConfigTells'. -/
def configTellsUptoCard : Claim7 := { stood := { row := configTellsUptoRow, standIns := [], harness := (true, "5a5f1332f4ab531912acb466eddff405b3420e37aed80ccad41c7e499f4d3f98"), looks := true }, kinds := [], alts := [], laidByText := true, laidKinds := [.data, .data, .data, .sentinel, .sentinel], laidTests := true, laidLooks := .later }
def ConfigTellsUptoCardSaid : Prop := Claim7.holds Tryz.pinned (.plain (OpenSpec.upto configTellsSpec)) configTellsUptoCard

/-- THE SECOND FORM's CARD OF 'hagglerlaw14.ConfigWithin'. -/
def configWithinUptoCard : Claim7 := { stood := { row := configWithinUptoRow, standIns := [], harness := (true, "5a5f1332f4ab531912acb466eddff405b3420e37aed80ccad41c7e499f4d3f98"), looks := true }, kinds := [], alts := [], laidByText := true, laidKinds := [.data, .data, .data, .sentinel, .sentinel], laidTests := true, laidLooks := .later }
def ConfigWithinUptoCardSaid : Prop := Claim7.holds Tryz.pinned (.plain (OpenSpec.upto configWithinSpec)) configWithinUptoCard

/-- THE SECOND FORM's CARD OF 'hagglerlaw14.ConfigOrder'. -/
def configOrderUptoCard : Claim7 := { stood := { row := configOrderUptoRow, standIns := [], harness := (true, "5a5f1332f4ab531912acb466eddff405b3420e37aed80ccad41c7e499f4d3f98"), looks := true }, kinds := [], alts := [], laidByText := true, laidKinds := [.data, .data, .data, .sentinel, .sentinel], laidTests := true, laidLooks := .later }
def ConfigOrderUptoCardSaid : Prop := Claim7.holds Tryz.pinned (.plain (OpenSpec.upto configOrderSpec)) configOrderUptoCard

/-- THE SECOND FORM's CARD OF 'hagglerlaw14.ConfigFloor'. -/
def configFloorUptoCard : Claim7 := { stood := { row := configFloorUptoRow, standIns := [], harness := (true, "5a5f1332f4ab531912acb466eddff405b3420e37aed80ccad41c7e499f4d3f98"), looks := true }, kinds := [], alts := [], laidByText := true, laidKinds := [.data, .data, .data, .sentinel, .sentinel], laidTests := true, laidLooks := .later }
def ConfigFloorUptoCardSaid : Prop := Claim7.holds Tryz.pinned (.plain (OpenSpec.upto configFloorSpec)) configFloorUptoCard

/-- THE SECOND FORM's CARD OF 'hagglerlaw14.ConfigMap'. -/
def configMapUptoCard : Claim7 := { stood := { row := configMapUptoRow, standIns := [], harness := (true, "5a5f1332f4ab531912acb466eddff405b3420e37aed80ccad41c7e499f4d3f98"), looks := true }, kinds := [], alts := [], laidByText := true, laidKinds := [.data, .data, .data, .sentinel, .sentinel], laidTests := true, laidLooks := .later }
def ConfigMapUptoCardSaid : Prop := Claim7.holds Tryz.pinned (.plain (OpenSpec.upto configMapSpec)) configMapUptoCard

/-- THE SECOND FORM's CARD OF 'hagglerlaw14.ConfigAlone'. -/
def configAloneUptoCard : Claim7 := { stood := { row := configAloneUptoRow, standIns := [], harness := (true, "5a5f1332f4ab531912acb466eddff405b3420e37aed80ccad41c7e499f4d3f98"), looks := true }, kinds := [], alts := [], laidByText := true, laidKinds := [.data, .data, .data, .sentinel, .sentinel], laidTests := true, laidLooks := .later }
def ConfigAloneUptoCardSaid : Prop := Claim7.holds Tryz.pinned (.plain (OpenSpec.upto configAloneSpec)) configAloneUptoCard
end Rows
end Go.Proofs.YtkolnkjdcncmpaaGreatDoor
