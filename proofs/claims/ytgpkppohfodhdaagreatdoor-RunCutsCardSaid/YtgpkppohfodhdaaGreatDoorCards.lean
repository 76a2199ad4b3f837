/-
  DERIVED. GIVEN WITH THE SEED: THE CARDS: each row of YtgpkppohfodhdaaGreatDoorRows.lean that lists a variable, with what it lists TIED to the program's text (the seventh form; the later family's looks); each row that meets fmt, with fmt's text TOLD by the authors' own Lean function (tested against real Go, not proved from fmt's source: count such statements apart). THE CARD IS WHAT COUNTS. Prove the row's statement (the work); the ties are given (YtgpkppohfodhdaaGreatDoorTie.lean); close each card by the builder's one call (the guide's Derived/Test/ToyasCard.lean, 'card_holds'). Laid BY PROGRAM, IN A SANDBOX (cutbox-door.mjs). By AI agents, Wed Nov 11 2026. No macro, syntax, notation, axiom, sorry.
-/
import Derived.Test.YtgpkppohfodhdaaGreatDoorRows
import GoSem.ClaimSeven
namespace Go.Proofs.YtgpkppohfodhdaaGreatDoor
namespace Rows

/-- THE TIED CARD OF 'hagglerlaw11.RunTells'. -/
def runTellsCard : Claim7 := { stood := { row := runTellsRow, standIns := [], harness := (true, "748487c5a5cd7b2d78e65023f42092b2e2351a2314e175d33d09a64b281ef17e"), looks := true }, kinds := [], alts := [], laidByText := true, laidKinds := [.data, .data, .data], laidTests := true, laidLooks := .later }
def RunTellsCardSaid : Prop := Claim7.holds Tryz.pinned (.plain (OpenSpec.ofChange runTellsSpec)) runTellsCard

/-- THE TIED CARD OF 'hagglerlaw11.RunSteps'. -/
def runStepsCard : Claim7 := { stood := { row := runStepsRow, standIns := [], harness := (true, "748487c5a5cd7b2d78e65023f42092b2e2351a2314e175d33d09a64b281ef17e"), looks := true }, kinds := [], alts := [], laidByText := true, laidKinds := [.data, .data, .data], laidTests := true, laidLooks := .later }
def RunStepsCardSaid : Prop := Claim7.holds Tryz.pinned (.plain (OpenSpec.ofChange runStepsSpec)) runStepsCard

/-- THE TIED CARD OF 'hagglerlaw11.RunDeep'. -/
def runDeepCard : Claim7 := { stood := { row := runDeepRow, standIns := [], harness := (true, "748487c5a5cd7b2d78e65023f42092b2e2351a2314e175d33d09a64b281ef17e"), looks := true }, kinds := [], alts := [], laidByText := true, laidKinds := [.data, .data, .data], laidTests := true, laidLooks := .later }
def RunDeepCardSaid : Prop := Claim7.holds Tryz.pinned (.plain (OpenSpec.ofChange runDeepSpec)) runDeepCard

/-- THE TIED CARD OF 'hagglerlaw11.RunOrder'. -/
def runOrderCard : Claim7 := { stood := { row := runOrderRow, standIns := [], harness := (true, "748487c5a5cd7b2d78e65023f42092b2e2351a2314e175d33d09a64b281ef17e"), looks := true }, kinds := [], alts := [], laidByText := true, laidKinds := [.data, .data, .data], laidTests := true, laidLooks := .later }
def RunOrderCardSaid : Prop := Claim7.holds Tryz.pinned (.plain (OpenSpec.ofChange runOrderSpec)) runOrderCard

/-- THE TIED CARD OF 'hagglerlaw11.RunSame'. -/
def runSameCard : Claim7 := { stood := { row := runSameRow, standIns := [], harness := (true, "748487c5a5cd7b2d78e65023f42092b2e2351a2314e175d33d09a64b281ef17e"), looks := true }, kinds := [], alts := [], laidByText := true, laidKinds := [.data, .data, .data], laidTests := true, laidLooks := .later }
def RunSameCardSaid : Prop := Claim7.holds Tryz.pinned (.plain (OpenSpec.ofChange runSameSpec)) runSameCard

/-- THE TIED CARD OF 'hagglerlaw11.RunAlone'. -/
def runAloneCard : Claim7 := { stood := { row := runAloneRow, standIns := [], harness := (true, "748487c5a5cd7b2d78e65023f42092b2e2351a2314e175d33d09a64b281ef17e"), looks := true }, kinds := [], alts := [], laidByText := true, laidKinds := [.data, .data, .data], laidTests := true, laidLooks := .later }
def RunAloneCardSaid : Prop := Claim7.holds Tryz.pinned (.plain (OpenSpec.ofChange runAloneSpec)) runAloneCard

/-- THE TIED CARD OF 'hagglerlaw11.RunCuts'. -/
def runCutsCard : Claim7 := { stood := { row := runCutsRow, standIns := [], harness := (true, "748487c5a5cd7b2d78e65023f42092b2e2351a2314e175d33d09a64b281ef17e"), looks := true }, kinds := [], alts := [], laidByText := true, laidKinds := [.data, .data, .data], laidTests := true, laidLooks := .later }
def RunCutsCardSaid : Prop := Claim7.holds Tryz.pinned (.plain (OpenSpec.ofChange runCutsSpec)) runCutsCard

/-- THE SECOND FORM's CARD OF 'hagglerlaw11.RunTells'. -/
def runTellsUptoCard : Claim7 := { stood := { row := runTellsUptoRow, standIns := [], harness := (true, "748487c5a5cd7b2d78e65023f42092b2e2351a2314e175d33d09a64b281ef17e"), looks := true }, kinds := [], alts := [], laidByText := true, laidKinds := [.data, .data, .data], laidTests := true, laidLooks := .later }
def RunTellsUptoCardSaid : Prop := Claim7.holds Tryz.pinned (.plain (OpenSpec.upto runTellsSpec)) runTellsUptoCard

/-- THE SECOND FORM's CARD OF 'hagglerlaw11.RunSteps'. -/
def runStepsUptoCard : Claim7 := { stood := { row := runStepsUptoRow, standIns := [], harness := (true, "748487c5a5cd7b2d78e65023f42092b2e2351a2314e175d33d09a64b281ef17e"), looks := true }, kinds := [], alts := [], laidByText := true, laidKinds := [.data, .data, .data], laidTests := true, laidLooks := .later }
def RunStepsUptoCardSaid : Prop := Claim7.holds Tryz.pinned (.plain (OpenSpec.upto runStepsSpec)) runStepsUptoCard

/-- THE SECOND FORM's CARD OF 'hagglerlaw11.RunDeep'. -/
def runDeepUptoCard : Claim7 := { stood := { row := runDeepUptoRow, standIns := [], harness := (true, "748487c5a5cd7b2d78e65023f42092b2e2351a2314e175d33d09a64b281ef17e"), looks := true }, kinds := [], alts := [], laidByText := true, laidKinds := [.data, .data, .data], laidTests := true, laidLooks := .later }
def RunDeepUptoCardSaid : Prop := Claim7.holds Tryz.pinned (.plain (OpenSpec.upto runDeepSpec)) runDeepUptoCard

/-- THE SECOND FORM's CARD OF 'hagglerlaw11.RunOrder'. -/
def runOrderUptoCard : Claim7 := { stood := { row := runOrderUptoRow, standIns := [], harness := (true, "748487c5a5cd7b2d78e65023f42092b2e2351a2314e175d33d09a64b281ef17e"), looks := true }, kinds := [], alts := [], laidByText := true, laidKinds := [.data, .data, .data], laidTests := true, laidLooks := .later }
def RunOrderUptoCardSaid : Prop := Claim7.holds Tryz.pinned (.plain (OpenSpec.upto runOrderSpec)) runOrderUptoCard

/-- THE SECOND FORM's CARD OF 'hagglerlaw11.RunSame'. -/
def runSameUptoCard : Claim7 := { stood := { row := runSameUptoRow, standIns := [], harness := (true, "748487c5a5cd7b2d78e65023f42092b2e2351a2314e175d33d09a64b281ef17e"), looks := true }, kinds := [], alts := [], laidByText := true, laidKinds := [.data, .data, .data], laidTests := true, laidLooks := .later }
def RunSameUptoCardSaid : Prop := Claim7.holds Tryz.pinned (.plain (OpenSpec.upto runSameSpec)) runSameUptoCard

/-- THE SECOND FORM's CARD OF 'hagglerlaw11.RunAlone'. -/
def runAloneUptoCard : Claim7 := { stood := { row := runAloneUptoRow, standIns := [], harness := (true, "748487c5a5cd7b2d78e65023f42092b2e2351a2314e175d33d09a64b281ef17e"), looks := true }, kinds := [], alts := [], laidByText := true, laidKinds := [.data, .data, .data], laidTests := true, laidLooks := .later }
def RunAloneUptoCardSaid : Prop := Claim7.holds Tryz.pinned (.plain (OpenSpec.upto runAloneSpec)) runAloneUptoCard

/-- THE SECOND FORM's CARD OF 'hagglerlaw11.RunCuts'. -/
def runCutsUptoCard : Claim7 := { stood := { row := runCutsUptoRow, standIns := [], harness := (true, "748487c5a5cd7b2d78e65023f42092b2e2351a2314e175d33d09a64b281ef17e"), looks := true }, kinds := [], alts := [], laidByText := true, laidKinds := [.data, .data, .data], laidTests := true, laidLooks := .later }
def RunCutsUptoCardSaid : Prop := Claim7.holds Tryz.pinned (.plain (OpenSpec.upto runCutsSpec)) runCutsUptoCard
end Rows
end Go.Proofs.YtgpkppohfodhdaaGreatDoor
