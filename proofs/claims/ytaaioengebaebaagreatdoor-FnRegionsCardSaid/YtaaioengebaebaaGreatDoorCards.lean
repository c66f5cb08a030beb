/-
  DERIVED. GIVEN WITH THE SEED: THE CARDS: each row of YtaaioengebaebaaGreatDoorRows.lean that lists a variable, with what it lists TIED to the program's text (the seventh form; the later family's looks); each row that meets fmt, with fmt's text TOLD by the authors' own Lean function (tested against real Go, not proved from fmt's source: count such statements apart). THE CARD IS WHAT COUNTS. Prove the row's statement (the work); the ties are given (YtaaioengebaebaaGreatDoorTie.lean); close each card by the builder's one call (the guide's Derived/Test/ToyasCard.lean, 'card_holds'). Laid BY PROGRAM, IN A SANDBOX (cutbox-door.mjs). By AI agents, Wed Nov 11 2026. No macro, syntax, notation, axiom, sorry.
-/
import Derived.Test.YtaaioengebaebaaGreatDoorRows
import GoSem.ClaimSeven
namespace Go.Proofs.YtaaioengebaebaaGreatDoor
namespace Rows

/-- THE TIED CARD OF 'laws.FnExactBestPoint'. -/
def fnExactBestPointCard : Claim7 := { stood := { row := fnExactBestPointRow, standIns := [], harness := (true, "e56d672c7f5304275f347856c5854d63472a0ba2299b139799193117c00b9007"), looks := false }, kinds := [], alts := [], laidByText := true, laidKinds := [.data, .widerDeep, .pinned], laidTests := true, laidLooks := .later }
def FnExactBestPointCardSaid : Prop := Claim7.holds Tryz.pinned (.plain (OpenSpec.ofChange fnExactBestPointSpec)) fnExactBestPointCard

/-- THE TIED CARD OF 'laws.FnExactAreCompatible'. -/
def fnExactAreCompatibleCard : Claim7 := { stood := { row := fnExactAreCompatibleRow, standIns := [], harness := (true, "e56d672c7f5304275f347856c5854d63472a0ba2299b139799193117c00b9007"), looks := false }, kinds := [], alts := [], laidByText := true, laidKinds := [.data, .widerDeep, .pinned], laidTests := true, laidLooks := .later }
def FnExactAreCompatibleCardSaid : Prop := Claim7.holds Tryz.pinned (.plain (OpenSpec.ofChange fnExactAreCompatibleSpec)) fnExactAreCompatibleCard

/-- THE TIED CARD OF 'laws.FnExactNarrowestOf'. -/
def fnExactNarrowestOfCard : Claim7 := { stood := { row := fnExactNarrowestOfRow, standIns := [], harness := (true, "e56d672c7f5304275f347856c5854d63472a0ba2299b139799193117c00b9007"), looks := false }, kinds := [], alts := [], laidByText := true, laidKinds := [.data, .widerDeep, .pinned], laidTests := true, laidLooks := .later }
def FnExactNarrowestOfCardSaid : Prop := Claim7.holds Tryz.pinned (.plain (OpenSpec.ofChange fnExactNarrowestOfSpec)) fnExactNarrowestOfCard

/-- THE TIED CARD OF 'laws.FnExactRegionOf'. -/
def fnExactRegionOfCard : Claim7 := { stood := { row := fnExactRegionOfRow, standIns := [], harness := (true, "e56d672c7f5304275f347856c5854d63472a0ba2299b139799193117c00b9007"), looks := false }, kinds := [], alts := [], laidByText := true, laidKinds := [.data, .widerDeep, .pinned], laidTests := true, laidLooks := .later }
def FnExactRegionOfCardSaid : Prop := Claim7.holds Tryz.pinned (.plain (OpenSpec.ofChange fnExactRegionOfSpec)) fnExactRegionOfCard

/-- THE TIED CARD OF 'laws.FnRegions'. -/
def fnRegionsCard : Claim7 := { stood := { row := fnRegionsRow, standIns := [], harness := (true, "e56d672c7f5304275f347856c5854d63472a0ba2299b139799193117c00b9007"), looks := false }, kinds := [], alts := [], laidByText := true, laidKinds := [.data, .widerDeep, .pinned], laidTests := true, laidLooks := .later }
def FnRegionsCardSaid : Prop := Claim7.holds Tryz.pinned (.plain (OpenSpec.ofChange fnRegionsSpec)) fnRegionsCard

/-- THE SECOND FORM's CARD OF 'laws.FnExactBestPoint'. -/
def fnExactBestPointUptoCard : Claim7 := { stood := { row := fnExactBestPointUptoRow, standIns := [], harness := (true, "e56d672c7f5304275f347856c5854d63472a0ba2299b139799193117c00b9007"), looks := false }, kinds := [], alts := [], laidByText := true, laidKinds := [.data, .widerDeep, .pinned], laidTests := true, laidLooks := .later }
def FnExactBestPointUptoCardSaid : Prop := Claim7.holds Tryz.pinned (.plain (OpenSpec.upto fnExactBestPointSpec)) fnExactBestPointUptoCard

/-- THE SECOND FORM's CARD OF 'laws.FnExactAreCompatible'. -/
def fnExactAreCompatibleUptoCard : Claim7 := { stood := { row := fnExactAreCompatibleUptoRow, standIns := [], harness := (true, "e56d672c7f5304275f347856c5854d63472a0ba2299b139799193117c00b9007"), looks := false }, kinds := [], alts := [], laidByText := true, laidKinds := [.data, .widerDeep, .pinned], laidTests := true, laidLooks := .later }
def FnExactAreCompatibleUptoCardSaid : Prop := Claim7.holds Tryz.pinned (.plain (OpenSpec.upto fnExactAreCompatibleSpec)) fnExactAreCompatibleUptoCard

/-- THE SECOND FORM's CARD OF 'laws.FnExactNarrowestOf'. -/
def fnExactNarrowestOfUptoCard : Claim7 := { stood := { row := fnExactNarrowestOfUptoRow, standIns := [], harness := (true, "e56d672c7f5304275f347856c5854d63472a0ba2299b139799193117c00b9007"), looks := false }, kinds := [], alts := [], laidByText := true, laidKinds := [.data, .widerDeep, .pinned], laidTests := true, laidLooks := .later }
def FnExactNarrowestOfUptoCardSaid : Prop := Claim7.holds Tryz.pinned (.plain (OpenSpec.upto fnExactNarrowestOfSpec)) fnExactNarrowestOfUptoCard

/-- THE SECOND FORM's CARD OF 'laws.FnExactRegionOf'. -/
def fnExactRegionOfUptoCard : Claim7 := { stood := { row := fnExactRegionOfUptoRow, standIns := [], harness := (true, "e56d672c7f5304275f347856c5854d63472a0ba2299b139799193117c00b9007"), looks := false }, kinds := [], alts := [], laidByText := true, laidKinds := [.data, .widerDeep, .pinned], laidTests := true, laidLooks := .later }
def FnExactRegionOfUptoCardSaid : Prop := Claim7.holds Tryz.pinned (.plain (OpenSpec.upto fnExactRegionOfSpec)) fnExactRegionOfUptoCard

/-- THE SECOND FORM's CARD OF 'laws.FnRegions'. -/
def fnRegionsUptoCard : Claim7 := { stood := { row := fnRegionsUptoRow, standIns := [], harness := (true, "e56d672c7f5304275f347856c5854d63472a0ba2299b139799193117c00b9007"), looks := false }, kinds := [], alts := [], laidByText := true, laidKinds := [.data, .widerDeep, .pinned], laidTests := true, laidLooks := .later }
def FnRegionsUptoCardSaid : Prop := Claim7.holds Tryz.pinned (.plain (OpenSpec.upto fnRegionsSpec)) fnRegionsUptoCard
end Rows
end Go.Proofs.YtaaioengebaebaaGreatDoor
