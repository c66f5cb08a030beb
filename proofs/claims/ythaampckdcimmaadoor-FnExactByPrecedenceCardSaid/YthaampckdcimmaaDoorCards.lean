/-
  DERIVED. GIVEN WITH THE SEED: THE CARDS: each row of YthaampckdcimmaaDoorRows.lean that lists a variable, with what it lists TIED to the program's text (the seventh form; the later family's looks); each row that meets fmt, with fmt's text TOLD by the authors' own Lean function (tested against real Go, not proved from fmt's source: count such statements apart). THE CARD IS WHAT COUNTS. Prove the row's statement (the work); the ties are given (YthaampckdcimmaaDoorTie.lean); close each card by the builder's one call (the guide's Derived/Test/ToyasCard.lean, 'card_holds'). Laid BY PROGRAM, IN A SANDBOX (cutbox-door.mjs). By AI agents, Wed Nov 11 2026. No macro, syntax, notation, axiom, sorry.
-/
import Derived.Test.YthaampckdcimmaaDoorRows
import GoSem.ClaimSeven
namespace Go.Proofs.YthaampckdcimmaaDoor
namespace Rows

/-- THE TIED CARD OF 'laws.FnExactIsEntry'. -/
def fnExactIsEntryCard : Claim7 := { stood := { row := fnExactIsEntryRow, standIns := [], harness := (true, "45dabf5431f1c4673f768411c05fa706b058ed1b42363e9d0392146a6dbcd9e0"), looks := false }, kinds := [], alts := [], laidByText := true, laidKinds := [.data, .pinned], laidTests := true, laidLooks := .later }
def FnExactIsEntryCardSaid : Prop := Claim7.holds Tryd.pinned (.plain (OpenSpec.ofChange fnExactIsEntrySpec)) fnExactIsEntryCard

/-- THE TIED CARD OF 'laws.FnExactPhraseDistance'. -/
def fnExactPhraseDistanceCard : Claim7 := { stood := { row := fnExactPhraseDistanceRow, standIns := [], harness := (true, "45dabf5431f1c4673f768411c05fa706b058ed1b42363e9d0392146a6dbcd9e0"), looks := false }, kinds := [], alts := [], laidByText := true, laidKinds := [.data, .pinned], laidTests := true, laidLooks := .later }
def FnExactPhraseDistanceCardSaid : Prop := Claim7.holds Tryd.pinned (.plain (OpenSpec.ofChange fnExactPhraseDistanceSpec)) fnExactPhraseDistanceCard

/-- THE TIED CARD OF 'laws.FnExactAreEntries'. -/
def fnExactAreEntriesCard : Claim7 := { stood := { row := fnExactAreEntriesRow, standIns := [], harness := (true, "45dabf5431f1c4673f768411c05fa706b058ed1b42363e9d0392146a6dbcd9e0"), looks := false }, kinds := [], alts := [], laidByText := true, laidKinds := [.data, .pinned], laidTests := true, laidLooks := .later }
def FnExactAreEntriesCardSaid : Prop := Claim7.holds Tryd.pinned (.plain (OpenSpec.ofChange fnExactAreEntriesSpec)) fnExactAreEntriesCard

/-- THE TIED CARD OF 'laws.FnExactComparePrecedence'. -/
def fnExactComparePrecedenceCard : Claim7 := { stood := { row := fnExactComparePrecedenceRow, standIns := [], harness := (true, "45dabf5431f1c4673f768411c05fa706b058ed1b42363e9d0392146a6dbcd9e0"), looks := false }, kinds := [], alts := [], laidByText := true, laidKinds := [.data, .pinned], laidTests := true, laidLooks := .later }
def FnExactComparePrecedenceCardSaid : Prop := Claim7.holds Tryd.pinned (.plain (OpenSpec.ofChange fnExactComparePrecedenceSpec)) fnExactComparePrecedenceCard

/-- THE TIED CARD OF 'laws.FnExactHomonymsOf'. -/
def fnExactHomonymsOfCard : Claim7 := { stood := { row := fnExactHomonymsOfRow, standIns := [], harness := (true, "45dabf5431f1c4673f768411c05fa706b058ed1b42363e9d0392146a6dbcd9e0"), looks := false }, kinds := [], alts := [], laidByText := true, laidKinds := [.data, .pinned], laidTests := true, laidLooks := .later }
def FnExactHomonymsOfCardSaid : Prop := Claim7.holds Tryd.pinned (.plain (OpenSpec.ofChange fnExactHomonymsOfSpec)) fnExactHomonymsOfCard

/-- THE TIED CARD OF 'laws.FnExactIsAdmitted'. -/
def fnExactIsAdmittedCard : Claim7 := { stood := { row := fnExactIsAdmittedRow, standIns := [], harness := (true, "45dabf5431f1c4673f768411c05fa706b058ed1b42363e9d0392146a6dbcd9e0"), looks := false }, kinds := [], alts := [], laidByText := true, laidKinds := [.data, .pinned], laidTests := true, laidLooks := .later }
def FnExactIsAdmittedCardSaid : Prop := Claim7.holds Tryd.pinned (.plain (OpenSpec.ofChange fnExactIsAdmittedSpec)) fnExactIsAdmittedCard

/-- THE TIED CARD OF 'laws.FnExactDisplaced'. -/
def fnExactDisplacedCard : Claim7 := { stood := { row := fnExactDisplacedRow, standIns := [], harness := (true, "45dabf5431f1c4673f768411c05fa706b058ed1b42363e9d0392146a6dbcd9e0"), looks := false }, kinds := [], alts := [], laidByText := true, laidKinds := [.data, .pinned], laidTests := true, laidLooks := .later }
def FnExactDisplacedCardSaid : Prop := Claim7.holds Tryd.pinned (.plain (OpenSpec.ofChange fnExactDisplacedSpec)) fnExactDisplacedCard

/-- THE TIED CARD OF 'laws.FnExactQualifiedText'. -/
def fnExactQualifiedTextCard : Claim7 := { stood := { row := fnExactQualifiedTextRow, standIns := [], harness := (true, "45dabf5431f1c4673f768411c05fa706b058ed1b42363e9d0392146a6dbcd9e0"), looks := false }, kinds := [], alts := [], laidByText := true, laidKinds := [.data, .widerDeep, .pinned], laidTests := true, laidLooks := .later }
def FnExactQualifiedTextCardSaid : Prop := Claim7.holds Tryd.pinned (.plain (OpenSpec.ofChange fnExactQualifiedTextSpec)) fnExactQualifiedTextCard

/-- THE TIED CARD OF 'laws.FnExactByPrecedence'. -/
def fnExactByPrecedenceCard : Claim7 := { stood := { row := fnExactByPrecedenceRow, standIns := [], harness := (true, "45dabf5431f1c4673f768411c05fa706b058ed1b42363e9d0392146a6dbcd9e0"), looks := false }, kinds := [], alts := [], laidByText := true, laidKinds := [.data, .pinned], laidTests := true, laidLooks := .later }
def FnExactByPrecedenceCardSaid : Prop := Claim7.holds Tryd.pinned (.plain (OpenSpec.ofChange fnExactByPrecedenceSpec)) fnExactByPrecedenceCard

/-- THE SECOND FORM's CARD OF 'laws.FnExactIsEntry'. -/
def fnExactIsEntryUptoCard : Claim7 := { stood := { row := fnExactIsEntryUptoRow, standIns := [], harness := (true, "45dabf5431f1c4673f768411c05fa706b058ed1b42363e9d0392146a6dbcd9e0"), looks := false }, kinds := [], alts := [], laidByText := true, laidKinds := [.data, .pinned], laidTests := true, laidLooks := .later }
def FnExactIsEntryUptoCardSaid : Prop := Claim7.holds Tryd.pinned (.plain (OpenSpec.upto fnExactIsEntrySpec)) fnExactIsEntryUptoCard

/-- THE SECOND FORM's CARD OF 'laws.FnExactPhraseDistance'. -/
def fnExactPhraseDistanceUptoCard : Claim7 := { stood := { row := fnExactPhraseDistanceUptoRow, standIns := [], harness := (true, "45dabf5431f1c4673f768411c05fa706b058ed1b42363e9d0392146a6dbcd9e0"), looks := false }, kinds := [], alts := [], laidByText := true, laidKinds := [.data, .pinned], laidTests := true, laidLooks := .later }
def FnExactPhraseDistanceUptoCardSaid : Prop := Claim7.holds Tryd.pinned (.plain (OpenSpec.upto fnExactPhraseDistanceSpec)) fnExactPhraseDistanceUptoCard

/-- THE SECOND FORM's CARD OF 'laws.FnExactAreEntries'. -/
def fnExactAreEntriesUptoCard : Claim7 := { stood := { row := fnExactAreEntriesUptoRow, standIns := [], harness := (true, "45dabf5431f1c4673f768411c05fa706b058ed1b42363e9d0392146a6dbcd9e0"), looks := false }, kinds := [], alts := [], laidByText := true, laidKinds := [.data, .pinned], laidTests := true, laidLooks := .later }
def FnExactAreEntriesUptoCardSaid : Prop := Claim7.holds Tryd.pinned (.plain (OpenSpec.upto fnExactAreEntriesSpec)) fnExactAreEntriesUptoCard

/-- THE SECOND FORM's CARD OF 'laws.FnExactComparePrecedence'. -/
def fnExactComparePrecedenceUptoCard : Claim7 := { stood := { row := fnExactComparePrecedenceUptoRow, standIns := [], harness := (true, "45dabf5431f1c4673f768411c05fa706b058ed1b42363e9d0392146a6dbcd9e0"), looks := false }, kinds := [], alts := [], laidByText := true, laidKinds := [.data, .pinned], laidTests := true, laidLooks := .later }
def FnExactComparePrecedenceUptoCardSaid : Prop := Claim7.holds Tryd.pinned (.plain (OpenSpec.upto fnExactComparePrecedenceSpec)) fnExactComparePrecedenceUptoCard

/-- THE SECOND FORM's CARD OF 'laws.FnExactHomonymsOf'. -/
def fnExactHomonymsOfUptoCard : Claim7 := { stood := { row := fnExactHomonymsOfUptoRow, standIns := [], harness := (true, "45dabf5431f1c4673f768411c05fa706b058ed1b42363e9d0392146a6dbcd9e0"), looks := false }, kinds := [], alts := [], laidByText := true, laidKinds := [.data, .pinned], laidTests := true, laidLooks := .later }
def FnExactHomonymsOfUptoCardSaid : Prop := Claim7.holds Tryd.pinned (.plain (OpenSpec.upto fnExactHomonymsOfSpec)) fnExactHomonymsOfUptoCard

/-- THE SECOND FORM's CARD OF 'laws.FnExactIsAdmitted'. -/
def fnExactIsAdmittedUptoCard : Claim7 := { stood := { row := fnExactIsAdmittedUptoRow, standIns := [], harness := (true, "45dabf5431f1c4673f768411c05fa706b058ed1b42363e9d0392146a6dbcd9e0"), looks := false }, kinds := [], alts := [], laidByText := true, laidKinds := [.data, .pinned], laidTests := true, laidLooks := .later }
def FnExactIsAdmittedUptoCardSaid : Prop := Claim7.holds Tryd.pinned (.plain (OpenSpec.upto fnExactIsAdmittedSpec)) fnExactIsAdmittedUptoCard

/-- THE SECOND FORM's CARD OF 'laws.FnExactDisplaced'. -/
def fnExactDisplacedUptoCard : Claim7 := { stood := { row := fnExactDisplacedUptoRow, standIns := [], harness := (true, "45dabf5431f1c4673f768411c05fa706b058ed1b42363e9d0392146a6dbcd9e0"), looks := false }, kinds := [], alts := [], laidByText := true, laidKinds := [.data, .pinned], laidTests := true, laidLooks := .later }
def FnExactDisplacedUptoCardSaid : Prop := Claim7.holds Tryd.pinned (.plain (OpenSpec.upto fnExactDisplacedSpec)) fnExactDisplacedUptoCard

/-- THE SECOND FORM's CARD OF 'laws.FnExactQualifiedText'. -/
def fnExactQualifiedTextUptoCard : Claim7 := { stood := { row := fnExactQualifiedTextUptoRow, standIns := [], harness := (true, "45dabf5431f1c4673f768411c05fa706b058ed1b42363e9d0392146a6dbcd9e0"), looks := false }, kinds := [], alts := [], laidByText := true, laidKinds := [.data, .widerDeep, .pinned], laidTests := true, laidLooks := .later }
def FnExactQualifiedTextUptoCardSaid : Prop := Claim7.holds Tryd.pinned (.plain (OpenSpec.upto fnExactQualifiedTextSpec)) fnExactQualifiedTextUptoCard

/-- THE SECOND FORM's CARD OF 'laws.FnExactByPrecedence'. -/
def fnExactByPrecedenceUptoCard : Claim7 := { stood := { row := fnExactByPrecedenceUptoRow, standIns := [], harness := (true, "45dabf5431f1c4673f768411c05fa706b058ed1b42363e9d0392146a6dbcd9e0"), looks := false }, kinds := [], alts := [], laidByText := true, laidKinds := [.data, .pinned], laidTests := true, laidLooks := .later }
def FnExactByPrecedenceUptoCardSaid : Prop := Claim7.holds Tryd.pinned (.plain (OpenSpec.upto fnExactByPrecedenceSpec)) fnExactByPrecedenceUptoCard
end Rows
end Go.Proofs.YthaampckdcimmaaDoor
