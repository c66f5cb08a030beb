/-
  DERIVED. GIVEN WITH THE SEED: THE CARDS: each row of YtphkfnhmpngjpaaDoorRows.lean that lists a variable, with what it lists TIED to the program's text (the seventh form; the later family's looks); each row that meets fmt, with fmt's text TOLD by the authors' own Lean function (tested against real Go, not proved from fmt's source: count such statements apart). THE CARD IS WHAT COUNTS. Prove the row's statement (the work); the ties are given (YtphkfnhmpngjpaaDoorTie.lean); close each card by the builder's one call (the guide's Derived/Test/ToyasCard.lean, 'card_holds'). Laid BY PROGRAM, IN A SANDBOX (cutbox-door.mjs). By AI agents, Wed Nov 11 2026. No macro, syntax, notation, axiom, sorry.
-/
import Derived.Test.YtphkfnhmpngjpaaDoorRows
import GoSem.ClaimSeven
namespace Go.Proofs.YtphkfnhmpngjpaaDoor
namespace Rows

/-- THE TIED CARD OF 'laws.FnExactIsDescription'. -/
def fnExactIsDescriptionCard : Claim7 := { stood := { row := fnExactIsDescriptionRow, standIns := [], harness := (true, "4f18d8b1ca162f1b21d4daa99e7b2f55534bf47725af1925ea8fa4253799983f"), looks := false }, kinds := [], alts := [], laidByText := true, laidKinds := [.data, .widerDeep, .pinned], laidTests := true, laidLooks := .later }
def FnExactIsDescriptionCardSaid : Prop := Claim7.holds Tryd.pinned (.plain (OpenSpec.ofChange fnExactIsDescriptionSpec)) fnExactIsDescriptionCard

/-- THE TIED CARD OF 'laws.FnExactAreSites'. -/
def fnExactAreSitesCard : Claim7 := { stood := { row := fnExactAreSitesRow, standIns := [], harness := (true, "4f18d8b1ca162f1b21d4daa99e7b2f55534bf47725af1925ea8fa4253799983f"), looks := false }, kinds := [], alts := [], laidByText := true, laidKinds := [.data, .widerDeep, .pinned], laidTests := true, laidLooks := .later }
def FnExactAreSitesCardSaid : Prop := Claim7.holds Tryd.pinned (.plain (OpenSpec.ofChange fnExactAreSitesSpec)) fnExactAreSitesCard

/-- THE TIED CARD OF 'laws.FnExactLengthOf'. -/
def fnExactLengthOfCard : Claim7 := { stood := { row := fnExactLengthOfRow, standIns := [], harness := (true, "4f18d8b1ca162f1b21d4daa99e7b2f55534bf47725af1925ea8fa4253799983f"), looks := false }, kinds := [], alts := [], laidByText := true, laidKinds := [.data, .widerDeep, .pinned], laidTests := true, laidLooks := .later }
def FnExactLengthOfCardSaid : Prop := Claim7.holds Tryd.pinned (.plain (OpenSpec.ofChange fnExactLengthOfSpec)) fnExactLengthOfCard

/-- THE TIED CARD OF 'laws.FnExactOpposite'. -/
def fnExactOppositeCard : Claim7 := { stood := { row := fnExactOppositeRow, standIns := [], harness := (true, "4f18d8b1ca162f1b21d4daa99e7b2f55534bf47725af1925ea8fa4253799983f"), looks := false }, kinds := [], alts := [], laidByText := true, laidKinds := [.data, .widerDeep, .pinned], laidTests := true, laidLooks := .later }
def FnExactOppositeCardSaid : Prop := Claim7.holds Tryd.pinned (.plain (OpenSpec.ofChange fnExactOppositeSpec)) fnExactOppositeCard

/-- THE TIED CARD OF 'laws.FnExactInLeagues'. -/
def fnExactInLeaguesCard : Claim7 := { stood := { row := fnExactInLeaguesRow, standIns := [], harness := (true, "4f18d8b1ca162f1b21d4daa99e7b2f55534bf47725af1925ea8fa4253799983f"), looks := false }, kinds := [], alts := [], laidByText := true, laidKinds := [.data, .widerDeep, .pinned], laidTests := true, laidLooks := .later }
def FnExactInLeaguesCardSaid : Prop := Claim7.holds Tryd.pinned (.plain (OpenSpec.ofChange fnExactInLeaguesSpec)) fnExactInLeaguesCard

/-- THE TIED CARD OF 'laws.FnExactPlacesUsed'. -/
def fnExactPlacesUsedCard : Claim7 := { stood := { row := fnExactPlacesUsedRow, standIns := [], harness := (true, "4f18d8b1ca162f1b21d4daa99e7b2f55534bf47725af1925ea8fa4253799983f"), looks := false }, kinds := [], alts := [], laidByText := true, laidKinds := [.data, .widerDeep, .pinned], laidTests := true, laidLooks := .later }
def FnExactPlacesUsedCardSaid : Prop := Claim7.holds Tryd.pinned (.plain (OpenSpec.ofChange fnExactPlacesUsedSpec)) fnExactPlacesUsedCard

/-- THE TIED CARD OF 'laws.FnExactReplacePlaceIn'. -/
def fnExactReplacePlaceInCard : Claim7 := { stood := { row := fnExactReplacePlaceInRow, standIns := [], harness := (true, "4f18d8b1ca162f1b21d4daa99e7b2f55534bf47725af1925ea8fa4253799983f"), looks := false }, kinds := [], alts := [], laidByText := true, laidKinds := [.data, .widerDeep, .pinned], laidTests := true, laidLooks := .later }
def FnExactReplacePlaceInCardSaid : Prop := Claim7.holds Tryd.pinned (.plain (OpenSpec.ofChange fnExactReplacePlaceInSpec)) fnExactReplacePlaceInCard

/-- THE TIED CARD OF 'laws.FnDescriptions'. -/
def fnDescriptionsCard : Claim7 := { stood := { row := fnDescriptionsRow, standIns := [], harness := (true, "4f18d8b1ca162f1b21d4daa99e7b2f55534bf47725af1925ea8fa4253799983f"), looks := false }, kinds := [], alts := [], laidByText := true, laidKinds := [.data, .widerDeep, .pinned], laidTests := true, laidLooks := .later }
def FnDescriptionsCardSaid : Prop := Claim7.holds Tryd.pinned (.plain (OpenSpec.ofChange fnDescriptionsSpec)) fnDescriptionsCard

/-- THE TIED CARD OF 'laws.FnExactDescriptionText'. -/
def fnExactDescriptionTextCard : Claim7 := { stood := { row := fnExactDescriptionTextRow, standIns := [], harness := (true, "4f18d8b1ca162f1b21d4daa99e7b2f55534bf47725af1925ea8fa4253799983f"), looks := false }, kinds := [], alts := [], laidByText := true, laidKinds := [.data, .data, .data, .data, .widerDeep, .pinned], laidTests := true, laidLooks := .later }
def FnExactDescriptionTextCardSaid : Prop := Claim7.holds Tryd.pinned (.plain (OpenSpec.ofChange fnExactDescriptionTextSpec)) fnExactDescriptionTextCard

/-- THE TIED CARD OF 'laws.FnExactDoesSatisfy'. -/
def fnExactDoesSatisfyCard : Claim7 := { stood := { row := fnExactDoesSatisfyRow, standIns := [], harness := (true, "4f18d8b1ca162f1b21d4daa99e7b2f55534bf47725af1925ea8fa4253799983f"), looks := false }, kinds := [], alts := [], laidByText := true, laidKinds := [.data, .widerDeep, .pinned], laidTests := true, laidLooks := .later }
def FnExactDoesSatisfyCardSaid : Prop := Claim7.holds Tryd.pinned (.plain (OpenSpec.ofChange fnExactDoesSatisfySpec)) fnExactDoesSatisfyCard

/-- THE TIED CARD OF 'laws.FnSatisfied'. -/
def fnSatisfiedCard : Claim7 := { stood := { row := fnSatisfiedRow, standIns := [], harness := (true, "4f18d8b1ca162f1b21d4daa99e7b2f55534bf47725af1925ea8fa4253799983f"), looks := false }, kinds := [], alts := [], laidByText := true, laidKinds := [.data, .widerDeep, .pinned], laidTests := true, laidLooks := .later }
def FnSatisfiedCardSaid : Prop := Claim7.holds Tryd.pinned (.plain (OpenSpec.ofChange fnSatisfiedSpec)) fnSatisfiedCard

/-- THE TIED CARD OF 'laws.FnExactCountSatisfied'. -/
def fnExactCountSatisfiedCard : Claim7 := { stood := { row := fnExactCountSatisfiedRow, standIns := [], harness := (true, "4f18d8b1ca162f1b21d4daa99e7b2f55534bf47725af1925ea8fa4253799983f"), looks := false }, kinds := [], alts := [], laidByText := true, laidKinds := [.data, .widerDeep, .pinned], laidTests := true, laidLooks := .later }
def FnExactCountSatisfiedCardSaid : Prop := Claim7.holds Tryd.pinned (.plain (OpenSpec.ofChange fnExactCountSatisfiedSpec)) fnExactCountSatisfiedCard

/-- THE SECOND FORM's CARD OF 'laws.FnExactIsDescription'. -/
def fnExactIsDescriptionUptoCard : Claim7 := { stood := { row := fnExactIsDescriptionUptoRow, standIns := [], harness := (true, "4f18d8b1ca162f1b21d4daa99e7b2f55534bf47725af1925ea8fa4253799983f"), looks := false }, kinds := [], alts := [], laidByText := true, laidKinds := [.data, .widerDeep, .pinned], laidTests := true, laidLooks := .later }
def FnExactIsDescriptionUptoCardSaid : Prop := Claim7.holds Tryd.pinned (.plain (OpenSpec.upto fnExactIsDescriptionSpec)) fnExactIsDescriptionUptoCard

/-- THE SECOND FORM's CARD OF 'laws.FnExactAreSites'. -/
def fnExactAreSitesUptoCard : Claim7 := { stood := { row := fnExactAreSitesUptoRow, standIns := [], harness := (true, "4f18d8b1ca162f1b21d4daa99e7b2f55534bf47725af1925ea8fa4253799983f"), looks := false }, kinds := [], alts := [], laidByText := true, laidKinds := [.data, .widerDeep, .pinned], laidTests := true, laidLooks := .later }
def FnExactAreSitesUptoCardSaid : Prop := Claim7.holds Tryd.pinned (.plain (OpenSpec.upto fnExactAreSitesSpec)) fnExactAreSitesUptoCard

/-- THE SECOND FORM's CARD OF 'laws.FnExactLengthOf'. -/
def fnExactLengthOfUptoCard : Claim7 := { stood := { row := fnExactLengthOfUptoRow, standIns := [], harness := (true, "4f18d8b1ca162f1b21d4daa99e7b2f55534bf47725af1925ea8fa4253799983f"), looks := false }, kinds := [], alts := [], laidByText := true, laidKinds := [.data, .widerDeep, .pinned], laidTests := true, laidLooks := .later }
def FnExactLengthOfUptoCardSaid : Prop := Claim7.holds Tryd.pinned (.plain (OpenSpec.upto fnExactLengthOfSpec)) fnExactLengthOfUptoCard

/-- THE SECOND FORM's CARD OF 'laws.FnExactOpposite'. -/
def fnExactOppositeUptoCard : Claim7 := { stood := { row := fnExactOppositeUptoRow, standIns := [], harness := (true, "4f18d8b1ca162f1b21d4daa99e7b2f55534bf47725af1925ea8fa4253799983f"), looks := false }, kinds := [], alts := [], laidByText := true, laidKinds := [.data, .widerDeep, .pinned], laidTests := true, laidLooks := .later }
def FnExactOppositeUptoCardSaid : Prop := Claim7.holds Tryd.pinned (.plain (OpenSpec.upto fnExactOppositeSpec)) fnExactOppositeUptoCard

/-- THE SECOND FORM's CARD OF 'laws.FnExactInLeagues'. -/
def fnExactInLeaguesUptoCard : Claim7 := { stood := { row := fnExactInLeaguesUptoRow, standIns := [], harness := (true, "4f18d8b1ca162f1b21d4daa99e7b2f55534bf47725af1925ea8fa4253799983f"), looks := false }, kinds := [], alts := [], laidByText := true, laidKinds := [.data, .widerDeep, .pinned], laidTests := true, laidLooks := .later }
def FnExactInLeaguesUptoCardSaid : Prop := Claim7.holds Tryd.pinned (.plain (OpenSpec.upto fnExactInLeaguesSpec)) fnExactInLeaguesUptoCard

/-- THE SECOND FORM's CARD OF 'laws.FnExactPlacesUsed'. -/
def fnExactPlacesUsedUptoCard : Claim7 := { stood := { row := fnExactPlacesUsedUptoRow, standIns := [], harness := (true, "4f18d8b1ca162f1b21d4daa99e7b2f55534bf47725af1925ea8fa4253799983f"), looks := false }, kinds := [], alts := [], laidByText := true, laidKinds := [.data, .widerDeep, .pinned], laidTests := true, laidLooks := .later }
def FnExactPlacesUsedUptoCardSaid : Prop := Claim7.holds Tryd.pinned (.plain (OpenSpec.upto fnExactPlacesUsedSpec)) fnExactPlacesUsedUptoCard

/-- THE SECOND FORM's CARD OF 'laws.FnExactReplacePlaceIn'. -/
def fnExactReplacePlaceInUptoCard : Claim7 := { stood := { row := fnExactReplacePlaceInUptoRow, standIns := [], harness := (true, "4f18d8b1ca162f1b21d4daa99e7b2f55534bf47725af1925ea8fa4253799983f"), looks := false }, kinds := [], alts := [], laidByText := true, laidKinds := [.data, .widerDeep, .pinned], laidTests := true, laidLooks := .later }
def FnExactReplacePlaceInUptoCardSaid : Prop := Claim7.holds Tryd.pinned (.plain (OpenSpec.upto fnExactReplacePlaceInSpec)) fnExactReplacePlaceInUptoCard

/-- THE SECOND FORM's CARD OF 'laws.FnDescriptions'. -/
def fnDescriptionsUptoCard : Claim7 := { stood := { row := fnDescriptionsUptoRow, standIns := [], harness := (true, "4f18d8b1ca162f1b21d4daa99e7b2f55534bf47725af1925ea8fa4253799983f"), looks := false }, kinds := [], alts := [], laidByText := true, laidKinds := [.data, .widerDeep, .pinned], laidTests := true, laidLooks := .later }
def FnDescriptionsUptoCardSaid : Prop := Claim7.holds Tryd.pinned (.plain (OpenSpec.upto fnDescriptionsSpec)) fnDescriptionsUptoCard

/-- THE SECOND FORM's CARD OF 'laws.FnExactDescriptionText'. -/
def fnExactDescriptionTextUptoCard : Claim7 := { stood := { row := fnExactDescriptionTextUptoRow, standIns := [], harness := (true, "4f18d8b1ca162f1b21d4daa99e7b2f55534bf47725af1925ea8fa4253799983f"), looks := false }, kinds := [], alts := [], laidByText := true, laidKinds := [.data, .data, .data, .data, .widerDeep, .pinned], laidTests := true, laidLooks := .later }
def FnExactDescriptionTextUptoCardSaid : Prop := Claim7.holds Tryd.pinned (.plain (OpenSpec.upto fnExactDescriptionTextSpec)) fnExactDescriptionTextUptoCard

/-- THE SECOND FORM's CARD OF 'laws.FnExactDoesSatisfy'. -/
def fnExactDoesSatisfyUptoCard : Claim7 := { stood := { row := fnExactDoesSatisfyUptoRow, standIns := [], harness := (true, "4f18d8b1ca162f1b21d4daa99e7b2f55534bf47725af1925ea8fa4253799983f"), looks := false }, kinds := [], alts := [], laidByText := true, laidKinds := [.data, .widerDeep, .pinned], laidTests := true, laidLooks := .later }
def FnExactDoesSatisfyUptoCardSaid : Prop := Claim7.holds Tryd.pinned (.plain (OpenSpec.upto fnExactDoesSatisfySpec)) fnExactDoesSatisfyUptoCard

/-- THE SECOND FORM's CARD OF 'laws.FnSatisfied'. -/
def fnSatisfiedUptoCard : Claim7 := { stood := { row := fnSatisfiedUptoRow, standIns := [], harness := (true, "4f18d8b1ca162f1b21d4daa99e7b2f55534bf47725af1925ea8fa4253799983f"), looks := false }, kinds := [], alts := [], laidByText := true, laidKinds := [.data, .widerDeep, .pinned], laidTests := true, laidLooks := .later }
def FnSatisfiedUptoCardSaid : Prop := Claim7.holds Tryd.pinned (.plain (OpenSpec.upto fnSatisfiedSpec)) fnSatisfiedUptoCard

/-- THE SECOND FORM's CARD OF 'laws.FnExactCountSatisfied'. -/
def fnExactCountSatisfiedUptoCard : Claim7 := { stood := { row := fnExactCountSatisfiedUptoRow, standIns := [], harness := (true, "4f18d8b1ca162f1b21d4daa99e7b2f55534bf47725af1925ea8fa4253799983f"), looks := false }, kinds := [], alts := [], laidByText := true, laidKinds := [.data, .widerDeep, .pinned], laidTests := true, laidLooks := .later }
def FnExactCountSatisfiedUptoCardSaid : Prop := Claim7.holds Tryd.pinned (.plain (OpenSpec.upto fnExactCountSatisfiedSpec)) fnExactCountSatisfiedUptoCard
end Rows
end Go.Proofs.YtphkfnhmpngjpaaDoor
