/-
  DERIVED. GIVEN WITH THE SEED: THE CARDS: each row of YtlcfpaghipjgiaaDoorRows.lean that lists a variable, with what it lists TIED to the program's text (the seventh form; the later family's looks); each row that meets fmt, with fmt's text TOLD by the authors' own Lean function (tested against real Go, not proved from fmt's source: count such statements apart). THE CARD IS WHAT COUNTS. Prove the row's statement (the work); the ties are given (YtlcfpaghipjgiaaDoorTie.lean); close each card by the builder's one call (the guide's Derived/Test/ToyasCard.lean, 'card_holds'). Laid BY PROGRAM, IN A SANDBOX (cutbox-door.mjs). By AI agents, Wed Nov 11 2026. No macro, syntax, notation, axiom, sorry.
-/
import Derived.Test.YtlcfpaghipjgiaaDoorRows
import GoSem.ClaimSeven
namespace Go.Proofs.YtlcfpaghipjgiaaDoor
namespace Rows

/-- THE TIED CARD OF 'laws.FnExactAreBallots'. -/
def fnExactAreBallotsCard : Claim7 := { stood := { row := fnExactAreBallotsRow, standIns := [], harness := (true, "bd43d8ba30488b9b0920f33ad0911e0ed34331e0076278679d2a0c61b7bef33c"), looks := false }, kinds := [], alts := [], laidByText := true, laidKinds := [.data, .pinned], laidTests := true, laidLooks := .later }
def FnExactAreBallotsCardSaid : Prop := Claim7.holds Tryd.pinned (.plain (OpenSpec.ofChange fnExactAreBallotsSpec)) fnExactAreBallotsCard

/-- THE TIED CARD OF 'laws.FnExactCountVotes'. -/
def fnExactCountVotesCard : Claim7 := { stood := { row := fnExactCountVotesRow, standIns := [], harness := (true, "bd43d8ba30488b9b0920f33ad0911e0ed34331e0076278679d2a0c61b7bef33c"), looks := false }, kinds := [], alts := [], laidByText := true, laidKinds := [.data, .pinned], laidTests := true, laidLooks := .later }
def FnExactCountVotesCardSaid : Prop := Claim7.holds Tryd.pinned (.plain (OpenSpec.ofChange fnExactCountVotesSpec)) fnExactCountVotesCard

/-- THE TIED CARD OF 'laws.FnExactHasQuorum'. -/
def fnExactHasQuorumCard : Claim7 := { stood := { row := fnExactHasQuorumRow, standIns := [], harness := (true, "bd43d8ba30488b9b0920f33ad0911e0ed34331e0076278679d2a0c61b7bef33c"), looks := false }, kinds := [], alts := [], laidByText := true, laidKinds := [.data, .pinned], laidTests := true, laidLooks := .later }
def FnExactHasQuorumCardSaid : Prop := Claim7.holds Tryd.pinned (.plain (OpenSpec.ofChange fnExactHasQuorumSpec)) fnExactHasQuorumCard

/-- THE TIED CARD OF 'laws.FnExactIsCarried'. -/
def fnExactIsCarriedCard : Claim7 := { stood := { row := fnExactIsCarriedRow, standIns := [], harness := (true, "bd43d8ba30488b9b0920f33ad0911e0ed34331e0076278679d2a0c61b7bef33c"), looks := false }, kinds := [], alts := [], laidByText := true, laidKinds := [.data, .pinned], laidTests := true, laidLooks := .later }
def FnExactIsCarriedCardSaid : Prop := Claim7.holds Tryd.pinned (.plain (OpenSpec.ofChange fnExactIsCarriedSpec)) fnExactIsCarriedCard

/-- THE TIED CARD OF 'laws.FnExactLeastChanges'. -/
def fnExactLeastChangesCard : Claim7 := { stood := { row := fnExactLeastChangesRow, standIns := [], harness := (true, "bd43d8ba30488b9b0920f33ad0911e0ed34331e0076278679d2a0c61b7bef33c"), looks := false }, kinds := [], alts := [], laidByText := true, laidKinds := [.data, .pinned], laidTests := true, laidLooks := .later }
def FnExactLeastChangesCardSaid : Prop := Claim7.holds Tryd.pinned (.plain (OpenSpec.ofChange fnExactLeastChangesSpec)) fnExactLeastChangesCard

/-- THE TIED CARD OF 'laws.FnExactPivotalMembers'. -/
def fnExactPivotalMembersCard : Claim7 := { stood := { row := fnExactPivotalMembersRow, standIns := [], harness := (true, "bd43d8ba30488b9b0920f33ad0911e0ed34331e0076278679d2a0c61b7bef33c"), looks := false }, kinds := [], alts := [], laidByText := true, laidKinds := [.data, .pinned], laidTests := true, laidLooks := .later }
def FnExactPivotalMembersCardSaid : Prop := Claim7.holds Tryd.pinned (.plain (OpenSpec.ofChange fnExactPivotalMembersSpec)) fnExactPivotalMembersCard

/-- THE TIED CARD OF 'laws.FnExactCastBallot'. -/
def fnExactCastBallotCard : Claim7 := { stood := { row := fnExactCastBallotRow, standIns := [], harness := (true, "bd43d8ba30488b9b0920f33ad0911e0ed34331e0076278679d2a0c61b7bef33c"), looks := false }, kinds := [], alts := [], laidByText := true, laidKinds := [.data, .pinned], laidTests := true, laidLooks := .later }
def FnExactCastBallotCardSaid : Prop := Claim7.holds Tryd.pinned (.plain (OpenSpec.ofChange fnExactCastBallotSpec)) fnExactCastBallotCard

/-- THE TIED CARD OF 'laws.FnExactSmallestMajority'. -/
def fnExactSmallestMajorityCard : Claim7 := { stood := { row := fnExactSmallestMajorityRow, standIns := [], harness := (true, "bd43d8ba30488b9b0920f33ad0911e0ed34331e0076278679d2a0c61b7bef33c"), looks := false }, kinds := [], alts := [], laidByText := true, laidKinds := [.data, .pinned], laidTests := true, laidLooks := .later }
def FnExactSmallestMajorityCardSaid : Prop := Claim7.holds Tryd.pinned (.plain (OpenSpec.ofChange fnExactSmallestMajoritySpec)) fnExactSmallestMajorityCard

/-- THE TIED CARD OF 'laws.FnVotes'. -/
def fnVotesCard : Claim7 := { stood := { row := fnVotesRow, standIns := [], harness := (true, "bd43d8ba30488b9b0920f33ad0911e0ed34331e0076278679d2a0c61b7bef33c"), looks := false }, kinds := [], alts := [], laidByText := true, laidKinds := [.data, .pinned], laidTests := true, laidLooks := .later }
def FnVotesCardSaid : Prop := Claim7.holds Tryd.pinned (.plain (OpenSpec.ofChange fnVotesSpec)) fnVotesCard

/-- THE TIED CARD OF 'laws.FnMajorities'. -/
def fnMajoritiesCard : Claim7 := { stood := { row := fnMajoritiesRow, standIns := [], harness := (true, "bd43d8ba30488b9b0920f33ad0911e0ed34331e0076278679d2a0c61b7bef33c"), looks := false }, kinds := [], alts := [], laidByText := true, laidKinds := [.data, .pinned], laidTests := true, laidLooks := .later }
def FnMajoritiesCardSaid : Prop := Claim7.holds Tryd.pinned (.plain (OpenSpec.ofChange fnMajoritiesSpec)) fnMajoritiesCard

/-- THE SECOND FORM's CARD OF 'laws.FnExactAreBallots'. -/
def fnExactAreBallotsUptoCard : Claim7 := { stood := { row := fnExactAreBallotsUptoRow, standIns := [], harness := (true, "bd43d8ba30488b9b0920f33ad0911e0ed34331e0076278679d2a0c61b7bef33c"), looks := false }, kinds := [], alts := [], laidByText := true, laidKinds := [.data, .pinned], laidTests := true, laidLooks := .later }
def FnExactAreBallotsUptoCardSaid : Prop := Claim7.holds Tryd.pinned (.plain (OpenSpec.upto fnExactAreBallotsSpec)) fnExactAreBallotsUptoCard

/-- THE SECOND FORM's CARD OF 'laws.FnExactCountVotes'. -/
def fnExactCountVotesUptoCard : Claim7 := { stood := { row := fnExactCountVotesUptoRow, standIns := [], harness := (true, "bd43d8ba30488b9b0920f33ad0911e0ed34331e0076278679d2a0c61b7bef33c"), looks := false }, kinds := [], alts := [], laidByText := true, laidKinds := [.data, .pinned], laidTests := true, laidLooks := .later }
def FnExactCountVotesUptoCardSaid : Prop := Claim7.holds Tryd.pinned (.plain (OpenSpec.upto fnExactCountVotesSpec)) fnExactCountVotesUptoCard

/-- THE SECOND FORM's CARD OF 'laws.FnExactHasQuorum'. -/
def fnExactHasQuorumUptoCard : Claim7 := { stood := { row := fnExactHasQuorumUptoRow, standIns := [], harness := (true, "bd43d8ba30488b9b0920f33ad0911e0ed34331e0076278679d2a0c61b7bef33c"), looks := false }, kinds := [], alts := [], laidByText := true, laidKinds := [.data, .pinned], laidTests := true, laidLooks := .later }
def FnExactHasQuorumUptoCardSaid : Prop := Claim7.holds Tryd.pinned (.plain (OpenSpec.upto fnExactHasQuorumSpec)) fnExactHasQuorumUptoCard

/-- THE SECOND FORM's CARD OF 'laws.FnExactIsCarried'. -/
def fnExactIsCarriedUptoCard : Claim7 := { stood := { row := fnExactIsCarriedUptoRow, standIns := [], harness := (true, "bd43d8ba30488b9b0920f33ad0911e0ed34331e0076278679d2a0c61b7bef33c"), looks := false }, kinds := [], alts := [], laidByText := true, laidKinds := [.data, .pinned], laidTests := true, laidLooks := .later }
def FnExactIsCarriedUptoCardSaid : Prop := Claim7.holds Tryd.pinned (.plain (OpenSpec.upto fnExactIsCarriedSpec)) fnExactIsCarriedUptoCard

/-- THE SECOND FORM's CARD OF 'laws.FnExactLeastChanges'. -/
def fnExactLeastChangesUptoCard : Claim7 := { stood := { row := fnExactLeastChangesUptoRow, standIns := [], harness := (true, "bd43d8ba30488b9b0920f33ad0911e0ed34331e0076278679d2a0c61b7bef33c"), looks := false }, kinds := [], alts := [], laidByText := true, laidKinds := [.data, .pinned], laidTests := true, laidLooks := .later }
def FnExactLeastChangesUptoCardSaid : Prop := Claim7.holds Tryd.pinned (.plain (OpenSpec.upto fnExactLeastChangesSpec)) fnExactLeastChangesUptoCard

/-- THE SECOND FORM's CARD OF 'laws.FnExactPivotalMembers'. -/
def fnExactPivotalMembersUptoCard : Claim7 := { stood := { row := fnExactPivotalMembersUptoRow, standIns := [], harness := (true, "bd43d8ba30488b9b0920f33ad0911e0ed34331e0076278679d2a0c61b7bef33c"), looks := false }, kinds := [], alts := [], laidByText := true, laidKinds := [.data, .pinned], laidTests := true, laidLooks := .later }
def FnExactPivotalMembersUptoCardSaid : Prop := Claim7.holds Tryd.pinned (.plain (OpenSpec.upto fnExactPivotalMembersSpec)) fnExactPivotalMembersUptoCard

/-- THE SECOND FORM's CARD OF 'laws.FnExactCastBallot'. -/
def fnExactCastBallotUptoCard : Claim7 := { stood := { row := fnExactCastBallotUptoRow, standIns := [], harness := (true, "bd43d8ba30488b9b0920f33ad0911e0ed34331e0076278679d2a0c61b7bef33c"), looks := false }, kinds := [], alts := [], laidByText := true, laidKinds := [.data, .pinned], laidTests := true, laidLooks := .later }
def FnExactCastBallotUptoCardSaid : Prop := Claim7.holds Tryd.pinned (.plain (OpenSpec.upto fnExactCastBallotSpec)) fnExactCastBallotUptoCard

/-- THE SECOND FORM's CARD OF 'laws.FnExactSmallestMajority'. -/
def fnExactSmallestMajorityUptoCard : Claim7 := { stood := { row := fnExactSmallestMajorityUptoRow, standIns := [], harness := (true, "bd43d8ba30488b9b0920f33ad0911e0ed34331e0076278679d2a0c61b7bef33c"), looks := false }, kinds := [], alts := [], laidByText := true, laidKinds := [.data, .pinned], laidTests := true, laidLooks := .later }
def FnExactSmallestMajorityUptoCardSaid : Prop := Claim7.holds Tryd.pinned (.plain (OpenSpec.upto fnExactSmallestMajoritySpec)) fnExactSmallestMajorityUptoCard

/-- THE SECOND FORM's CARD OF 'laws.FnVotes'. -/
def fnVotesUptoCard : Claim7 := { stood := { row := fnVotesUptoRow, standIns := [], harness := (true, "bd43d8ba30488b9b0920f33ad0911e0ed34331e0076278679d2a0c61b7bef33c"), looks := false }, kinds := [], alts := [], laidByText := true, laidKinds := [.data, .pinned], laidTests := true, laidLooks := .later }
def FnVotesUptoCardSaid : Prop := Claim7.holds Tryd.pinned (.plain (OpenSpec.upto fnVotesSpec)) fnVotesUptoCard

/-- THE SECOND FORM's CARD OF 'laws.FnMajorities'. -/
def fnMajoritiesUptoCard : Claim7 := { stood := { row := fnMajoritiesUptoRow, standIns := [], harness := (true, "bd43d8ba30488b9b0920f33ad0911e0ed34331e0076278679d2a0c61b7bef33c"), looks := false }, kinds := [], alts := [], laidByText := true, laidKinds := [.data, .pinned], laidTests := true, laidLooks := .later }
def FnMajoritiesUptoCardSaid : Prop := Claim7.holds Tryd.pinned (.plain (OpenSpec.upto fnMajoritiesSpec)) fnMajoritiesUptoCard
end Rows
end Go.Proofs.YtlcfpaghipjgiaaDoor
