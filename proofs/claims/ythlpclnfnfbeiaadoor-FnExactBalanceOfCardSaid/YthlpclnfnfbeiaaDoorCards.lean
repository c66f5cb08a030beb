/-
  DERIVED. GIVEN WITH THE SEED: THE CARDS: each row of YthlpclnfnfbeiaaDoorRows.lean that lists a variable, with what it lists TIED to the program's text (the seventh form; the later family's looks); each row that meets fmt, with fmt's text TOLD by the authors' own Lean function (tested against real Go, not proved from fmt's source: count such statements apart). THE CARD IS WHAT COUNTS. Prove the row's statement (the work); the ties are given (YthlpclnfnfbeiaaDoorTie.lean); close each card by the builder's one call (the guide's Derived/Test/ToyasCard.lean, 'card_holds'). Laid BY PROGRAM, IN A SANDBOX (cutbox-door.mjs). By AI agents, Wed Nov 11 2026. No macro, syntax, notation, axiom, sorry.
-/
import Derived.Test.YthlpclnfnfbeiaaDoorRows
import GoSem.ClaimSeven
namespace Go.Proofs.YthlpclnfnfbeiaaDoor
namespace Rows

/-- THE TIED CARD OF 'laws.FnExactTelling'. -/
def fnExactTellingCard : Claim7 := { stood := { row := fnExactTellingRow, standIns := [], harness := (true, "00c33e12b340ab34dd0f930f27cebfdab4c948f56ac94d8f4d9c59edb5f3831d"), looks := false }, kinds := [], alts := [], laidByText := true, laidKinds := [.data, .pinned], laidTests := true, laidLooks := .later }
def FnExactTellingCardSaid : Prop := Claim7.holds Tryd.pinned (.plain (OpenSpec.ofChange fnExactTellingSpec)) fnExactTellingCard

/-- THE TIED CARD OF 'laws.FnExactBalanceOf'. -/
def fnExactBalanceOfCard : Claim7 := { stood := { row := fnExactBalanceOfRow, standIns := [], harness := (true, "00c33e12b340ab34dd0f930f27cebfdab4c948f56ac94d8f4d9c59edb5f3831d"), looks := false }, kinds := [], alts := [], laidByText := true, laidKinds := [.data, .pinned], laidTests := true, laidLooks := .later }
def FnExactBalanceOfCardSaid : Prop := Claim7.holds Tryd.pinned (.plain (OpenSpec.ofChange fnExactBalanceOfSpec)) fnExactBalanceOfCard

/-- THE TIED CARD OF 'laws.FnExactDenying'. -/
def fnExactDenyingCard : Claim7 := { stood := { row := fnExactDenyingRow, standIns := [], harness := (true, "00c33e12b340ab34dd0f930f27cebfdab4c948f56ac94d8f4d9c59edb5f3831d"), looks := false }, kinds := [], alts := [], laidByText := true, laidKinds := [.data, .pinned], laidTests := true, laidLooks := .later }
def FnExactDenyingCardSaid : Prop := Claim7.holds Tryd.pinned (.plain (OpenSpec.ofChange fnExactDenyingSpec)) fnExactDenyingCard

/-- THE SECOND FORM's CARD OF 'laws.FnExactTelling'. -/
def fnExactTellingUptoCard : Claim7 := { stood := { row := fnExactTellingUptoRow, standIns := [], harness := (true, "00c33e12b340ab34dd0f930f27cebfdab4c948f56ac94d8f4d9c59edb5f3831d"), looks := false }, kinds := [], alts := [], laidByText := true, laidKinds := [.data, .pinned], laidTests := true, laidLooks := .later }
def FnExactTellingUptoCardSaid : Prop := Claim7.holds Tryd.pinned (.plain (OpenSpec.upto fnExactTellingSpec)) fnExactTellingUptoCard

/-- THE SECOND FORM's CARD OF 'laws.FnExactBalanceOf'. -/
def fnExactBalanceOfUptoCard : Claim7 := { stood := { row := fnExactBalanceOfUptoRow, standIns := [], harness := (true, "00c33e12b340ab34dd0f930f27cebfdab4c948f56ac94d8f4d9c59edb5f3831d"), looks := false }, kinds := [], alts := [], laidByText := true, laidKinds := [.data, .pinned], laidTests := true, laidLooks := .later }
def FnExactBalanceOfUptoCardSaid : Prop := Claim7.holds Tryd.pinned (.plain (OpenSpec.upto fnExactBalanceOfSpec)) fnExactBalanceOfUptoCard

/-- THE SECOND FORM's CARD OF 'laws.FnExactDenying'. -/
def fnExactDenyingUptoCard : Claim7 := { stood := { row := fnExactDenyingUptoRow, standIns := [], harness := (true, "00c33e12b340ab34dd0f930f27cebfdab4c948f56ac94d8f4d9c59edb5f3831d"), looks := false }, kinds := [], alts := [], laidByText := true, laidKinds := [.data, .pinned], laidTests := true, laidLooks := .later }
def FnExactDenyingUptoCardSaid : Prop := Claim7.holds Tryd.pinned (.plain (OpenSpec.upto fnExactDenyingSpec)) fnExactDenyingUptoCard
end Rows
end Go.Proofs.YthlpclnfnfbeiaaDoor
