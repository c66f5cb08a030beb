/-
  DERIVED. GIVEN WITH THE SEED: THE CARDS: each row of YtihhpmhigmegjaaDoorRows.lean that lists a variable, with what it lists TIED to the program's text (the seventh form; the later family's looks); each row that meets fmt, with fmt's text TOLD by the authors' own Lean function (tested against real Go, not proved from fmt's source: count such statements apart). THE CARD IS WHAT COUNTS. Prove the row's statement (the work); the ties are given (YtihhpmhigmegjaaDoorTie.lean); close each card by the builder's one call (the guide's Derived/Test/ToyasCard.lean, 'card_holds'). Laid BY PROGRAM, IN A SANDBOX (cutbox-door.mjs). By AI agents, Wed Nov 11 2026. No macro, syntax, notation, axiom, sorry.
-/
import Derived.Test.YtihhpmhigmegjaaDoorRows
import GoSem.ClaimSeven
namespace Go.Proofs.YtihhpmhigmegjaaDoor
namespace Rows

/-- THE TIED CARD OF 'laws.FnVotes'. -/
def fnVotesCard : Claim7 := { stood := { row := fnVotesRow, standIns := [], harness := (true, "bd8ac8cd734662f7ea197c32b899a09e57c028e2fd453ec59679b0a1b46cc7b4"), looks := false }, kinds := [], alts := [], laidByText := true, laidKinds := [.data, .pinned], laidTests := true, laidLooks := .later }
def FnVotesCardSaid : Prop := Claim7.holds Tryd.pinned (.plain (OpenSpec.ofChange fnVotesSpec)) fnVotesCard

/-- THE TIED CARD OF 'laws.FnMajorities'. -/
def fnMajoritiesCard : Claim7 := { stood := { row := fnMajoritiesRow, standIns := [], harness := (true, "bd8ac8cd734662f7ea197c32b899a09e57c028e2fd453ec59679b0a1b46cc7b4"), looks := false }, kinds := [], alts := [], laidByText := true, laidKinds := [.data, .pinned], laidTests := true, laidLooks := .later }
def FnMajoritiesCardSaid : Prop := Claim7.holds Tryd.pinned (.plain (OpenSpec.ofChange fnMajoritiesSpec)) fnMajoritiesCard

/-- THE SECOND FORM's CARD OF 'laws.FnVotes'. -/
def fnVotesUptoCard : Claim7 := { stood := { row := fnVotesUptoRow, standIns := [], harness := (true, "bd8ac8cd734662f7ea197c32b899a09e57c028e2fd453ec59679b0a1b46cc7b4"), looks := false }, kinds := [], alts := [], laidByText := true, laidKinds := [.data, .pinned], laidTests := true, laidLooks := .later }
def FnVotesUptoCardSaid : Prop := Claim7.holds Tryd.pinned (.plain (OpenSpec.upto fnVotesSpec)) fnVotesUptoCard

/-- THE SECOND FORM's CARD OF 'laws.FnMajorities'. -/
def fnMajoritiesUptoCard : Claim7 := { stood := { row := fnMajoritiesUptoRow, standIns := [], harness := (true, "bd8ac8cd734662f7ea197c32b899a09e57c028e2fd453ec59679b0a1b46cc7b4"), looks := false }, kinds := [], alts := [], laidByText := true, laidKinds := [.data, .pinned], laidTests := true, laidLooks := .later }
def FnMajoritiesUptoCardSaid : Prop := Claim7.holds Tryd.pinned (.plain (OpenSpec.upto fnMajoritiesSpec)) fnMajoritiesUptoCard
end Rows
end Go.Proofs.YtihhpmhigmegjaaDoor
