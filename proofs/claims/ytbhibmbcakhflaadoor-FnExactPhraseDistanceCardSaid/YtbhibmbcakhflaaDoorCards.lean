/-
  DERIVED. GIVEN WITH THE SEED: THE CARDS: each row of YtbhibmbcakhflaaDoorRows.lean that lists a variable, with what it lists TIED to the program's text (the seventh form; the later family's looks); each row that meets fmt, with fmt's text TOLD by the authors' own Lean function (tested against real Go, not proved from fmt's source: count such statements apart). THE CARD IS WHAT COUNTS. Prove the row's statement (the work); the ties are given (YtbhibmbcakhflaaDoorTie.lean); close each card by the builder's one call (the guide's Derived/Test/ToyasCard.lean, 'card_holds'). Laid BY PROGRAM, IN A SANDBOX (cutbox-door.mjs). By AI agents, Wed Nov 11 2026. No macro, syntax, notation, axiom, sorry.
-/
import Derived.Test.YtbhibmbcakhflaaDoorRows
import GoSem.ClaimSeven
namespace Go.Proofs.YtbhibmbcakhflaaDoor
namespace Rows

/-- THE TIED CARD OF 'laws.FnExactPhraseDistance'. -/
def fnExactPhraseDistanceCard : Claim7 := { stood := { row := fnExactPhraseDistanceRow, standIns := [], harness := (true, "e0285fdcd52a802c8929fc05c17aa9059197275235e7395be07a102b0bdfa913"), looks := false }, kinds := [], alts := [], laidByText := true, laidKinds := [.data, .pinned], laidTests := true, laidLooks := .later }
def FnExactPhraseDistanceCardSaid : Prop := Claim7.holds Tryd.pinned (.plain (OpenSpec.ofChange fnExactPhraseDistanceSpec)) fnExactPhraseDistanceCard

/-- THE SECOND FORM's CARD OF 'laws.FnExactPhraseDistance'. -/
def fnExactPhraseDistanceUptoCard : Claim7 := { stood := { row := fnExactPhraseDistanceUptoRow, standIns := [], harness := (true, "e0285fdcd52a802c8929fc05c17aa9059197275235e7395be07a102b0bdfa913"), looks := false }, kinds := [], alts := [], laidByText := true, laidKinds := [.data, .pinned], laidTests := true, laidLooks := .later }
def FnExactPhraseDistanceUptoCardSaid : Prop := Claim7.holds Tryd.pinned (.plain (OpenSpec.upto fnExactPhraseDistanceSpec)) fnExactPhraseDistanceUptoCard
end Rows
end Go.Proofs.YtbhibmbcakhflaaDoor
