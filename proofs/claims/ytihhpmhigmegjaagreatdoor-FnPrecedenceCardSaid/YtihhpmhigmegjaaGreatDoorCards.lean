/-
  DERIVED. GIVEN WITH THE SEED: THE CARDS: each row of YtihhpmhigmegjaaGreatDoorRows.lean that lists a variable, with what it lists TIED to the program's text (the seventh form; the later family's looks); each row that meets fmt, with fmt's text TOLD by the authors' own Lean function (tested against real Go, not proved from fmt's source: count such statements apart). THE CARD IS WHAT COUNTS. Prove the row's statement (the work); the ties are given (YtihhpmhigmegjaaGreatDoorTie.lean); close each card by the builder's one call (the guide's Derived/Test/ToyasCard.lean, 'card_holds'). Laid BY PROGRAM, IN A SANDBOX (cutbox-door.mjs). By AI agents, Wed Nov 11 2026. No macro, syntax, notation, axiom, sorry.
-/
import Derived.Test.YtihhpmhigmegjaaGreatDoorRows
import GoSem.ClaimSeven
namespace Go.Proofs.YtihhpmhigmegjaaGreatDoor
namespace Rows

/-- THE TIED CARD OF 'laws.FnFacts'. -/
def fnFactsCard : Claim7 := { stood := { row := fnFactsRow, standIns := [], harness := (true, "43c4d504847373bbe821f623db2d7a1672d9c12f05b930773ee7b6ecbdda9eaf"), looks := false }, kinds := [], alts := [], laidByText := true, laidKinds := [.data, .pinned], laidTests := true, laidLooks := .later }
def FnFactsCardSaid : Prop := Claim7.holds Tryz.pinned (.plain (OpenSpec.ofChange fnFactsSpec)) fnFactsCard

/-- THE TIED CARD OF 'laws.FnHomonyms'. -/
def fnHomonymsCard : Claim7 := { stood := { row := fnHomonymsRow, standIns := [], harness := (true, "43c4d504847373bbe821f623db2d7a1672d9c12f05b930773ee7b6ecbdda9eaf"), looks := false }, kinds := [], alts := [], laidByText := true, laidKinds := [.data, .widerDeep, .pinned], laidTests := true, laidLooks := .later }
def FnHomonymsCardSaid : Prop := Claim7.holds Tryz.pinned (.plain (OpenSpec.ofChange fnHomonymsSpec)) fnHomonymsCard

/-- THE TIED CARD OF 'laws.FnPrecedence'. -/
def fnPrecedenceCard : Claim7 := { stood := { row := fnPrecedenceRow, standIns := [], harness := (true, "43c4d504847373bbe821f623db2d7a1672d9c12f05b930773ee7b6ecbdda9eaf"), looks := false }, kinds := [], alts := [], laidByText := true, laidKinds := [.data, .pinned], laidTests := true, laidLooks := .later }
def FnPrecedenceCardSaid : Prop := Claim7.holds Tryz.pinned (.plain (OpenSpec.ofChange fnPrecedenceSpec)) fnPrecedenceCard

/-- THE SECOND FORM's CARD OF 'laws.FnFacts'. -/
def fnFactsUptoCard : Claim7 := { stood := { row := fnFactsUptoRow, standIns := [], harness := (true, "43c4d504847373bbe821f623db2d7a1672d9c12f05b930773ee7b6ecbdda9eaf"), looks := false }, kinds := [], alts := [], laidByText := true, laidKinds := [.data, .pinned], laidTests := true, laidLooks := .later }
def FnFactsUptoCardSaid : Prop := Claim7.holds Tryz.pinned (.plain (OpenSpec.upto fnFactsSpec)) fnFactsUptoCard

/-- THE SECOND FORM's CARD OF 'laws.FnHomonyms'. -/
def fnHomonymsUptoCard : Claim7 := { stood := { row := fnHomonymsUptoRow, standIns := [], harness := (true, "43c4d504847373bbe821f623db2d7a1672d9c12f05b930773ee7b6ecbdda9eaf"), looks := false }, kinds := [], alts := [], laidByText := true, laidKinds := [.data, .widerDeep, .pinned], laidTests := true, laidLooks := .later }
def FnHomonymsUptoCardSaid : Prop := Claim7.holds Tryz.pinned (.plain (OpenSpec.upto fnHomonymsSpec)) fnHomonymsUptoCard

/-- THE SECOND FORM's CARD OF 'laws.FnPrecedence'. -/
def fnPrecedenceUptoCard : Claim7 := { stood := { row := fnPrecedenceUptoRow, standIns := [], harness := (true, "43c4d504847373bbe821f623db2d7a1672d9c12f05b930773ee7b6ecbdda9eaf"), looks := false }, kinds := [], alts := [], laidByText := true, laidKinds := [.data, .pinned], laidTests := true, laidLooks := .later }
def FnPrecedenceUptoCardSaid : Prop := Claim7.holds Tryz.pinned (.plain (OpenSpec.upto fnPrecedenceSpec)) fnPrecedenceUptoCard
end Rows
end Go.Proofs.YtihhpmhigmegjaaGreatDoor
