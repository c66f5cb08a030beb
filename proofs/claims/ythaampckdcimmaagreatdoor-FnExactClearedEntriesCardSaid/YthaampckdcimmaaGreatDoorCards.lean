/-
  DERIVED. GIVEN WITH THE SEED: THE CARDS: each row of YthaampckdcimmaaGreatDoorRows.lean that lists a variable, with what it lists TIED to the program's text (the seventh form; the later family's looks); each row that meets fmt, with fmt's text TOLD by the authors' own Lean function (tested against real Go, not proved from fmt's source: count such statements apart). THE CARD IS WHAT COUNTS. Prove the row's statement (the work); the ties are given (YthaampckdcimmaaGreatDoorTie.lean); close each card by the builder's one call (the guide's Derived/Test/ToyasCard.lean, 'card_holds'). Laid BY PROGRAM, IN A SANDBOX (cutbox-door.mjs). By AI agents, Wed Nov 11 2026. No macro, syntax, notation, axiom, sorry.
-/
import Derived.Test.YthaampckdcimmaaGreatDoorRows
import GoSem.ClaimSeven
namespace Go.Proofs.YthaampckdcimmaaGreatDoor
namespace Rows

/-- THE TIED CARD OF 'laws.FnHomonyms'. -/
def fnHomonymsCard : Claim7 := { stood := { row := fnHomonymsRow, standIns := [], harness := (true, "4af25dcf40fac28b4dee63dbae46fb6030e8de0f05e80f8d454f3a5c402cfaa2"), looks := false }, kinds := [], alts := [], laidByText := true, laidKinds := [.data, .widerDeep, .pinned], laidTests := true, laidLooks := .later }
def FnHomonymsCardSaid : Prop := Claim7.holds Tryz.pinned (.plain (OpenSpec.ofChange fnHomonymsSpec)) fnHomonymsCard

/-- THE TIED CARD OF 'laws.FnExactClearedEntries'. -/
def fnExactClearedEntriesCard : Claim7 := { stood := { row := fnExactClearedEntriesRow, standIns := [], harness := (true, "4af25dcf40fac28b4dee63dbae46fb6030e8de0f05e80f8d454f3a5c402cfaa2"), looks := false }, kinds := [], alts := [], laidByText := true, laidKinds := [.data, .pinned], laidTests := true, laidLooks := .later }
def FnExactClearedEntriesCardSaid : Prop := Claim7.holds Tryz.pinned (.plain (OpenSpec.ofChange fnExactClearedEntriesSpec)) fnExactClearedEntriesCard

/-- THE TIED CARD OF 'laws.FnPrecedence'. -/
def fnPrecedenceCard : Claim7 := { stood := { row := fnPrecedenceRow, standIns := [], harness := (true, "4af25dcf40fac28b4dee63dbae46fb6030e8de0f05e80f8d454f3a5c402cfaa2"), looks := false }, kinds := [], alts := [], laidByText := true, laidKinds := [.data, .pinned], laidTests := true, laidLooks := .later }
def FnPrecedenceCardSaid : Prop := Claim7.holds Tryz.pinned (.plain (OpenSpec.ofChange fnPrecedenceSpec)) fnPrecedenceCard

/-- THE SECOND FORM's CARD OF 'laws.FnHomonyms'. -/
def fnHomonymsUptoCard : Claim7 := { stood := { row := fnHomonymsUptoRow, standIns := [], harness := (true, "4af25dcf40fac28b4dee63dbae46fb6030e8de0f05e80f8d454f3a5c402cfaa2"), looks := false }, kinds := [], alts := [], laidByText := true, laidKinds := [.data, .widerDeep, .pinned], laidTests := true, laidLooks := .later }
def FnHomonymsUptoCardSaid : Prop := Claim7.holds Tryz.pinned (.plain (OpenSpec.upto fnHomonymsSpec)) fnHomonymsUptoCard

/-- THE SECOND FORM's CARD OF 'laws.FnExactClearedEntries'. -/
def fnExactClearedEntriesUptoCard : Claim7 := { stood := { row := fnExactClearedEntriesUptoRow, standIns := [], harness := (true, "4af25dcf40fac28b4dee63dbae46fb6030e8de0f05e80f8d454f3a5c402cfaa2"), looks := false }, kinds := [], alts := [], laidByText := true, laidKinds := [.data, .pinned], laidTests := true, laidLooks := .later }
def FnExactClearedEntriesUptoCardSaid : Prop := Claim7.holds Tryz.pinned (.plain (OpenSpec.upto fnExactClearedEntriesSpec)) fnExactClearedEntriesUptoCard

/-- THE SECOND FORM's CARD OF 'laws.FnPrecedence'. -/
def fnPrecedenceUptoCard : Claim7 := { stood := { row := fnPrecedenceUptoRow, standIns := [], harness := (true, "4af25dcf40fac28b4dee63dbae46fb6030e8de0f05e80f8d454f3a5c402cfaa2"), looks := false }, kinds := [], alts := [], laidByText := true, laidKinds := [.data, .pinned], laidTests := true, laidLooks := .later }
def FnPrecedenceUptoCardSaid : Prop := Claim7.holds Tryz.pinned (.plain (OpenSpec.upto fnPrecedenceSpec)) fnPrecedenceUptoCard
end Rows
end Go.Proofs.YthaampckdcimmaaGreatDoor
