/-
  DERIVED. GIVEN WITH THE SEED: THE CARDS: each row of YthlpclnfnfbeiaaGreatDoorRows.lean that lists a variable, with what it lists TIED to the program's text (the seventh form; the later family's looks); each row that meets fmt, with fmt's text TOLD by the authors' own Lean function (tested against real Go, not proved from fmt's source: count such statements apart). THE CARD IS WHAT COUNTS. Prove the row's statement (the work); the ties are given (YthlpclnfnfbeiaaGreatDoorTie.lean); close each card by the builder's one call (the guide's Derived/Test/ToyasCard.lean, 'card_holds'). Laid BY PROGRAM, IN A SANDBOX (cutbox-door.mjs). By AI agents, Wed Nov 11 2026. No macro, syntax, notation, axiom, sorry.
-/
import Derived.Test.YthlpclnfnfbeiaaGreatDoorRows
import GoSem.ClaimSeven
namespace Go.Proofs.YthlpclnfnfbeiaaGreatDoor
namespace Rows

/-- THE TIED CARD OF 'laws.FnExactIsPossible'. -/
def fnExactIsPossibleCard : Claim7 := { stood := { row := fnExactIsPossibleRow, standIns := [], harness := (true, "0a90ca9791d17d16614458cbc004ac3cfaaabe480ca5df9195ea2f8d6923bcf9"), looks := false }, kinds := [], alts := [], laidByText := true, laidKinds := [.data, .pinned], laidTests := true, laidLooks := .later }
def FnExactIsPossibleCardSaid : Prop := Claim7.holds Tryz.pinned (.plain (OpenSpec.ofChange fnExactIsPossibleSpec)) fnExactIsPossibleCard

/-- THE TIED CARD OF 'laws.FnFacts'. -/
def fnFactsCard : Claim7 := { stood := { row := fnFactsRow, standIns := [], harness := (true, "0a90ca9791d17d16614458cbc004ac3cfaaabe480ca5df9195ea2f8d6923bcf9"), looks := false }, kinds := [], alts := [], laidByText := true, laidKinds := [.data, .pinned], laidTests := true, laidLooks := .later }
def FnFactsCardSaid : Prop := Claim7.holds Tryz.pinned (.plain (OpenSpec.ofChange fnFactsSpec)) fnFactsCard

/-- THE TIED CARD OF 'laws.FnExactNamesPossible'. -/
def fnExactNamesPossibleCard : Claim7 := { stood := { row := fnExactNamesPossibleRow, standIns := [], harness := (true, "0a90ca9791d17d16614458cbc004ac3cfaaabe480ca5df9195ea2f8d6923bcf9"), looks := false }, kinds := [], alts := [], laidByText := true, laidKinds := [.data, .pinned], laidTests := true, laidLooks := .later }
def FnExactNamesPossibleCardSaid : Prop := Claim7.holds Tryz.pinned (.plain (OpenSpec.ofChange fnExactNamesPossibleSpec)) fnExactNamesPossibleCard

/-- THE TIED CARD OF 'laws.FnExactIsCertain'. -/
def fnExactIsCertainCard : Claim7 := { stood := { row := fnExactIsCertainRow, standIns := [], harness := (true, "0a90ca9791d17d16614458cbc004ac3cfaaabe480ca5df9195ea2f8d6923bcf9"), looks := false }, kinds := [], alts := [], laidByText := true, laidKinds := [.data, .pinned], laidTests := true, laidLooks := .later }
def FnExactIsCertainCardSaid : Prop := Claim7.holds Tryz.pinned (.plain (OpenSpec.ofChange fnExactIsCertainSpec)) fnExactIsCertainCard

/-- THE SECOND FORM's CARD OF 'laws.FnExactIsPossible'. -/
def fnExactIsPossibleUptoCard : Claim7 := { stood := { row := fnExactIsPossibleUptoRow, standIns := [], harness := (true, "0a90ca9791d17d16614458cbc004ac3cfaaabe480ca5df9195ea2f8d6923bcf9"), looks := false }, kinds := [], alts := [], laidByText := true, laidKinds := [.data, .pinned], laidTests := true, laidLooks := .later }
def FnExactIsPossibleUptoCardSaid : Prop := Claim7.holds Tryz.pinned (.plain (OpenSpec.upto fnExactIsPossibleSpec)) fnExactIsPossibleUptoCard

/-- THE SECOND FORM's CARD OF 'laws.FnFacts'. -/
def fnFactsUptoCard : Claim7 := { stood := { row := fnFactsUptoRow, standIns := [], harness := (true, "0a90ca9791d17d16614458cbc004ac3cfaaabe480ca5df9195ea2f8d6923bcf9"), looks := false }, kinds := [], alts := [], laidByText := true, laidKinds := [.data, .pinned], laidTests := true, laidLooks := .later }
def FnFactsUptoCardSaid : Prop := Claim7.holds Tryz.pinned (.plain (OpenSpec.upto fnFactsSpec)) fnFactsUptoCard

/-- THE SECOND FORM's CARD OF 'laws.FnExactNamesPossible'. -/
def fnExactNamesPossibleUptoCard : Claim7 := { stood := { row := fnExactNamesPossibleUptoRow, standIns := [], harness := (true, "0a90ca9791d17d16614458cbc004ac3cfaaabe480ca5df9195ea2f8d6923bcf9"), looks := false }, kinds := [], alts := [], laidByText := true, laidKinds := [.data, .pinned], laidTests := true, laidLooks := .later }
def FnExactNamesPossibleUptoCardSaid : Prop := Claim7.holds Tryz.pinned (.plain (OpenSpec.upto fnExactNamesPossibleSpec)) fnExactNamesPossibleUptoCard

/-- THE SECOND FORM's CARD OF 'laws.FnExactIsCertain'. -/
def fnExactIsCertainUptoCard : Claim7 := { stood := { row := fnExactIsCertainUptoRow, standIns := [], harness := (true, "0a90ca9791d17d16614458cbc004ac3cfaaabe480ca5df9195ea2f8d6923bcf9"), looks := false }, kinds := [], alts := [], laidByText := true, laidKinds := [.data, .pinned], laidTests := true, laidLooks := .later }
def FnExactIsCertainUptoCardSaid : Prop := Claim7.holds Tryz.pinned (.plain (OpenSpec.upto fnExactIsCertainSpec)) fnExactIsCertainUptoCard
end Rows
end Go.Proofs.YthlpclnfnfbeiaaGreatDoor
