/-
  DERIVED. GIVEN WITH THE SEED: THE CARDS: each row of YteeonojcihcfiaaDoorRows.lean that lists a variable, with what it lists TIED to the program's text (the seventh form; the later family's looks); each row that meets fmt, with fmt's text TOLD by the authors' own Lean function (tested against real Go, not proved from fmt's source: count such statements apart). THE CARD IS WHAT COUNTS. Prove the row's statement (the work); the ties are given (YteeonojcihcfiaaDoorTie.lean); close each card by the builder's one call (the guide's Derived/Test/ToyasCard.lean, 'card_holds'). Laid BY PROGRAM, IN A SANDBOX (cutbox-door.mjs). By AI agents, Wed Nov 11 2026. No macro, syntax, notation, axiom, sorry.
-/
import Derived.Test.YteeonojcihcfiaaDoorRows
import GoSem.ClaimSeven
namespace Go.Proofs.YteeonojcihcfiaaDoor
namespace Rows

/-- THE TIED CARD OF 'laws.FnExactProcedureText'. -/
def fnExactProcedureTextCard : Claim7 := { stood := { row := fnExactProcedureTextRow, standIns := [], harness := (true, "0de0715a10e31a8dfb78ce435efd5446c528cc4f4c3e566e09238b615cb92eaa"), looks := true }, kinds := [], alts := [], laidByText := true, laidKinds := [.data, .data, .data], laidTests := true, laidLooks := .later }
def FnExactProcedureTextCardSaid : Prop := Claim7.holds Tryd.pinned (.plain (OpenSpec.ofChange fnExactProcedureTextSpec)) fnExactProcedureTextCard

/-- THE TIED CARD OF 'laws.FnExactReadProcedure'. -/
def fnExactReadProcedureCard : Claim7 := { stood := { row := fnExactReadProcedureRow, standIns := [], harness := (true, "0de0715a10e31a8dfb78ce435efd5446c528cc4f4c3e566e09238b615cb92eaa"), looks := true }, kinds := [], alts := [], laidByText := true, laidKinds := [.data, .data, .data, .data, .sentinel, .sentinel, .pinned], laidTests := true, laidLooks := .later }
def FnExactReadProcedureCardSaid : Prop := Claim7.holds Tryd.pinned (.plain (OpenSpec.ofChange fnExactReadProcedureSpec)) fnExactReadProcedureCard

/-- THE TIED CARD OF 'laws.FnProcedureTexts'. -/
def fnProcedureTextsCard : Claim7 := { stood := { row := fnProcedureTextsRow, standIns := [], harness := (true, "0de0715a10e31a8dfb78ce435efd5446c528cc4f4c3e566e09238b615cb92eaa"), looks := true }, kinds := [], alts := [], laidByText := true, laidKinds := [.data, .data, .data, .data, .sentinel, .sentinel, .pinned], laidTests := true, laidLooks := .later }
def FnProcedureTextsCardSaid : Prop := Claim7.holds Tryd.pinned (.plain (OpenSpec.ofChange fnProcedureTextsSpec)) fnProcedureTextsCard

/-- THE SECOND FORM's CARD OF 'laws.FnExactProcedureText'. -/
def fnExactProcedureTextUptoCard : Claim7 := { stood := { row := fnExactProcedureTextUptoRow, standIns := [], harness := (true, "0de0715a10e31a8dfb78ce435efd5446c528cc4f4c3e566e09238b615cb92eaa"), looks := true }, kinds := [], alts := [], laidByText := true, laidKinds := [.data, .data, .data], laidTests := true, laidLooks := .later }
def FnExactProcedureTextUptoCardSaid : Prop := Claim7.holds Tryd.pinned (.plain (OpenSpec.upto fnExactProcedureTextSpec)) fnExactProcedureTextUptoCard

/-- THE SECOND FORM's CARD OF 'laws.FnExactReadProcedure'. -/
def fnExactReadProcedureUptoCard : Claim7 := { stood := { row := fnExactReadProcedureUptoRow, standIns := [], harness := (true, "0de0715a10e31a8dfb78ce435efd5446c528cc4f4c3e566e09238b615cb92eaa"), looks := true }, kinds := [], alts := [], laidByText := true, laidKinds := [.data, .data, .data, .data, .sentinel, .sentinel, .pinned], laidTests := true, laidLooks := .later }
def FnExactReadProcedureUptoCardSaid : Prop := Claim7.holds Tryd.pinned (.plain (OpenSpec.upto fnExactReadProcedureSpec)) fnExactReadProcedureUptoCard

/-- THE SECOND FORM's CARD OF 'laws.FnProcedureTexts'. -/
def fnProcedureTextsUptoCard : Claim7 := { stood := { row := fnProcedureTextsUptoRow, standIns := [], harness := (true, "0de0715a10e31a8dfb78ce435efd5446c528cc4f4c3e566e09238b615cb92eaa"), looks := true }, kinds := [], alts := [], laidByText := true, laidKinds := [.data, .data, .data, .data, .sentinel, .sentinel, .pinned], laidTests := true, laidLooks := .later }
def FnProcedureTextsUptoCardSaid : Prop := Claim7.holds Tryd.pinned (.plain (OpenSpec.upto fnProcedureTextsSpec)) fnProcedureTextsUptoCard
end Rows
end Go.Proofs.YteeonojcihcfiaaDoor
