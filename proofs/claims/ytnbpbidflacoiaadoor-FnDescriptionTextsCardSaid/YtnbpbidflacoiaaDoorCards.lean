/-
  DERIVED. GIVEN WITH THE SEED: THE CARDS: each row of YtnbpbidflacoiaaDoorRows.lean that lists a variable, with what it lists TIED to the program's text (the seventh form; the later family's looks); each row that meets fmt, with fmt's text TOLD by the authors' own Lean function (tested against real Go, not proved from fmt's source: count such statements apart). THE CARD IS WHAT COUNTS. Prove the row's statement (the work); the ties are given (YtnbpbidflacoiaaDoorTie.lean); close each card by the builder's one call (the guide's Derived/Test/ToyasCard.lean, 'card_holds'). Laid BY PROGRAM, IN A SANDBOX (cutbox-door.mjs). By AI agents, Wed Nov 11 2026. No macro, syntax, notation, axiom, sorry.
-/
import Derived.Test.YtnbpbidflacoiaaDoorRows
import GoSem.ClaimSeven
namespace Go.Proofs.YtnbpbidflacoiaaDoor
namespace Rows

/-- THE TIED CARD OF 'laws.FnDescriptions'. -/
def fnDescriptionsCard : Claim7 := { stood := { row := fnDescriptionsRow, standIns := [], harness := (true, "8135158345dcc05cd82da4d7c4fc101d096f2707c4faf7518d725e75b3410b10"), looks := true }, kinds := [], alts := [], laidByText := true, laidKinds := [.data, .widerDeep, .pinned], laidTests := true, laidLooks := .later }
def FnDescriptionsCardSaid : Prop := Claim7.holds Tryd.pinned (.plain (OpenSpec.ofChange fnDescriptionsSpec)) fnDescriptionsCard

/-- THE TIED CARD OF 'laws.FnExactDescriptionText'. -/
def fnExactDescriptionTextCard : Claim7 := { stood := { row := fnExactDescriptionTextRow, standIns := [], harness := (true, "8135158345dcc05cd82da4d7c4fc101d096f2707c4faf7518d725e75b3410b10"), looks := true }, kinds := [], alts := [], laidByText := true, laidKinds := [.data, .data, .data, .data, .widerDeep, .pinned], laidTests := true, laidLooks := .later }
def FnExactDescriptionTextCardSaid : Prop := Claim7.holds Tryd.pinned (.plain (OpenSpec.ofChange fnExactDescriptionTextSpec)) fnExactDescriptionTextCard

/-- THE TIED CARD OF 'laws.FnSatisfied'. -/
def fnSatisfiedCard : Claim7 := { stood := { row := fnSatisfiedRow, standIns := [], harness := (true, "8135158345dcc05cd82da4d7c4fc101d096f2707c4faf7518d725e75b3410b10"), looks := true }, kinds := [], alts := [], laidByText := true, laidKinds := [.data, .widerDeep, .pinned], laidTests := true, laidLooks := .later }
def FnSatisfiedCardSaid : Prop := Claim7.holds Tryd.pinned (.plain (OpenSpec.ofChange fnSatisfiedSpec)) fnSatisfiedCard

/-- THE TIED CARD OF 'laws.FnExactReadDescription'. -/
def fnExactReadDescriptionCard : Claim7 := { stood := { row := fnExactReadDescriptionRow, standIns := [], harness := (true, "8135158345dcc05cd82da4d7c4fc101d096f2707c4faf7518d725e75b3410b10"), looks := true }, kinds := [], alts := [], laidByText := true, laidKinds := [.data, .data, .data, .data, .sentinel, .sentinel, .widerDeep, .pinned], laidTests := true, laidLooks := .later }
def FnExactReadDescriptionCardSaid : Prop := Claim7.holds Tryd.pinned (.plain (OpenSpec.ofChange fnExactReadDescriptionSpec)) fnExactReadDescriptionCard

/-- THE TIED CARD OF 'laws.FnDescriptionTexts'. -/
def fnDescriptionTextsCard : Claim7 := { stood := { row := fnDescriptionTextsRow, standIns := [], harness := (true, "8135158345dcc05cd82da4d7c4fc101d096f2707c4faf7518d725e75b3410b10"), looks := true }, kinds := [], alts := [], laidByText := true, laidKinds := [.data, .data, .data, .data, .sentinel, .sentinel, .widerDeep, .pinned], laidTests := true, laidLooks := .later }
def FnDescriptionTextsCardSaid : Prop := Claim7.holds Tryd.pinned (.plain (OpenSpec.ofChange fnDescriptionTextsSpec)) fnDescriptionTextsCard

/-- THE SECOND FORM's CARD OF 'laws.FnDescriptions'. -/
def fnDescriptionsUptoCard : Claim7 := { stood := { row := fnDescriptionsUptoRow, standIns := [], harness := (true, "8135158345dcc05cd82da4d7c4fc101d096f2707c4faf7518d725e75b3410b10"), looks := true }, kinds := [], alts := [], laidByText := true, laidKinds := [.data, .widerDeep, .pinned], laidTests := true, laidLooks := .later }
def FnDescriptionsUptoCardSaid : Prop := Claim7.holds Tryd.pinned (.plain (OpenSpec.upto fnDescriptionsSpec)) fnDescriptionsUptoCard

/-- THE SECOND FORM's CARD OF 'laws.FnExactDescriptionText'. -/
def fnExactDescriptionTextUptoCard : Claim7 := { stood := { row := fnExactDescriptionTextUptoRow, standIns := [], harness := (true, "8135158345dcc05cd82da4d7c4fc101d096f2707c4faf7518d725e75b3410b10"), looks := true }, kinds := [], alts := [], laidByText := true, laidKinds := [.data, .data, .data, .data, .widerDeep, .pinned], laidTests := true, laidLooks := .later }
def FnExactDescriptionTextUptoCardSaid : Prop := Claim7.holds Tryd.pinned (.plain (OpenSpec.upto fnExactDescriptionTextSpec)) fnExactDescriptionTextUptoCard

/-- THE SECOND FORM's CARD OF 'laws.FnSatisfied'. -/
def fnSatisfiedUptoCard : Claim7 := { stood := { row := fnSatisfiedUptoRow, standIns := [], harness := (true, "8135158345dcc05cd82da4d7c4fc101d096f2707c4faf7518d725e75b3410b10"), looks := true }, kinds := [], alts := [], laidByText := true, laidKinds := [.data, .widerDeep, .pinned], laidTests := true, laidLooks := .later }
def FnSatisfiedUptoCardSaid : Prop := Claim7.holds Tryd.pinned (.plain (OpenSpec.upto fnSatisfiedSpec)) fnSatisfiedUptoCard

/-- THE SECOND FORM's CARD OF 'laws.FnExactReadDescription'. -/
def fnExactReadDescriptionUptoCard : Claim7 := { stood := { row := fnExactReadDescriptionUptoRow, standIns := [], harness := (true, "8135158345dcc05cd82da4d7c4fc101d096f2707c4faf7518d725e75b3410b10"), looks := true }, kinds := [], alts := [], laidByText := true, laidKinds := [.data, .data, .data, .data, .sentinel, .sentinel, .widerDeep, .pinned], laidTests := true, laidLooks := .later }
def FnExactReadDescriptionUptoCardSaid : Prop := Claim7.holds Tryd.pinned (.plain (OpenSpec.upto fnExactReadDescriptionSpec)) fnExactReadDescriptionUptoCard

/-- THE SECOND FORM's CARD OF 'laws.FnDescriptionTexts'. -/
def fnDescriptionTextsUptoCard : Claim7 := { stood := { row := fnDescriptionTextsUptoRow, standIns := [], harness := (true, "8135158345dcc05cd82da4d7c4fc101d096f2707c4faf7518d725e75b3410b10"), looks := true }, kinds := [], alts := [], laidByText := true, laidKinds := [.data, .data, .data, .data, .sentinel, .sentinel, .widerDeep, .pinned], laidTests := true, laidLooks := .later }
def FnDescriptionTextsUptoCardSaid : Prop := Claim7.holds Tryd.pinned (.plain (OpenSpec.upto fnDescriptionTextsSpec)) fnDescriptionTextsUptoCard
end Rows
end Go.Proofs.YtnbpbidflacoiaaDoor
