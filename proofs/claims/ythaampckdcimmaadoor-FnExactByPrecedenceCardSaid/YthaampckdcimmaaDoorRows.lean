/-
  NARROWER THAN 'FOR EVERY INPUT', by the rows' own cells (each row's printed sentence says how): FnExactIsEntry: laid · FnExactPhraseDistance: laid · FnExactAreEntries: laid · FnExactComparePrecedence: laid · FnExactHomonymsOf: laid · FnExactIsAdmitted: laid · FnExactDisplaced: laid · FnExactQualifiedText: laid · FnExactByPrecedence: laid.
  DERIVED. THE GIVEN ROWS OF THIS SEAT. 9 by the template 'for every input the law returns true; each argument reads behind the call as it read before'; 0 by the template 'total and deterministic' (their statements: YthaampckdcimmaaDoorTotals.lean).
  GIVEN WITH THE SEED: the statements are not yours to turn. If you find one false, say at which input.
  Laid BY PROGRAM, IN A SANDBOX (cutbox-rows.mjs): the forced cells as the released guide's own fill.sh prints them over the translation 09b8ad269f4ced24… (all of the seat's roots in one cut). By AI agents, Wed Nov 11 2026. No macro, syntax, notation, axiom, sorry.
-/
import Derived.Test.YthaampckdcimmaaDoorChecked
import GoSem.PinnedTables
import GoSem.Claim
import GoSem.ClaimJoined
import GoSem.ClaimMapViews
import Derived.JoinedTies
import Derived.KernelRfl
namespace Go.Proofs.YthaampckdcimmaaDoor
/- THE CELL 'sum', in the pinned program and in every row, IS THE sha256 OF THE DUMP (.gsa) THAT YthaampckdcimmaaDoorProg.lean LOADS. Nothing in Lean hashes anything: it is a label: what it is worth is what the hold of that sum in a sandbox is worth. -/
noncomputable def Tryd.pinned : Pinned := { name := "ythaampckdcimmaadoor", sum := "09b8ad269f4ced240ec1886dbcf1af965dd8e401f40402f511559a0ea424f45f", checked := Tryd.checked }
namespace Rows
def none {H : Type} : Left H := { results := [], args := [] }

/- WHAT THE LISTED PACKAGE-LEVEL VARIABLES READ AS WHEN THE CALL BEGINS. Each datum BY PROGRAM (the guide's laid-datum.mjs) off the statement by which the dump's own 'gosem.cut.vars' lays the variable. In a bare row this is a premise. The card (YthaampckdcimmaaDoorCards.lean) ties it to the program's text. -/
def laid_unicode_utf8_acceptRanges {H : Type} : DataW H := .agg [.agg [.lit (.int .u8 128), .lit (.int .u8 191)], .agg [.lit (.int .u8 160), .lit (.int .u8 191)], .agg [.lit (.int .u8 128), .lit (.int .u8 159)], .agg [.lit (.int .u8 144), .lit (.int .u8 191)], .agg [.lit (.int .u8 128), .lit (.int .u8 143)], .agg [.lit (.int .u8 0), .lit (.int .u8 0)], .agg [.lit (.int .u8 0), .lit (.int .u8 0)], .agg [.lit (.int .u8 0), .lit (.int .u8 0)], .agg [.lit (.int .u8 0), .lit (.int .u8 0)], .agg [.lit (.int .u8 0), .lit (.int .u8 0)], .agg [.lit (.int .u8 0), .lit (.int .u8 0)], .agg [.lit (.int .u8 0), .lit (.int .u8 0)], .agg [.lit (.int .u8 0), .lit (.int .u8 0)], .agg [.lit (.int .u8 0), .lit (.int .u8 0)], .agg [.lit (.int .u8 0), .lit (.int .u8 0)], .agg [.lit (.int .u8 0), .lit (.int .u8 0)]]
/-- One of Go's own tables, pinned by name: the form's constant. -/
def laid_unicode_utf8_first : DataW Unit := Go.Pinned.utf8First
def laid_loop_example_g01030_impl_directionWords {H : Type} : DataW H := .agg [.lit (.string [110, 111, 114, 116, 104]), .lit (.string [110, 111, 114, 116, 104, 101, 97, 115, 116]), .lit (.string [101, 97, 115, 116]), .lit (.string [115, 111, 117, 116, 104, 101, 97, 115, 116]), .lit (.string [115, 111, 117, 116, 104]), .lit (.string [115, 111, 117, 116, 104, 119, 101, 115, 116]), .lit (.string [119, 101, 115, 116]), .lit (.string [110, 111, 114, 116, 104, 119, 101, 115, 116])]

/-- 'laws.FnExactIsEntry': WHATEVER THE INPUT: true; the input reads as it did. -/
def fnExactIsEntrySpec : ChangeSpec := { name := "fnExactIsEntry", fn := fun _ => fun
  | [d] => { results := [.lit (.bool true)], args := [d] }
  | _ => none }
def fnExactIsEntryRow : OpenClaim := { program := "ythaampckdcimmaadoor", sum := "09b8ad269f4ced240ec1886dbcf1af965dd8e401f40402f511559a0ea424f45f", func := "loop.example/g01030/laws.FnExactIsEntry", spec := "fnExactIsEntry", inPlace := ["internal/bytealg.CountString", "internal/bytealg.IndexByteString", "internal/bytealg.IndexString"], named := ["unicode/utf8.first", "unicode/utf8.acceptRanges", "internal/bytealg.MaxLen"], apart := false, laid := [("unicode/utf8.acceptRanges", laid_unicode_utf8_acceptRanges), ("unicode/utf8.first", laid_unicode_utf8_first)] }
def FnExactIsEntrySaid : Prop := fnExactIsEntryRow.holds Tryd.pinned (OpenSpec.ofChange fnExactIsEntrySpec)

/-- ITS FALSE NEIGHBOUR: 'it returns false'. Refute it at one input. -/
def fnExactIsEntryWrong : ChangeSpec := { name := "fnExactIsEntry", fn := fun _ => fun
  | [d] => { results := [.lit (.bool false)], args := [d] }
  | _ => none }
def FnExactIsEntryWrongFalsely : Prop := fnExactIsEntryRow.holds Tryd.pinned (OpenSpec.ofChange fnExactIsEntryWrong)

/-- 'laws.FnExactPhraseDistance': WHATEVER THE INPUT: true; the input reads as it did. -/
def fnExactPhraseDistanceSpec : ChangeSpec := { name := "fnExactPhraseDistance", fn := fun _ => fun
  | [d1, d2] => { results := [.lit (.bool true)], args := [d1, d2] }
  | _ => none }
def fnExactPhraseDistanceRow : OpenClaim := { program := "ythaampckdcimmaadoor", sum := "09b8ad269f4ced240ec1886dbcf1af965dd8e401f40402f511559a0ea424f45f", func := "loop.example/g01030/laws.FnExactPhraseDistance", spec := "fnExactPhraseDistance", inPlace := ["internal/bytealg.CountString", "internal/bytealg.IndexByteString", "internal/bytealg.IndexString"], named := ["unicode/utf8.first", "unicode/utf8.acceptRanges", "internal/bytealg.MaxLen"], apart := false, laid := [("unicode/utf8.acceptRanges", laid_unicode_utf8_acceptRanges), ("unicode/utf8.first", laid_unicode_utf8_first)] }
def FnExactPhraseDistanceSaid : Prop := fnExactPhraseDistanceRow.holds Tryd.pinned (OpenSpec.ofChange fnExactPhraseDistanceSpec)

/-- ITS FALSE NEIGHBOUR: 'it returns false'. Refute it at one input. -/
def fnExactPhraseDistanceWrong : ChangeSpec := { name := "fnExactPhraseDistance", fn := fun _ => fun
  | [d1, d2] => { results := [.lit (.bool false)], args := [d1, d2] }
  | _ => none }
def FnExactPhraseDistanceWrongFalsely : Prop := fnExactPhraseDistanceRow.holds Tryd.pinned (OpenSpec.ofChange fnExactPhraseDistanceWrong)

/-- 'laws.FnExactAreEntries': WHATEVER THE INPUT: true; the input reads as it did. -/
def fnExactAreEntriesSpec : ChangeSpec := { name := "fnExactAreEntries", fn := fun _ => fun
  | [d] => { results := [.lit (.bool true)], args := [d] }
  | _ => none }
def fnExactAreEntriesRow : OpenClaim := { program := "ythaampckdcimmaadoor", sum := "09b8ad269f4ced240ec1886dbcf1af965dd8e401f40402f511559a0ea424f45f", func := "loop.example/g01030/laws.FnExactAreEntries", spec := "fnExactAreEntries", inPlace := ["internal/bytealg.CountString", "internal/bytealg.IndexByteString", "internal/bytealg.IndexString"], unfollowed := true, recurses := true, named := ["unicode/utf8.first", "unicode/utf8.acceptRanges", "internal/bytealg.MaxLen"], apart := false, laid := [("unicode/utf8.acceptRanges", laid_unicode_utf8_acceptRanges), ("unicode/utf8.first", laid_unicode_utf8_first)] }
def FnExactAreEntriesSaid : Prop := fnExactAreEntriesRow.holds Tryd.pinned (OpenSpec.ofChange fnExactAreEntriesSpec)

/-- ITS FALSE NEIGHBOUR: 'it returns false'. Refute it at one input. -/
def fnExactAreEntriesWrong : ChangeSpec := { name := "fnExactAreEntries", fn := fun _ => fun
  | [d] => { results := [.lit (.bool false)], args := [d] }
  | _ => none }
def FnExactAreEntriesWrongFalsely : Prop := fnExactAreEntriesRow.holds Tryd.pinned (OpenSpec.ofChange fnExactAreEntriesWrong)

/-- 'laws.FnExactComparePrecedence': WHATEVER THE INPUT: true; the input reads as it did. -/
def fnExactComparePrecedenceSpec : ChangeSpec := { name := "fnExactComparePrecedence", fn := fun _ => fun
  | [d1, d2] => { results := [.lit (.bool true)], args := [d1, d2] }
  | _ => none }
def fnExactComparePrecedenceRow : OpenClaim := { program := "ythaampckdcimmaadoor", sum := "09b8ad269f4ced240ec1886dbcf1af965dd8e401f40402f511559a0ea424f45f", func := "loop.example/g01030/laws.FnExactComparePrecedence", spec := "fnExactComparePrecedence", inPlace := ["internal/bytealg.CountString", "internal/bytealg.IndexByteString", "internal/bytealg.IndexString", "internal/bytealg.abigen_runtime_cmpstring"], named := ["unicode/utf8.first", "unicode/utf8.acceptRanges", "internal/bytealg.MaxLen"], apart := false, laid := [("unicode/utf8.acceptRanges", laid_unicode_utf8_acceptRanges), ("unicode/utf8.first", laid_unicode_utf8_first)] }
def FnExactComparePrecedenceSaid : Prop := fnExactComparePrecedenceRow.holds Tryd.pinned (OpenSpec.ofChange fnExactComparePrecedenceSpec)

/-- ITS FALSE NEIGHBOUR: 'it returns false'. Refute it at one input. -/
def fnExactComparePrecedenceWrong : ChangeSpec := { name := "fnExactComparePrecedence", fn := fun _ => fun
  | [d1, d2] => { results := [.lit (.bool false)], args := [d1, d2] }
  | _ => none }
def FnExactComparePrecedenceWrongFalsely : Prop := fnExactComparePrecedenceRow.holds Tryd.pinned (OpenSpec.ofChange fnExactComparePrecedenceWrong)

/-- 'laws.FnExactHomonymsOf': WHATEVER THE INPUT: true; the input reads as it did. -/
def fnExactHomonymsOfSpec : ChangeSpec := { name := "fnExactHomonymsOf", fn := fun _ => fun
  | [d1, d2, d3] => { results := [.lit (.bool true)], args := [d1, d2, d3] }
  | _ => none }
def fnExactHomonymsOfRow : OpenClaim := { program := "ythaampckdcimmaadoor", sum := "09b8ad269f4ced240ec1886dbcf1af965dd8e401f40402f511559a0ea424f45f", func := "loop.example/g01030/laws.FnExactHomonymsOf", spec := "fnExactHomonymsOf", inPlace := ["internal/bytealg.CountString", "internal/bytealg.IndexByteString", "internal/bytealg.IndexString"], unfollowed := true, recurses := true, named := ["unicode/utf8.first", "unicode/utf8.acceptRanges", "internal/bytealg.MaxLen"], apart := false, laid := [("unicode/utf8.acceptRanges", laid_unicode_utf8_acceptRanges), ("unicode/utf8.first", laid_unicode_utf8_first)] }
def FnExactHomonymsOfSaid : Prop := fnExactHomonymsOfRow.holds Tryd.pinned (OpenSpec.ofChange fnExactHomonymsOfSpec)

/-- ITS FALSE NEIGHBOUR: 'it returns false'. Refute it at one input. -/
def fnExactHomonymsOfWrong : ChangeSpec := { name := "fnExactHomonymsOf", fn := fun _ => fun
  | [d1, d2, d3] => { results := [.lit (.bool false)], args := [d1, d2, d3] }
  | _ => none }
def FnExactHomonymsOfWrongFalsely : Prop := fnExactHomonymsOfRow.holds Tryd.pinned (OpenSpec.ofChange fnExactHomonymsOfWrong)

/-- 'laws.FnExactIsAdmitted': WHATEVER THE INPUT: true; the input reads as it did. -/
def fnExactIsAdmittedSpec : ChangeSpec := { name := "fnExactIsAdmitted", fn := fun _ => fun
  | [d1, d2, d3] => { results := [.lit (.bool true)], args := [d1, d2, d3] }
  | _ => none }
def fnExactIsAdmittedRow : OpenClaim := { program := "ythaampckdcimmaadoor", sum := "09b8ad269f4ced240ec1886dbcf1af965dd8e401f40402f511559a0ea424f45f", func := "loop.example/g01030/laws.FnExactIsAdmitted", spec := "fnExactIsAdmitted", inPlace := ["internal/bytealg.CountString", "internal/bytealg.IndexByteString", "internal/bytealg.IndexString", "internal/bytealg.abigen_runtime_cmpstring"], unfollowed := true, recurses := true, named := ["unicode/utf8.first", "unicode/utf8.acceptRanges", "internal/bytealg.MaxLen"], apart := false, laid := [("unicode/utf8.acceptRanges", laid_unicode_utf8_acceptRanges), ("unicode/utf8.first", laid_unicode_utf8_first)] }
def FnExactIsAdmittedSaid : Prop := fnExactIsAdmittedRow.holds Tryd.pinned (OpenSpec.ofChange fnExactIsAdmittedSpec)

/-- ITS FALSE NEIGHBOUR: 'it returns false'. Refute it at one input. -/
def fnExactIsAdmittedWrong : ChangeSpec := { name := "fnExactIsAdmitted", fn := fun _ => fun
  | [d1, d2, d3] => { results := [.lit (.bool false)], args := [d1, d2, d3] }
  | _ => none }
def FnExactIsAdmittedWrongFalsely : Prop := fnExactIsAdmittedRow.holds Tryd.pinned (OpenSpec.ofChange fnExactIsAdmittedWrong)

/-- 'laws.FnExactDisplaced': WHATEVER THE INPUT: true; the input reads as it did. -/
def fnExactDisplacedSpec : ChangeSpec := { name := "fnExactDisplaced", fn := fun _ => fun
  | [d1, d2, d3] => { results := [.lit (.bool true)], args := [d1, d2, d3] }
  | _ => none }
def fnExactDisplacedRow : OpenClaim := { program := "ythaampckdcimmaadoor", sum := "09b8ad269f4ced240ec1886dbcf1af965dd8e401f40402f511559a0ea424f45f", func := "loop.example/g01030/laws.FnExactDisplaced", spec := "fnExactDisplaced", inPlace := ["internal/bytealg.CountString", "internal/bytealg.IndexByteString", "internal/bytealg.IndexString", "internal/bytealg.abigen_runtime_cmpstring"], unfollowed := true, recurses := true, named := ["unicode/utf8.first", "unicode/utf8.acceptRanges", "internal/bytealg.MaxLen"], apart := false, laid := [("unicode/utf8.acceptRanges", laid_unicode_utf8_acceptRanges), ("unicode/utf8.first", laid_unicode_utf8_first)] }
def FnExactDisplacedSaid : Prop := fnExactDisplacedRow.holds Tryd.pinned (OpenSpec.ofChange fnExactDisplacedSpec)

/-- ITS FALSE NEIGHBOUR: 'it returns false'. Refute it at one input. -/
def fnExactDisplacedWrong : ChangeSpec := { name := "fnExactDisplaced", fn := fun _ => fun
  | [d1, d2, d3] => { results := [.lit (.bool false)], args := [d1, d2, d3] }
  | _ => none }
def FnExactDisplacedWrongFalsely : Prop := fnExactDisplacedRow.holds Tryd.pinned (OpenSpec.ofChange fnExactDisplacedWrong)

/-- 'laws.FnExactQualifiedText': WHATEVER THE INPUT: true; the input reads as it did. -/
def fnExactQualifiedTextSpec : ChangeSpec := { name := "fnExactQualifiedText", vars := ["loop.example/g01030/impl.directionWords"], fn := fun _ => fun
  | [d1, d2, d3, g1] => { results := [.lit (.bool true)], args := [d1, d2, d3], vars := [g1] }
  | _ => none }
def fnExactQualifiedTextRow : OpenClaim := { program := "ythaampckdcimmaadoor", sum := "09b8ad269f4ced240ec1886dbcf1af965dd8e401f40402f511559a0ea424f45f", func := "loop.example/g01030/laws.FnExactQualifiedText", spec := "fnExactQualifiedText", inPlace := ["internal/bytealg.CountString", "internal/bytealg.IndexByteString", "internal/bytealg.IndexString", "internal/bytealg.abigen_runtime_cmpstring"], unfollowed := true, recurses := true, named := ["loop.example/g01030/impl.directionWords", "unicode/utf8.first", "unicode/utf8.acceptRanges", "internal/bytealg.MaxLen"], apart := false, laid := [("unicode/utf8.acceptRanges", laid_unicode_utf8_acceptRanges), ("loop.example/g01030/impl.directionWords", laid_loop_example_g01030_impl_directionWords), ("unicode/utf8.first", laid_unicode_utf8_first)] }
def FnExactQualifiedTextSaid : Prop := fnExactQualifiedTextRow.holds Tryd.pinned (OpenSpec.ofChange fnExactQualifiedTextSpec)

/-- ITS FALSE NEIGHBOUR: 'it returns false'. Refute it at one input. -/
def fnExactQualifiedTextWrong : ChangeSpec := { name := "fnExactQualifiedText", vars := ["loop.example/g01030/impl.directionWords"], fn := fun _ => fun
  | [d1, d2, d3, g1] => { results := [.lit (.bool false)], args := [d1, d2, d3], vars := [g1] }
  | _ => none }
def FnExactQualifiedTextWrongFalsely : Prop := fnExactQualifiedTextRow.holds Tryd.pinned (OpenSpec.ofChange fnExactQualifiedTextWrong)

/-- 'laws.FnExactByPrecedence': WHATEVER THE INPUT: true; the input reads as it did. -/
def fnExactByPrecedenceSpec : ChangeSpec := { name := "fnExactByPrecedence", fn := fun _ => fun
  | [d] => { results := [.lit (.bool true)], args := [d] }
  | _ => none }
def fnExactByPrecedenceRow : OpenClaim := { program := "ythaampckdcimmaadoor", sum := "09b8ad269f4ced240ec1886dbcf1af965dd8e401f40402f511559a0ea424f45f", func := "loop.example/g01030/laws.FnExactByPrecedence", spec := "fnExactByPrecedence", inPlace := ["internal/bytealg.CountString", "internal/bytealg.IndexByteString", "internal/bytealg.IndexString", "internal/bytealg.abigen_runtime_cmpstring"], unfollowed := true, recurses := true, named := ["unicode/utf8.first", "unicode/utf8.acceptRanges", "internal/bytealg.MaxLen"], apart := false, laid := [("unicode/utf8.acceptRanges", laid_unicode_utf8_acceptRanges), ("unicode/utf8.first", laid_unicode_utf8_first)] }
def FnExactByPrecedenceSaid : Prop := fnExactByPrecedenceRow.holds Tryd.pinned (OpenSpec.ofChange fnExactByPrecedenceSpec)

/-- ITS FALSE NEIGHBOUR: 'it returns false'. Refute it at one input. -/
def fnExactByPrecedenceWrong : ChangeSpec := { name := "fnExactByPrecedence", fn := fun _ => fun
  | [d] => { results := [.lit (.bool false)], args := [d] }
  | _ => none }
def FnExactByPrecedenceWrongFalsely : Prop := fnExactByPrecedenceRow.holds Tryd.pinned (OpenSpec.ofChange fnExactByPrecedenceWrong)

/- THE SECOND FORM. 'bulk': how many values and letters a reading holds, each counted each time it is reached (what is shared counts as often as it is met; a slice's spare places count too). A statement '..UptoSaid' is the law's where the arguments, and the package variables that the reading takes, are together of bulk at most 1048576: NARROWER than '..Said'. Prove '..Said' where nothing that the law and all that it calls make is longer than what came in: it says more and counts as full. Else prove '..UptoSaid'. A law counts once. -/
mutual
def uptoBulk {H : Type} : DataW H → Nat
  | .lit (.string bytes) => bytes.length + 1
  | .lit _ => 1
  | .nil => 1
  | .ptr d => uptoBulk d + 1
  | .slice elems spare => uptoBulkAll elems + uptoBulkAll spare + 1
  | .agg parts => uptoBulkAll parts + 1
  | .iface _ d => uptoBulk d + 1
  | .map entries => uptoBulkEntries entries + 1
  | .held _ => 1
def uptoBulkAll {H : Type} : List (DataW H) → Nat
  | [] => 0
  | d :: r => uptoBulk d + uptoBulkAll r
def uptoBulkEntries {H : Type} : List (Lit × DataW H) → Nat
  | [] => 0
  | x :: r => uptoBulkEntry x + uptoBulkEntries r
def uptoBulkEntry {H : Type} : Lit × DataW H → Nat
  | (.string bytes, d) => bytes.length + uptoBulk d + 1
  | (_, d) => uptoBulk d + 1
 end
def uptoSmall : (H : Type) → List (DataW H) → Bool := fun _ ds => decide (uptoBulkAll ds ≤ 1048576)
def OpenSpec.upto (s : _root_.Go.ChangeSpec) : _root_.Go.OpenSpec := { _root_.Go.OpenSpec.ofChange s with cond := some uptoSmall }

/-- 'laws.FnExactIsEntry', WHERE WHAT IT READS IS OF BULK AT MOST 1048576: true; the input reads as it did. -/
def fnExactIsEntryUptoRow : OpenClaim := { program := "ythaampckdcimmaadoor", sum := "09b8ad269f4ced240ec1886dbcf1af965dd8e401f40402f511559a0ea424f45f", func := "loop.example/g01030/laws.FnExactIsEntry", spec := "fnExactIsEntry", inPlace := ["internal/bytealg.CountString", "internal/bytealg.IndexByteString", "internal/bytealg.IndexString"], named := ["unicode/utf8.first", "unicode/utf8.acceptRanges", "internal/bytealg.MaxLen"], apart := false, laid := [("unicode/utf8.acceptRanges", laid_unicode_utf8_acceptRanges), ("unicode/utf8.first", laid_unicode_utf8_first)], narrowed := true }
def FnExactIsEntryUptoSaid : Prop := fnExactIsEntryUptoRow.holds Tryd.pinned (OpenSpec.upto fnExactIsEntrySpec)

/-- 'laws.FnExactPhraseDistance', WHERE WHAT IT READS IS OF BULK AT MOST 1048576: true; the input reads as it did. -/
def fnExactPhraseDistanceUptoRow : OpenClaim := { program := "ythaampckdcimmaadoor", sum := "09b8ad269f4ced240ec1886dbcf1af965dd8e401f40402f511559a0ea424f45f", func := "loop.example/g01030/laws.FnExactPhraseDistance", spec := "fnExactPhraseDistance", inPlace := ["internal/bytealg.CountString", "internal/bytealg.IndexByteString", "internal/bytealg.IndexString"], named := ["unicode/utf8.first", "unicode/utf8.acceptRanges", "internal/bytealg.MaxLen"], apart := false, laid := [("unicode/utf8.acceptRanges", laid_unicode_utf8_acceptRanges), ("unicode/utf8.first", laid_unicode_utf8_first)], narrowed := true }
def FnExactPhraseDistanceUptoSaid : Prop := fnExactPhraseDistanceUptoRow.holds Tryd.pinned (OpenSpec.upto fnExactPhraseDistanceSpec)

/-- 'laws.FnExactAreEntries', WHERE WHAT IT READS IS OF BULK AT MOST 1048576: true; the input reads as it did. -/
def fnExactAreEntriesUptoRow : OpenClaim := { program := "ythaampckdcimmaadoor", sum := "09b8ad269f4ced240ec1886dbcf1af965dd8e401f40402f511559a0ea424f45f", func := "loop.example/g01030/laws.FnExactAreEntries", spec := "fnExactAreEntries", inPlace := ["internal/bytealg.CountString", "internal/bytealg.IndexByteString", "internal/bytealg.IndexString"], unfollowed := true, recurses := true, named := ["unicode/utf8.first", "unicode/utf8.acceptRanges", "internal/bytealg.MaxLen"], apart := false, laid := [("unicode/utf8.acceptRanges", laid_unicode_utf8_acceptRanges), ("unicode/utf8.first", laid_unicode_utf8_first)], narrowed := true }
def FnExactAreEntriesUptoSaid : Prop := fnExactAreEntriesUptoRow.holds Tryd.pinned (OpenSpec.upto fnExactAreEntriesSpec)

/-- 'laws.FnExactComparePrecedence', WHERE WHAT IT READS IS OF BULK AT MOST 1048576: true; the input reads as it did. -/
def fnExactComparePrecedenceUptoRow : OpenClaim := { program := "ythaampckdcimmaadoor", sum := "09b8ad269f4ced240ec1886dbcf1af965dd8e401f40402f511559a0ea424f45f", func := "loop.example/g01030/laws.FnExactComparePrecedence", spec := "fnExactComparePrecedence", inPlace := ["internal/bytealg.CountString", "internal/bytealg.IndexByteString", "internal/bytealg.IndexString", "internal/bytealg.abigen_runtime_cmpstring"], named := ["unicode/utf8.first", "unicode/utf8.acceptRanges", "internal/bytealg.MaxLen"], apart := false, laid := [("unicode/utf8.acceptRanges", laid_unicode_utf8_acceptRanges), ("unicode/utf8.first", laid_unicode_utf8_first)], narrowed := true }
def FnExactComparePrecedenceUptoSaid : Prop := fnExactComparePrecedenceUptoRow.holds Tryd.pinned (OpenSpec.upto fnExactComparePrecedenceSpec)

/-- 'laws.FnExactHomonymsOf', WHERE WHAT IT READS IS OF BULK AT MOST 1048576: true; the input reads as it did. -/
def fnExactHomonymsOfUptoRow : OpenClaim := { program := "ythaampckdcimmaadoor", sum := "09b8ad269f4ced240ec1886dbcf1af965dd8e401f40402f511559a0ea424f45f", func := "loop.example/g01030/laws.FnExactHomonymsOf", spec := "fnExactHomonymsOf", inPlace := ["internal/bytealg.CountString", "internal/bytealg.IndexByteString", "internal/bytealg.IndexString"], unfollowed := true, recurses := true, named := ["unicode/utf8.first", "unicode/utf8.acceptRanges", "internal/bytealg.MaxLen"], apart := false, laid := [("unicode/utf8.acceptRanges", laid_unicode_utf8_acceptRanges), ("unicode/utf8.first", laid_unicode_utf8_first)], narrowed := true }
def FnExactHomonymsOfUptoSaid : Prop := fnExactHomonymsOfUptoRow.holds Tryd.pinned (OpenSpec.upto fnExactHomonymsOfSpec)

/-- 'laws.FnExactIsAdmitted', WHERE WHAT IT READS IS OF BULK AT MOST 1048576: true; the input reads as it did. -/
def fnExactIsAdmittedUptoRow : OpenClaim := { program := "ythaampckdcimmaadoor", sum := "09b8ad269f4ced240ec1886dbcf1af965dd8e401f40402f511559a0ea424f45f", func := "loop.example/g01030/laws.FnExactIsAdmitted", spec := "fnExactIsAdmitted", inPlace := ["internal/bytealg.CountString", "internal/bytealg.IndexByteString", "internal/bytealg.IndexString", "internal/bytealg.abigen_runtime_cmpstring"], unfollowed := true, recurses := true, named := ["unicode/utf8.first", "unicode/utf8.acceptRanges", "internal/bytealg.MaxLen"], apart := false, laid := [("unicode/utf8.acceptRanges", laid_unicode_utf8_acceptRanges), ("unicode/utf8.first", laid_unicode_utf8_first)], narrowed := true }
def FnExactIsAdmittedUptoSaid : Prop := fnExactIsAdmittedUptoRow.holds Tryd.pinned (OpenSpec.upto fnExactIsAdmittedSpec)

/-- 'laws.FnExactDisplaced', WHERE WHAT IT READS IS OF BULK AT MOST 1048576: true; the input reads as it did. -/
def fnExactDisplacedUptoRow : OpenClaim := { program := "ythaampckdcimmaadoor", sum := "09b8ad269f4ced240ec1886dbcf1af965dd8e401f40402f511559a0ea424f45f", func := "loop.example/g01030/laws.FnExactDisplaced", spec := "fnExactDisplaced", inPlace := ["internal/bytealg.CountString", "internal/bytealg.IndexByteString", "internal/bytealg.IndexString", "internal/bytealg.abigen_runtime_cmpstring"], unfollowed := true, recurses := true, named := ["unicode/utf8.first", "unicode/utf8.acceptRanges", "internal/bytealg.MaxLen"], apart := false, laid := [("unicode/utf8.acceptRanges", laid_unicode_utf8_acceptRanges), ("unicode/utf8.first", laid_unicode_utf8_first)], narrowed := true }
def FnExactDisplacedUptoSaid : Prop := fnExactDisplacedUptoRow.holds Tryd.pinned (OpenSpec.upto fnExactDisplacedSpec)

/-- 'laws.FnExactQualifiedText', WHERE WHAT IT READS IS OF BULK AT MOST 1048576: true; the input reads as it did. -/
def fnExactQualifiedTextUptoRow : OpenClaim := { program := "ythaampckdcimmaadoor", sum := "09b8ad269f4ced240ec1886dbcf1af965dd8e401f40402f511559a0ea424f45f", func := "loop.example/g01030/laws.FnExactQualifiedText", spec := "fnExactQualifiedText", inPlace := ["internal/bytealg.CountString", "internal/bytealg.IndexByteString", "internal/bytealg.IndexString", "internal/bytealg.abigen_runtime_cmpstring"], unfollowed := true, recurses := true, named := ["loop.example/g01030/impl.directionWords", "unicode/utf8.first", "unicode/utf8.acceptRanges", "internal/bytealg.MaxLen"], apart := false, laid := [("unicode/utf8.acceptRanges", laid_unicode_utf8_acceptRanges), ("loop.example/g01030/impl.directionWords", laid_loop_example_g01030_impl_directionWords), ("unicode/utf8.first", laid_unicode_utf8_first)], narrowed := true }
def FnExactQualifiedTextUptoSaid : Prop := fnExactQualifiedTextUptoRow.holds Tryd.pinned (OpenSpec.upto fnExactQualifiedTextSpec)

/-- 'laws.FnExactByPrecedence', WHERE WHAT IT READS IS OF BULK AT MOST 1048576: true; the input reads as it did. -/
def fnExactByPrecedenceUptoRow : OpenClaim := { program := "ythaampckdcimmaadoor", sum := "09b8ad269f4ced240ec1886dbcf1af965dd8e401f40402f511559a0ea424f45f", func := "loop.example/g01030/laws.FnExactByPrecedence", spec := "fnExactByPrecedence", inPlace := ["internal/bytealg.CountString", "internal/bytealg.IndexByteString", "internal/bytealg.IndexString", "internal/bytealg.abigen_runtime_cmpstring"], unfollowed := true, recurses := true, named := ["unicode/utf8.first", "unicode/utf8.acceptRanges", "internal/bytealg.MaxLen"], apart := false, laid := [("unicode/utf8.acceptRanges", laid_unicode_utf8_acceptRanges), ("unicode/utf8.first", laid_unicode_utf8_first)], narrowed := true }
def FnExactByPrecedenceUptoSaid : Prop := fnExactByPrecedenceUptoRow.holds Tryd.pinned (OpenSpec.upto fnExactByPrecedenceSpec)

end Rows
end Go.Proofs.YthaampckdcimmaaDoor
