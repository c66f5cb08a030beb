/-
  NARROWER THAN 'FOR EVERY INPUT', by the rows' own cells (each row's printed sentence says how): FnExactIsPossible: laid · FnFacts: laid · FnExactNamesPossible: laid · FnExactIsCertain: laid.
  DERIVED. THE GIVEN ROWS OF THIS SEAT. 4 by the template 'for every input the law returns true; each argument reads behind the call as it read before'; 0 by the template 'total and deterministic' (their statements: YthlpclnfnfbeiaaGreatDoorTotals.lean).
  GIVEN WITH THE SEED: the statements are not yours to turn. If you find one false, say at which input.
  Laid BY PROGRAM, IN A SANDBOX (cutbox-rows.mjs): the forced cells as the released guide's own fill.sh prints them over the translation ae850ca27d9cca9d… (all of the seat's roots in one cut). By AI agents, Wed Nov 11 2026. No macro, syntax, notation, axiom, sorry.
-/
import Derived.Test.YthlpclnfnfbeiaaGreatDoorChecked
import GoSem.PinnedTables
import GoSem.Claim
import GoSem.ClaimJoined
import GoSem.ClaimMapViews
import Derived.JoinedTies
import Derived.KernelRfl
namespace Go.Proofs.YthlpclnfnfbeiaaGreatDoor
/- THE CELL 'sum', in the pinned program and in every row, IS THE sha256 OF THE DUMP (.gsa) THAT YthlpclnfnfbeiaaGreatDoorProg.lean LOADS. Nothing in Lean hashes anything: it is a label: what it is worth is what the hold of that sum in a sandbox is worth. -/
noncomputable def Tryz.pinned : Pinned := { name := "ythlpclnfnfbeiaagreatdoor", sum := "ae850ca27d9cca9d0bbc845299cb3146b3627a9cd2745347f781bf8bfa20c538", checked := Tryz.checked }
namespace Rows
def none {H : Type} : Left H := { results := [], args := [] }

/- WHAT THE LISTED PACKAGE-LEVEL VARIABLES READ AS WHEN THE CALL BEGINS. Each datum BY PROGRAM (the guide's laid-datum.mjs) off the statement by which the dump's own 'gosem.cut.vars' lays the variable. In a bare row this is a premise. The card (YthlpclnfnfbeiaaGreatDoorCards.lean) ties it to the program's text. -/
def laid_unicode_utf8_acceptRanges {H : Type} : DataW H := .agg [.agg [.lit (.int .u8 128), .lit (.int .u8 191)], .agg [.lit (.int .u8 160), .lit (.int .u8 191)], .agg [.lit (.int .u8 128), .lit (.int .u8 159)], .agg [.lit (.int .u8 144), .lit (.int .u8 191)], .agg [.lit (.int .u8 128), .lit (.int .u8 143)], .agg [.lit (.int .u8 0), .lit (.int .u8 0)], .agg [.lit (.int .u8 0), .lit (.int .u8 0)], .agg [.lit (.int .u8 0), .lit (.int .u8 0)], .agg [.lit (.int .u8 0), .lit (.int .u8 0)], .agg [.lit (.int .u8 0), .lit (.int .u8 0)], .agg [.lit (.int .u8 0), .lit (.int .u8 0)], .agg [.lit (.int .u8 0), .lit (.int .u8 0)], .agg [.lit (.int .u8 0), .lit (.int .u8 0)], .agg [.lit (.int .u8 0), .lit (.int .u8 0)], .agg [.lit (.int .u8 0), .lit (.int .u8 0)], .agg [.lit (.int .u8 0), .lit (.int .u8 0)]]
/-- One of Go's own tables, pinned by name: the form's constant. -/
def laid_unicode_utf8_first : DataW Unit := Go.Pinned.utf8First

/-- 'laws.FnExactIsPossible': WHATEVER THE INPUT: true; the input reads as it did. -/
def fnExactIsPossibleSpec : ChangeSpec := { name := "fnExactIsPossible", fn := fun _ => fun
  | [d1, d2] => { results := [.lit (.bool true)], args := [d1, d2] }
  | _ => none }
def fnExactIsPossibleRow : OpenClaim := { program := "ythlpclnfnfbeiaagreatdoor", sum := "ae850ca27d9cca9d0bbc845299cb3146b3627a9cd2745347f781bf8bfa20c538", func := "loop.example/g01030/laws.FnExactIsPossible", spec := "fnExactIsPossible", inPlace := ["internal/bytealg.IndexByteString", "internal/bytealg.IndexString", "internal/bytealg.CountString"], unfollowed := true, recurses := true, named := ["unicode/utf8.first", "unicode/utf8.acceptRanges", "internal/bytealg.MaxLen"], apart := false, laid := [("unicode/utf8.acceptRanges", laid_unicode_utf8_acceptRanges), ("unicode/utf8.first", laid_unicode_utf8_first)] }
def FnExactIsPossibleSaid : Prop := fnExactIsPossibleRow.holds Tryz.pinned (OpenSpec.ofChange fnExactIsPossibleSpec)

/-- ITS FALSE NEIGHBOUR: 'it returns false'. Refute it at one input. -/
def fnExactIsPossibleWrong : ChangeSpec := { name := "fnExactIsPossible", fn := fun _ => fun
  | [d1, d2] => { results := [.lit (.bool false)], args := [d1, d2] }
  | _ => none }
def FnExactIsPossibleWrongFalsely : Prop := fnExactIsPossibleRow.holds Tryz.pinned (OpenSpec.ofChange fnExactIsPossibleWrong)

/-- 'laws.FnFacts': WHATEVER THE INPUT: true; the input reads as it did. -/
def fnFactsSpec : ChangeSpec := { name := "fnFacts", fn := fun _ => fun
  | [d] => { results := [.lit (.bool true)], args := [d] }
  | _ => none }
def fnFactsRow : OpenClaim := { program := "ythlpclnfnfbeiaagreatdoor", sum := "ae850ca27d9cca9d0bbc845299cb3146b3627a9cd2745347f781bf8bfa20c538", func := "loop.example/g01030/laws.FnFacts", spec := "fnFacts", inPlace := ["internal/bytealg.IndexByteString", "internal/bytealg.IndexString", "internal/bytealg.CountString"], unfollowed := true, recurses := true, named := ["unicode/utf8.first", "unicode/utf8.acceptRanges", "internal/bytealg.MaxLen"], apart := false, laid := [("unicode/utf8.acceptRanges", laid_unicode_utf8_acceptRanges), ("unicode/utf8.first", laid_unicode_utf8_first)] }
def FnFactsSaid : Prop := fnFactsRow.holds Tryz.pinned (OpenSpec.ofChange fnFactsSpec)

/-- ITS FALSE NEIGHBOUR: 'it returns false'. Refute it at one input. -/
def fnFactsWrong : ChangeSpec := { name := "fnFacts", fn := fun _ => fun
  | [d] => { results := [.lit (.bool false)], args := [d] }
  | _ => none }
def FnFactsWrongFalsely : Prop := fnFactsRow.holds Tryz.pinned (OpenSpec.ofChange fnFactsWrong)

/-- 'laws.FnExactNamesPossible': WHATEVER THE INPUT: true; the input reads as it did. -/
def fnExactNamesPossibleSpec : ChangeSpec := { name := "fnExactNamesPossible", fn := fun _ => fun
  | [d1, d2, d3] => { results := [.lit (.bool true)], args := [d1, d2, d3] }
  | _ => none }
def fnExactNamesPossibleRow : OpenClaim := { program := "ythlpclnfnfbeiaagreatdoor", sum := "ae850ca27d9cca9d0bbc845299cb3146b3627a9cd2745347f781bf8bfa20c538", func := "loop.example/g01030/laws.FnExactNamesPossible", spec := "fnExactNamesPossible", inPlace := ["internal/bytealg.IndexByteString", "internal/bytealg.IndexString", "internal/bytealg.CountString"], unfollowed := true, recurses := true, named := ["unicode/utf8.first", "unicode/utf8.acceptRanges", "internal/bytealg.MaxLen"], apart := false, laid := [("unicode/utf8.acceptRanges", laid_unicode_utf8_acceptRanges), ("unicode/utf8.first", laid_unicode_utf8_first)] }
def FnExactNamesPossibleSaid : Prop := fnExactNamesPossibleRow.holds Tryz.pinned (OpenSpec.ofChange fnExactNamesPossibleSpec)

/-- ITS FALSE NEIGHBOUR: 'it returns false'. Refute it at one input. -/
def fnExactNamesPossibleWrong : ChangeSpec := { name := "fnExactNamesPossible", fn := fun _ => fun
  | [d1, d2, d3] => { results := [.lit (.bool false)], args := [d1, d2, d3] }
  | _ => none }
def FnExactNamesPossibleWrongFalsely : Prop := fnExactNamesPossibleRow.holds Tryz.pinned (OpenSpec.ofChange fnExactNamesPossibleWrong)

/-- 'laws.FnExactIsCertain': WHATEVER THE INPUT: true; the input reads as it did. -/
def fnExactIsCertainSpec : ChangeSpec := { name := "fnExactIsCertain", fn := fun _ => fun
  | [d1, d2] => { results := [.lit (.bool true)], args := [d1, d2] }
  | _ => none }
def fnExactIsCertainRow : OpenClaim := { program := "ythlpclnfnfbeiaagreatdoor", sum := "ae850ca27d9cca9d0bbc845299cb3146b3627a9cd2745347f781bf8bfa20c538", func := "loop.example/g01030/laws.FnExactIsCertain", spec := "fnExactIsCertain", inPlace := ["internal/bytealg.IndexByteString", "internal/bytealg.IndexString", "internal/bytealg.CountString"], unfollowed := true, recurses := true, named := ["unicode/utf8.first", "unicode/utf8.acceptRanges", "internal/bytealg.MaxLen"], apart := false, laid := [("unicode/utf8.acceptRanges", laid_unicode_utf8_acceptRanges), ("unicode/utf8.first", laid_unicode_utf8_first)] }
def FnExactIsCertainSaid : Prop := fnExactIsCertainRow.holds Tryz.pinned (OpenSpec.ofChange fnExactIsCertainSpec)

/-- ITS FALSE NEIGHBOUR: 'it returns false'. Refute it at one input. -/
def fnExactIsCertainWrong : ChangeSpec := { name := "fnExactIsCertain", fn := fun _ => fun
  | [d1, d2] => { results := [.lit (.bool false)], args := [d1, d2] }
  | _ => none }
def FnExactIsCertainWrongFalsely : Prop := fnExactIsCertainRow.holds Tryz.pinned (OpenSpec.ofChange fnExactIsCertainWrong)

/- THE SECOND FORM. 'bulk': how many values and letters a reading holds, each counted each time it is reached (what is shared counts as often as it is met; a slice's spare places count too). A statement '..UptoSaid' is the law's where the arguments, and the package variables that the reading takes, are together of bulk at most 1048576: NARROWER than '..Said'. Prove '..Said' where nothing that the law and all that it calls make is longer than what came in: it says more and counts as full. Else prove '..UptoSaid'. A law counts once. -/
mutual
def uptoBulk {H : Type} : DataW H → Nat
  | .lit (.string bytes) => bytes.length + 1
  | .lit _ => 1
  | .nil => 1
  | .ptr d => uptoBulk d + 1
  | .slice elems spare => uptoBulkAll elems + uptoBulkAll spare + 1
  | .agg parts => uptoBulkAll parts + 1
  | .iface _ d => uptoBulk d + 1
  | .map entries => uptoBulkEntries entries + 1
  | .held _ => 1
def uptoBulkAll {H : Type} : List (DataW H) → Nat
  | [] => 0
  | d :: r => uptoBulk d + uptoBulkAll r
def uptoBulkEntries {H : Type} : List (Lit × DataW H) → Nat
  | [] => 0
  | x :: r => uptoBulkEntry x + uptoBulkEntries r
def uptoBulkEntry {H : Type} : Lit × DataW H → Nat
  | (.string bytes, d) => bytes.length + uptoBulk d + 1
  | (_, d) => uptoBulk d + 1
 end
def uptoSmall : (H : Type) → List (DataW H) → Bool := fun _ ds => decide (uptoBulkAll ds ≤ 1048576)
def OpenSpec.upto (s : _root_.Go.ChangeSpec) : _root_.Go.OpenSpec := { _root_.Go.OpenSpec.ofChange s with cond := some uptoSmall }

/-- 'laws.FnExactIsPossible', WHERE WHAT IT READS IS OF BULK AT MOST 1048576: true; the input reads as it did. -/
def fnExactIsPossibleUptoRow : OpenClaim := { program := "ythlpclnfnfbeiaagreatdoor", sum := "ae850ca27d9cca9d0bbc845299cb3146b3627a9cd2745347f781bf8bfa20c538", func := "loop.example/g01030/laws.FnExactIsPossible", spec := "fnExactIsPossible", inPlace := ["internal/bytealg.IndexByteString", "internal/bytealg.IndexString", "internal/bytealg.CountString"], unfollowed := true, recurses := true, named := ["unicode/utf8.first", "unicode/utf8.acceptRanges", "internal/bytealg.MaxLen"], apart := false, laid := [("unicode/utf8.acceptRanges", laid_unicode_utf8_acceptRanges), ("unicode/utf8.first", laid_unicode_utf8_first)], narrowed := true }
def FnExactIsPossibleUptoSaid : Prop := fnExactIsPossibleUptoRow.holds Tryz.pinned (OpenSpec.upto fnExactIsPossibleSpec)

/-- 'laws.FnFacts', WHERE WHAT IT READS IS OF BULK AT MOST 1048576: true; the input reads as it did. -/
def fnFactsUptoRow : OpenClaim := { program := "ythlpclnfnfbeiaagreatdoor", sum := "ae850ca27d9cca9d0bbc845299cb3146b3627a9cd2745347f781bf8bfa20c538", func := "loop.example/g01030/laws.FnFacts", spec := "fnFacts", inPlace := ["internal/bytealg.IndexByteString", "internal/bytealg.IndexString", "internal/bytealg.CountString"], unfollowed := true, recurses := true, named := ["unicode/utf8.first", "unicode/utf8.acceptRanges", "internal/bytealg.MaxLen"], apart := false, laid := [("unicode/utf8.acceptRanges", laid_unicode_utf8_acceptRanges), ("unicode/utf8.first", laid_unicode_utf8_first)], narrowed := true }
def FnFactsUptoSaid : Prop := fnFactsUptoRow.holds Tryz.pinned (OpenSpec.upto fnFactsSpec)

/-- 'laws.FnExactNamesPossible', WHERE WHAT IT READS IS OF BULK AT MOST 1048576: true; the input reads as it did. -/
def fnExactNamesPossibleUptoRow : OpenClaim := { program := "ythlpclnfnfbeiaagreatdoor", sum := "ae850ca27d9cca9d0bbc845299cb3146b3627a9cd2745347f781bf8bfa20c538", func := "loop.example/g01030/laws.FnExactNamesPossible", spec := "fnExactNamesPossible", inPlace := ["internal/bytealg.IndexByteString", "internal/bytealg.IndexString", "internal/bytealg.CountString"], unfollowed := true, recurses := true, named := ["unicode/utf8.first", "unicode/utf8.acceptRanges", "internal/bytealg.MaxLen"], apart := false, laid := [("unicode/utf8.acceptRanges", laid_unicode_utf8_acceptRanges), ("unicode/utf8.first", laid_unicode_utf8_first)], narrowed := true }
def FnExactNamesPossibleUptoSaid : Prop := fnExactNamesPossibleUptoRow.holds Tryz.pinned (OpenSpec.upto fnExactNamesPossibleSpec)

/-- 'laws.FnExactIsCertain', WHERE WHAT IT READS IS OF BULK AT MOST 1048576: true; the input reads as it did. -/
def fnExactIsCertainUptoRow : OpenClaim := { program := "ythlpclnfnfbeiaagreatdoor", sum := "ae850ca27d9cca9d0bbc845299cb3146b3627a9cd2745347f781bf8bfa20c538", func := "loop.example/g01030/laws.FnExactIsCertain", spec := "fnExactIsCertain", inPlace := ["internal/bytealg.IndexByteString", "internal/bytealg.IndexString", "internal/bytealg.CountString"], unfollowed := true, recurses := true, named := ["unicode/utf8.first", "unicode/utf8.acceptRanges", "internal/bytealg.MaxLen"], apart := false, laid := [("unicode/utf8.acceptRanges", laid_unicode_utf8_acceptRanges), ("unicode/utf8.first", laid_unicode_utf8_first)], narrowed := true }
def FnExactIsCertainUptoSaid : Prop := fnExactIsCertainUptoRow.holds Tryz.pinned (OpenSpec.upto fnExactIsCertainSpec)

end Rows
end Go.Proofs.YthlpclnfnfbeiaaGreatDoor
