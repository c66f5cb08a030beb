/-
  NARROWER THAN 'FOR EVERY INPUT', by the rows' own cells (each row's printed sentence says how): FnExactBestPoint: laid · FnExactAreCompatible: laid · FnExactNarrowestOf: laid · FnExactRegionOf: laid · FnRegions: laid.
  DERIVED. THE GIVEN ROWS OF THIS SEAT. 5 by the template 'for every input the law returns true; each argument reads behind the call as it read before'; 0 by the template 'total and deterministic' (their statements: YtaaioengebaebaaGreatDoorTotals.lean).
  GIVEN WITH THE SEED: the statements are not yours to turn. If you find one false, say at which input.
  Laid BY PROGRAM, IN A SANDBOX (cutbox-rows.mjs): the forced cells as the released guide's own fill.sh prints them over the translation 7762fd63f151772d… (all of the seat's roots in one cut). By AI agents, Wed Nov 11 2026. No macro, syntax, notation, axiom, sorry.
-/
import Derived.Test.YtaaioengebaebaaGreatDoorChecked
import GoSem.PinnedTables
import GoSem.Claim
import GoSem.ClaimJoined
import GoSem.ClaimMapViews
import Derived.JoinedTies
import Derived.KernelRfl
namespace Go.Proofs.YtaaioengebaebaaGreatDoor
/- THE CELL 'sum', in the pinned program and in every row, IS THE sha256 OF THE DUMP (.gsa) THAT YtaaioengebaebaaGreatDoorProg.lean LOADS. Nothing in Lean hashes anything: it is a label: what it is worth is what the hold of that sum in a sandbox is worth. -/
noncomputable def Tryz.pinned : Pinned := { name := "ytaaioengebaebaagreatdoor", sum := "7762fd63f151772d73a73052bbaed254ea880783b2508640edbf15cc3ea5b9da", checked := Tryz.checked }
namespace Rows
def none {H : Type} : Left H := { results := [], args := [] }

/- WHAT THE LISTED PACKAGE-LEVEL VARIABLES READ AS WHEN THE CALL BEGINS. Each datum BY PROGRAM (the guide's laid-datum.mjs) off the statement by which the dump's own 'gosem.cut.vars' lays the variable. In a bare row this is a premise. The card (YtaaioengebaebaaGreatDoorCards.lean) ties it to the program's text. -/
def laid_unicode_utf8_acceptRanges {H : Type} : DataW H := .agg [.agg [.lit (.int .u8 128), .lit (.int .u8 191)], .agg [.lit (.int .u8 160), .lit (.int .u8 191)], .agg [.lit (.int .u8 128), .lit (.int .u8 159)], .agg [.lit (.int .u8 144), .lit (.int .u8 191)], .agg [.lit (.int .u8 128), .lit (.int .u8 143)], .agg [.lit (.int .u8 0), .lit (.int .u8 0)], .agg [.lit (.int .u8 0), .lit (.int .u8 0)], .agg [.lit (.int .u8 0), .lit (.int .u8 0)], .agg [.lit (.int .u8 0), .lit (.int .u8 0)], .agg [.lit (.int .u8 0), .lit (.int .u8 0)], .agg [.lit (.int .u8 0), .lit (.int .u8 0)], .agg [.lit (.int .u8 0), .lit (.int .u8 0)], .agg [.lit (.int .u8 0), .lit (.int .u8 0)], .agg [.lit (.int .u8 0), .lit (.int .u8 0)], .agg [.lit (.int .u8 0), .lit (.int .u8 0)], .agg [.lit (.int .u8 0), .lit (.int .u8 0)]]
def laid_loop_example_g01030_impl_directionWords {H : Type} : DataW H := .agg [.lit (.string [110, 111, 114, 116, 104]), .lit (.string [110, 111, 114, 116, 104, 101, 97, 115, 116]), .lit (.string [101, 97, 115, 116]), .lit (.string [115, 111, 117, 116, 104, 101, 97, 115, 116]), .lit (.string [115, 111, 117, 116, 104]), .lit (.string [115, 111, 117, 116, 104, 119, 101, 115, 116]), .lit (.string [119, 101, 115, 116]), .lit (.string [110, 111, 114, 116, 104, 119, 101, 115, 116])]
/-- One of Go's own tables, pinned by name: the form's constant. -/
def laid_unicode_utf8_first : DataW Unit := Go.Pinned.utf8First

/-- 'laws.FnExactBestPoint': WHATEVER THE INPUT: true; the input reads as it did. -/
def fnExactBestPointSpec : ChangeSpec := { name := "fnExactBestPoint", vars := ["loop.example/g01030/impl.directionWords"], fn := fun _ => fun
  | [d1, d2, d3, g1] => { results := [.lit (.bool true)], args := [d1, d2, d3], vars := [g1] }
  | _ => none }
def fnExactBestPointRow : OpenClaim := { program := "ytaaioengebaebaagreatdoor", sum := "7762fd63f151772d73a73052bbaed254ea880783b2508640edbf15cc3ea5b9da", func := "loop.example/g01030/laws.FnExactBestPoint", spec := "fnExactBestPoint", inPlace := ["internal/bytealg.IndexByteString", "internal/bytealg.IndexString", "internal/bytealg.abigen_runtime_cmpstring"], unfollowed := true, recurses := true, named := ["unicode/utf8.first", "unicode/utf8.acceptRanges", "loop.example/g01030/impl.directionWords", "internal/bytealg.MaxLen"], apart := false, laid := [("unicode/utf8.acceptRanges", laid_unicode_utf8_acceptRanges), ("loop.example/g01030/impl.directionWords", laid_loop_example_g01030_impl_directionWords), ("unicode/utf8.first", laid_unicode_utf8_first)] }
def FnExactBestPointSaid : Prop := fnExactBestPointRow.holds Tryz.pinned (OpenSpec.ofChange fnExactBestPointSpec)

/-- ITS FALSE NEIGHBOUR: 'it returns false'. Refute it at one input. -/
def fnExactBestPointWrong : ChangeSpec := { name := "fnExactBestPoint", vars := ["loop.example/g01030/impl.directionWords"], fn := fun _ => fun
  | [d1, d2, d3, g1] => { results := [.lit (.bool false)], args := [d1, d2, d3], vars := [g1] }
  | _ => none }
def FnExactBestPointWrongFalsely : Prop := fnExactBestPointRow.holds Tryz.pinned (OpenSpec.ofChange fnExactBestPointWrong)

/-- 'laws.FnExactAreCompatible': WHATEVER THE INPUT: true; the input reads as it did. -/
def fnExactAreCompatibleSpec : ChangeSpec := { name := "fnExactAreCompatible", vars := ["loop.example/g01030/impl.directionWords"], fn := fun _ => fun
  | [d1, d2, d3, g1] => { results := [.lit (.bool true)], args := [d1, d2, d3], vars := [g1] }
  | _ => none }
def fnExactAreCompatibleRow : OpenClaim := { program := "ytaaioengebaebaagreatdoor", sum := "7762fd63f151772d73a73052bbaed254ea880783b2508640edbf15cc3ea5b9da", func := "loop.example/g01030/laws.FnExactAreCompatible", spec := "fnExactAreCompatible", inPlace := ["internal/bytealg.IndexByteString", "internal/bytealg.IndexString", "internal/bytealg.abigen_runtime_cmpstring"], unfollowed := true, recurses := true, named := ["unicode/utf8.first", "unicode/utf8.acceptRanges", "loop.example/g01030/impl.directionWords", "internal/bytealg.MaxLen"], apart := false, laid := [("unicode/utf8.acceptRanges", laid_unicode_utf8_acceptRanges), ("loop.example/g01030/impl.directionWords", laid_loop_example_g01030_impl_directionWords), ("unicode/utf8.first", laid_unicode_utf8_first)] }
def FnExactAreCompatibleSaid : Prop := fnExactAreCompatibleRow.holds Tryz.pinned (OpenSpec.ofChange fnExactAreCompatibleSpec)

/-- ITS FALSE NEIGHBOUR: 'it returns false'. Refute it at one input. -/
def fnExactAreCompatibleWrong : ChangeSpec := { name := "fnExactAreCompatible", vars := ["loop.example/g01030/impl.directionWords"], fn := fun _ => fun
  | [d1, d2, d3, g1] => { results := [.lit (.bool false)], args := [d1, d2, d3], vars := [g1] }
  | _ => none }
def FnExactAreCompatibleWrongFalsely : Prop := fnExactAreCompatibleRow.holds Tryz.pinned (OpenSpec.ofChange fnExactAreCompatibleWrong)

/-- 'laws.FnExactNarrowestOf': WHATEVER THE INPUT: true; the input reads as it did. -/
def fnExactNarrowestOfSpec : ChangeSpec := { name := "fnExactNarrowestOf", vars := ["loop.example/g01030/impl.directionWords"], fn := fun _ => fun
  | [d1, d2, d3, g1] => { results := [.lit (.bool true)], args := [d1, d2, d3], vars := [g1] }
  | _ => none }
def fnExactNarrowestOfRow : OpenClaim := { program := "ytaaioengebaebaagreatdoor", sum := "7762fd63f151772d73a73052bbaed254ea880783b2508640edbf15cc3ea5b9da", func := "loop.example/g01030/laws.FnExactNarrowestOf", spec := "fnExactNarrowestOf", inPlace := ["internal/bytealg.IndexByteString", "internal/bytealg.IndexString", "internal/bytealg.abigen_runtime_cmpstring"], unfollowed := true, recurses := true, named := ["unicode/utf8.first", "unicode/utf8.acceptRanges", "loop.example/g01030/impl.directionWords", "internal/bytealg.MaxLen"], apart := false, laid := [("unicode/utf8.acceptRanges", laid_unicode_utf8_acceptRanges), ("loop.example/g01030/impl.directionWords", laid_loop_example_g01030_impl_directionWords), ("unicode/utf8.first", laid_unicode_utf8_first)] }
def FnExactNarrowestOfSaid : Prop := fnExactNarrowestOfRow.holds Tryz.pinned (OpenSpec.ofChange fnExactNarrowestOfSpec)

/-- ITS FALSE NEIGHBOUR: 'it returns false'. Refute it at one input. -/
def fnExactNarrowestOfWrong : ChangeSpec := { name := "fnExactNarrowestOf", vars := ["loop.example/g01030/impl.directionWords"], fn := fun _ => fun
  | [d1, d2, d3, g1] => { results := [.lit (.bool false)], args := [d1, d2, d3], vars := [g1] }
  | _ => none }
def FnExactNarrowestOfWrongFalsely : Prop := fnExactNarrowestOfRow.holds Tryz.pinned (OpenSpec.ofChange fnExactNarrowestOfWrong)

/-- 'laws.FnExactRegionOf': WHATEVER THE INPUT: true; the input reads as it did. -/
def fnExactRegionOfSpec : ChangeSpec := { name := "fnExactRegionOf", vars := ["loop.example/g01030/impl.directionWords"], fn := fun _ => fun
  | [d1, d2, d3, g1] => { results := [.lit (.bool true)], args := [d1, d2, d3], vars := [g1] }
  | _ => none }
def fnExactRegionOfRow : OpenClaim := { program := "ytaaioengebaebaagreatdoor", sum := "7762fd63f151772d73a73052bbaed254ea880783b2508640edbf15cc3ea5b9da", func := "loop.example/g01030/laws.FnExactRegionOf", spec := "fnExactRegionOf", inPlace := ["internal/bytealg.IndexByteString", "internal/bytealg.IndexString", "internal/bytealg.abigen_runtime_cmpstring"], unfollowed := true, recurses := true, named := ["unicode/utf8.first", "unicode/utf8.acceptRanges", "loop.example/g01030/impl.directionWords", "internal/bytealg.MaxLen"], apart := false, laid := [("unicode/utf8.acceptRanges", laid_unicode_utf8_acceptRanges), ("loop.example/g01030/impl.directionWords", laid_loop_example_g01030_impl_directionWords), ("unicode/utf8.first", laid_unicode_utf8_first)] }
def FnExactRegionOfSaid : Prop := fnExactRegionOfRow.holds Tryz.pinned (OpenSpec.ofChange fnExactRegionOfSpec)

/-- ITS FALSE NEIGHBOUR: 'it returns false'. Refute it at one input. -/
def fnExactRegionOfWrong : ChangeSpec := { name := "fnExactRegionOf", vars := ["loop.example/g01030/impl.directionWords"], fn := fun _ => fun
  | [d1, d2, d3, g1] => { results := [.lit (.bool false)], args := [d1, d2, d3], vars := [g1] }
  | _ => none }
def FnExactRegionOfWrongFalsely : Prop := fnExactRegionOfRow.holds Tryz.pinned (OpenSpec.ofChange fnExactRegionOfWrong)

/-- 'laws.FnRegions': WHATEVER THE INPUT: true; the input reads as it did. -/
def fnRegionsSpec : ChangeSpec := { name := "fnRegions", vars := ["loop.example/g01030/impl.directionWords"], fn := fun _ => fun
  | [d, g1] => { results := [.lit (.bool true)], args := [d], vars := [g1] }
  | _ => none }
def fnRegionsRow : OpenClaim := { program := "ytaaioengebaebaagreatdoor", sum := "7762fd63f151772d73a73052bbaed254ea880783b2508640edbf15cc3ea5b9da", func := "loop.example/g01030/laws.FnRegions", spec := "fnRegions", inPlace := ["internal/bytealg.IndexByteString", "internal/bytealg.IndexString", "internal/bytealg.abigen_runtime_cmpstring"], unfollowed := true, recurses := true, named := ["unicode/utf8.first", "unicode/utf8.acceptRanges", "loop.example/g01030/impl.directionWords", "internal/bytealg.MaxLen"], apart := false, laid := [("unicode/utf8.acceptRanges", laid_unicode_utf8_acceptRanges), ("loop.example/g01030/impl.directionWords", laid_loop_example_g01030_impl_directionWords), ("unicode/utf8.first", laid_unicode_utf8_first)] }
def FnRegionsSaid : Prop := fnRegionsRow.holds Tryz.pinned (OpenSpec.ofChange fnRegionsSpec)

/-- ITS FALSE NEIGHBOUR: 'it returns false'. Refute it at one input. -/
def fnRegionsWrong : ChangeSpec := { name := "fnRegions", vars := ["loop.example/g01030/impl.directionWords"], fn := fun _ => fun
  | [d, g1] => { results := [.lit (.bool false)], args := [d], vars := [g1] }
  | _ => none }
def FnRegionsWrongFalsely : Prop := fnRegionsRow.holds Tryz.pinned (OpenSpec.ofChange fnRegionsWrong)

/- THE SECOND FORM. 'bulk': how many values and letters a reading holds, each counted each time it is reached (what is shared counts as often as it is met; a slice's spare places count too). A statement '..UptoSaid' is the law's where the arguments, and the package variables that the reading takes, are together of bulk at most 1048576: NARROWER than '..Said'. Prove '..Said' where nothing that the law and all that it calls make is longer than what came in: it says more and counts as full. Else prove '..UptoSaid'. A law counts once. -/
mutual
def uptoBulk {H : Type} : DataW H → Nat
  | .lit (.string bytes) => bytes.length + 1
  | .lit _ => 1
  | .nil => 1
  | .ptr d => uptoBulk d + 1
  | .slice elems spare => uptoBulkAll elems + uptoBulkAll spare + 1
  | .agg parts => uptoBulkAll parts + 1
  | .iface _ d => uptoBulk d + 1
  | .map entries => uptoBulkEntries entries + 1
  | .held _ => 1
def uptoBulkAll {H : Type} : List (DataW H) → Nat
  | [] => 0
  | d :: r => uptoBulk d + uptoBulkAll r
def uptoBulkEntries {H : Type} : List (Lit × DataW H) → Nat
  | [] => 0
  | x :: r => uptoBulkEntry x + uptoBulkEntries r
def uptoBulkEntry {H : Type} : Lit × DataW H → Nat
  | (.string bytes, d) => bytes.length + uptoBulk d + 1
  | (_, d) => uptoBulk d + 1
 end
def uptoSmall : (H : Type) → List (DataW H) → Bool := fun _ ds => decide (uptoBulkAll ds ≤ 1048576)
def OpenSpec.upto (s : _root_.Go.ChangeSpec) : _root_.Go.OpenSpec := { _root_.Go.OpenSpec.ofChange s with cond := some uptoSmall }

/-- 'laws.FnExactBestPoint', WHERE WHAT IT READS IS OF BULK AT MOST 1048576: true; the input reads as it did. -/
def fnExactBestPointUptoRow : OpenClaim := { program := "ytaaioengebaebaagreatdoor", sum := "7762fd63f151772d73a73052bbaed254ea880783b2508640edbf15cc3ea5b9da", func := "loop.example/g01030/laws.FnExactBestPoint", spec := "fnExactBestPoint", inPlace := ["internal/bytealg.IndexByteString", "internal/bytealg.IndexString", "internal/bytealg.abigen_runtime_cmpstring"], unfollowed := true, recurses := true, named := ["unicode/utf8.first", "unicode/utf8.acceptRanges", "loop.example/g01030/impl.directionWords", "internal/bytealg.MaxLen"], apart := false, laid := [("unicode/utf8.acceptRanges", laid_unicode_utf8_acceptRanges), ("loop.example/g01030/impl.directionWords", laid_loop_example_g01030_impl_directionWords), ("unicode/utf8.first", laid_unicode_utf8_first)], narrowed := true }
def FnExactBestPointUptoSaid : Prop := fnExactBestPointUptoRow.holds Tryz.pinned (OpenSpec.upto fnExactBestPointSpec)

/-- 'laws.FnExactAreCompatible', WHERE WHAT IT READS IS OF BULK AT MOST 1048576: true; the input reads as it did. -/
def fnExactAreCompatibleUptoRow : OpenClaim := { program := "ytaaioengebaebaagreatdoor", sum := "7762fd63f151772d73a73052bbaed254ea880783b2508640edbf15cc3ea5b9da", func := "loop.example/g01030/laws.FnExactAreCompatible", spec := "fnExactAreCompatible", inPlace := ["internal/bytealg.IndexByteString", "internal/bytealg.IndexString", "internal/bytealg.abigen_runtime_cmpstring"], unfollowed := true, recurses := true, named := ["unicode/utf8.first", "unicode/utf8.acceptRanges", "loop.example/g01030/impl.directionWords", "internal/bytealg.MaxLen"], apart := false, laid := [("unicode/utf8.acceptRanges", laid_unicode_utf8_acceptRanges), ("loop.example/g01030/impl.directionWords", laid_loop_example_g01030_impl_directionWords), ("unicode/utf8.first", laid_unicode_utf8_first)], narrowed := true }
def FnExactAreCompatibleUptoSaid : Prop := fnExactAreCompatibleUptoRow.holds Tryz.pinned (OpenSpec.upto fnExactAreCompatibleSpec)

/-- 'laws.FnExactNarrowestOf', WHERE WHAT IT READS IS OF BULK AT MOST 1048576: true; the input reads as it did. -/
def fnExactNarrowestOfUptoRow : OpenClaim := { program := "ytaaioengebaebaagreatdoor", sum := "7762fd63f151772d73a73052bbaed254ea880783b2508640edbf15cc3ea5b9da", func := "loop.example/g01030/laws.FnExactNarrowestOf", spec := "fnExactNarrowestOf", inPlace := ["internal/bytealg.IndexByteString", "internal/bytealg.IndexString", "internal/bytealg.abigen_runtime_cmpstring"], unfollowed := true, recurses := true, named := ["unicode/utf8.first", "unicode/utf8.acceptRanges", "loop.example/g01030/impl.directionWords", "internal/bytealg.MaxLen"], apart := false, laid := [("unicode/utf8.acceptRanges", laid_unicode_utf8_acceptRanges), ("loop.example/g01030/impl.directionWords", laid_loop_example_g01030_impl_directionWords), ("unicode/utf8.first", laid_unicode_utf8_first)], narrowed := true }
def FnExactNarrowestOfUptoSaid : Prop := fnExactNarrowestOfUptoRow.holds Tryz.pinned (OpenSpec.upto fnExactNarrowestOfSpec)

/-- 'laws.FnExactRegionOf', WHERE WHAT IT READS IS OF BULK AT MOST 1048576: true; the input reads as it did. -/
def fnExactRegionOfUptoRow : OpenClaim := { program := "ytaaioengebaebaagreatdoor", sum := "7762fd63f151772d73a73052bbaed254ea880783b2508640edbf15cc3ea5b9da", func := "loop.example/g01030/laws.FnExactRegionOf", spec := "fnExactRegionOf", inPlace := ["internal/bytealg.IndexByteString", "internal/bytealg.IndexString", "internal/bytealg.abigen_runtime_cmpstring"], unfollowed := true, recurses := true, named := ["unicode/utf8.first", "unicode/utf8.acceptRanges", "loop.example/g01030/impl.directionWords", "internal/bytealg.MaxLen"], apart := false, laid := [("unicode/utf8.acceptRanges", laid_unicode_utf8_acceptRanges), ("loop.example/g01030/impl.directionWords", laid_loop_example_g01030_impl_directionWords), ("unicode/utf8.first", laid_unicode_utf8_first)], narrowed := true }
def FnExactRegionOfUptoSaid : Prop := fnExactRegionOfUptoRow.holds Tryz.pinned (OpenSpec.upto fnExactRegionOfSpec)

/-- 'laws.FnRegions', WHERE WHAT IT READS IS OF BULK AT MOST 1048576: true; the input reads as it did. -/
def fnRegionsUptoRow : OpenClaim := { program := "ytaaioengebaebaagreatdoor", sum := "7762fd63f151772d73a73052bbaed254ea880783b2508640edbf15cc3ea5b9da", func := "loop.example/g01030/laws.FnRegions", spec := "fnRegions", inPlace := ["internal/bytealg.IndexByteString", "internal/bytealg.IndexString", "internal/bytealg.abigen_runtime_cmpstring"], unfollowed := true, recurses := true, named := ["unicode/utf8.first", "unicode/utf8.acceptRanges", "loop.example/g01030/impl.directionWords", "internal/bytealg.MaxLen"], apart := false, laid := [("unicode/utf8.acceptRanges", laid_unicode_utf8_acceptRanges), ("loop.example/g01030/impl.directionWords", laid_loop_example_g01030_impl_directionWords), ("unicode/utf8.first", laid_unicode_utf8_first)], narrowed := true }
def FnRegionsUptoSaid : Prop := fnRegionsUptoRow.holds Tryz.pinned (OpenSpec.upto fnRegionsSpec)

end Rows
end Go.Proofs.YtaaioengebaebaaGreatDoor
