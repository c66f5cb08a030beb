/-
  NARROWER THAN 'FOR EVERY INPUT', by the rows' own cells (each row's printed sentence says how): FnExactIsDescription: laid · FnExactAreSites: laid · FnExactLengthOf: laid · FnExactOpposite: laid · FnExactInLeagues: laid · FnExactPlacesUsed: laid · FnExactReplacePlaceIn: laid · FnDescriptions: laid · FnExactDescriptionText: laid · FnExactDoesSatisfy: laid · FnSatisfied: laid · FnExactCountSatisfied: laid.
  DERIVED. THE GIVEN ROWS OF THIS SEAT. 12 by the template 'for every input the law returns true; each argument reads behind the call as it read before'; 0 by the template 'total and deterministic' (their statements: YtphkfnhmpngjpaaDoorTotals.lean).
  GIVEN WITH THE SEED: the statements are not yours to turn. If you find one false, say at which input.
  Laid BY PROGRAM, IN A SANDBOX (cutbox-rows.mjs): the forced cells as the released guide's own fill.sh prints them over the translation ea7a141b105d6c05… (all of the seat's roots in one cut). By AI agents, Wed Nov 11 2026. No macro, syntax, notation, axiom, sorry.
-/
import Derived.Test.YtphkfnhmpngjpaaDoorChecked
import GoSem.PinnedTables
import GoSem.Claim
import GoSem.ClaimJoined
import GoSem.ClaimMapViews
import Derived.JoinedTies
import Derived.KernelRfl
namespace Go.Proofs.YtphkfnhmpngjpaaDoor
/- THE CELL 'sum', in the pinned program and in every row, IS THE sha256 OF THE DUMP (.gsa) THAT YtphkfnhmpngjpaaDoorProg.lean LOADS. Nothing in Lean hashes anything: it is a label: what it is worth is what the hold of that sum in a sandbox is worth. -/
noncomputable def Tryd.pinned : Pinned := { name := "ytphkfnhmpngjpaadoor", sum := "ea7a141b105d6c05a6ddf8151fa8f39794ebe3175d02cdd26c6e771a8afe60d4", checked := Tryd.checked }
namespace Rows
def none {H : Type} : Left H := { results := [], args := [] }

/- WHAT THE LISTED PACKAGE-LEVEL VARIABLES READ AS WHEN THE CALL BEGINS. Each datum BY PROGRAM (the guide's laid-datum.mjs) off the statement by which the dump's own 'gosem.cut.vars' lays the variable. In a bare row this is a premise. The card (YtphkfnhmpngjpaaDoorCards.lean) ties it to the program's text. -/
def laid_unicode_utf8_acceptRanges {H : Type} : DataW H := .agg [.agg [.lit (.int .u8 128), .lit (.int .u8 191)], .agg [.lit (.int .u8 160), .lit (.int .u8 191)], .agg [.lit (.int .u8 128), .lit (.int .u8 159)], .agg [.lit (.int .u8 144), .lit (.int .u8 191)], .agg [.lit (.int .u8 128), .lit (.int .u8 143)], .agg [.lit (.int .u8 0), .lit (.int .u8 0)], .agg [.lit (.int .u8 0), .lit (.int .u8 0)], .agg [.lit (.int .u8 0), .lit (.int .u8 0)], .agg [.lit (.int .u8 0), .lit (.int .u8 0)], .agg [.lit (.int .u8 0), .lit (.int .u8 0)], .agg [.lit (.int .u8 0), .lit (.int .u8 0)], .agg [.lit (.int .u8 0), .lit (.int .u8 0)], .agg [.lit (.int .u8 0), .lit (.int .u8 0)], .agg [.lit (.int .u8 0), .lit (.int .u8 0)], .agg [.lit (.int .u8 0), .lit (.int .u8 0)], .agg [.lit (.int .u8 0), .lit (.int .u8 0)]]
def laid_loop_example_g01030_impl_directionWords {H : Type} : DataW H := .agg [.lit (.string [110, 111, 114, 116, 104]), .lit (.string [110, 111, 114, 116, 104, 101, 97, 115, 116]), .lit (.string [101, 97, 115, 116]), .lit (.string [115, 111, 117, 116, 104, 101, 97, 115, 116]), .lit (.string [115, 111, 117, 116, 104]), .lit (.string [115, 111, 117, 116, 104, 119, 101, 115, 116]), .lit (.string [119, 101, 115, 116]), .lit (.string [110, 111, 114, 116, 104, 119, 101, 115, 116])]
/-- One of Go's own tables, pinned by name: the form's constant. -/
def laid_unicode_utf8_first : DataW Unit := Go.Pinned.utf8First
def laid_math_bits_deBruijn32tab {H : Type} : DataW H := .agg [.lit (.int .u8 0), .lit (.int .u8 1), .lit (.int .u8 28), .lit (.int .u8 2), .lit (.int .u8 29), .lit (.int .u8 14), .lit (.int .u8 24), .lit (.int .u8 3), .lit (.int .u8 30), .lit (.int .u8 22), .lit (.int .u8 20), .lit (.int .u8 15), .lit (.int .u8 25), .lit (.int .u8 17), .lit (.int .u8 4), .lit (.int .u8 8), .lit (.int .u8 31), .lit (.int .u8 27), .lit (.int .u8 13), .lit (.int .u8 23), .lit (.int .u8 21), .lit (.int .u8 19), .lit (.int .u8 16), .lit (.int .u8 7), .lit (.int .u8 26), .lit (.int .u8 12), .lit (.int .u8 18), .lit (.int .u8 6), .lit (.int .u8 11), .lit (.int .u8 5), .lit (.int .u8 10), .lit (.int .u8 9)]
def laid_math_bits_deBruijn64tab {H : Type} : DataW H := .agg [.lit (.int .u8 0), .lit (.int .u8 1), .lit (.int .u8 56), .lit (.int .u8 2), .lit (.int .u8 57), .lit (.int .u8 49), .lit (.int .u8 28), .lit (.int .u8 3), .lit (.int .u8 61), .lit (.int .u8 58), .lit (.int .u8 42), .lit (.int .u8 50), .lit (.int .u8 38), .lit (.int .u8 29), .lit (.int .u8 17), .lit (.int .u8 4), .lit (.int .u8 62), .lit (.int .u8 47), .lit (.int .u8 59), .lit (.int .u8 36), .lit (.int .u8 45), .lit (.int .u8 43), .lit (.int .u8 51), .lit (.int .u8 22), .lit (.int .u8 53), .lit (.int .u8 39), .lit (.int .u8 33), .lit (.int .u8 30), .lit (.int .u8 24), .lit (.int .u8 18), .lit (.int .u8 12), .lit (.int .u8 5), .lit (.int .u8 63), .lit (.int .u8 55), .lit (.int .u8 48), .lit (.int .u8 27), .lit (.int .u8 60), .lit (.int .u8 41), .lit (.int .u8 37), .lit (.int .u8 16), .lit (.int .u8 46), .lit (.int .u8 35), .lit (.int .u8 44), .lit (.int .u8 21), .lit (.int .u8 52), .lit (.int .u8 32), .lit (.int .u8 23), .lit (.int .u8 11), .lit (.int .u8 54), .lit (.int .u8 26), .lit (.int .u8 40), .lit (.int .u8 15), .lit (.int .u8 34), .lit (.int .u8 20), .lit (.int .u8 31), .lit (.int .u8 10), .lit (.int .u8 25), .lit (.int .u8 14), .lit (.int .u8 19), .lit (.int .u8 9), .lit (.int .u8 13), .lit (.int .u8 8), .lit (.int .u8 7), .lit (.int .u8 6)]
def laid_internal_strconv_uint64pow10 {H : Type} : DataW H := .agg [.lit (.int .u64 1), .lit (.int .u64 10), .lit (.int .u64 100), .lit (.int .u64 1000), .lit (.int .u64 10000), .lit (.int .u64 100000), .lit (.int .u64 1000000), .lit (.int .u64 10000000), .lit (.int .u64 100000000), .lit (.int .u64 1000000000), .lit (.int .u64 10000000000), .lit (.int .u64 100000000000), .lit (.int .u64 1000000000000), .lit (.int .u64 10000000000000), .lit (.int .u64 100000000000000), .lit (.int .u64 1000000000000000), .lit (.int .u64 10000000000000000), .lit (.int .u64 100000000000000000), .lit (.int .u64 1000000000000000000), .lit (.int .u64 10000000000000000000)]

/-- 'laws.FnExactIsDescription': WHATEVER THE INPUT: true; the input reads as it did. -/
def fnExactIsDescriptionSpec : ChangeSpec := { name := "fnExactIsDescription", vars := ["loop.example/g01030/impl.directionWords"], fn := fun _ => fun
  | [d, g1] => { results := [.lit (.bool true)], args := [d], vars := [g1] }
  | _ => none }
def fnExactIsDescriptionRow : OpenClaim := { program := "ytphkfnhmpngjpaadoor", sum := "ea7a141b105d6c05a6ddf8151fa8f39794ebe3175d02cdd26c6e771a8afe60d4", func := "loop.example/g01030/laws.FnExactIsDescription", spec := "fnExactIsDescription", inPlace := ["internal/bytealg.IndexByteString", "internal/bytealg.IndexString"], named := ["unicode/utf8.first", "unicode/utf8.acceptRanges", "loop.example/g01030/impl.directionWords", "internal/bytealg.MaxLen"], apart := false, laid := [("unicode/utf8.acceptRanges", laid_unicode_utf8_acceptRanges), ("loop.example/g01030/impl.directionWords", laid_loop_example_g01030_impl_directionWords), ("unicode/utf8.first", laid_unicode_utf8_first)] }
def FnExactIsDescriptionSaid : Prop := fnExactIsDescriptionRow.holds Tryd.pinned (OpenSpec.ofChange fnExactIsDescriptionSpec)

/-- ITS FALSE NEIGHBOUR: 'it returns false'. Refute it at one input. -/
def fnExactIsDescriptionWrong : ChangeSpec := { name := "fnExactIsDescription", vars := ["loop.example/g01030/impl.directionWords"], fn := fun _ => fun
  | [d, g1] => { results := [.lit (.bool false)], args := [d], vars := [g1] }
  | _ => none }
def FnExactIsDescriptionWrongFalsely : Prop := fnExactIsDescriptionRow.holds Tryd.pinned (OpenSpec.ofChange fnExactIsDescriptionWrong)

/-- 'laws.FnExactAreSites': WHATEVER THE INPUT: true; the input reads as it did. -/
def fnExactAreSitesSpec : ChangeSpec := { name := "fnExactAreSites", vars := ["loop.example/g01030/impl.directionWords"], fn := fun _ => fun
  | [d, g1] => { results := [.lit (.bool true)], args := [d], vars := [g1] }
  | _ => none }
def fnExactAreSitesRow : OpenClaim := { program := "ytphkfnhmpngjpaadoor", sum := "ea7a141b105d6c05a6ddf8151fa8f39794ebe3175d02cdd26c6e771a8afe60d4", func := "loop.example/g01030/laws.FnExactAreSites", spec := "fnExactAreSites", inPlace := ["internal/bytealg.IndexByteString", "internal/bytealg.IndexString"], named := ["unicode/utf8.first", "unicode/utf8.acceptRanges", "loop.example/g01030/impl.directionWords", "internal/bytealg.MaxLen"], apart := false, laid := [("unicode/utf8.acceptRanges", laid_unicode_utf8_acceptRanges), ("loop.example/g01030/impl.directionWords", laid_loop_example_g01030_impl_directionWords), ("unicode/utf8.first", laid_unicode_utf8_first)] }
def FnExactAreSitesSaid : Prop := fnExactAreSitesRow.holds Tryd.pinned (OpenSpec.ofChange fnExactAreSitesSpec)

/-- ITS FALSE NEIGHBOUR: 'it returns false'. Refute it at one input. -/
def fnExactAreSitesWrong : ChangeSpec := { name := "fnExactAreSites", vars := ["loop.example/g01030/impl.directionWords"], fn := fun _ => fun
  | [d, g1] => { results := [.lit (.bool false)], args := [d], vars := [g1] }
  | _ => none }
def FnExactAreSitesWrongFalsely : Prop := fnExactAreSitesRow.holds Tryd.pinned (OpenSpec.ofChange fnExactAreSitesWrong)

/-- 'laws.FnExactLengthOf': WHATEVER THE INPUT: true; the input reads as it did. -/
def fnExactLengthOfSpec : ChangeSpec := { name := "fnExactLengthOf", vars := ["loop.example/g01030/impl.directionWords"], fn := fun _ => fun
  | [d, g1] => { results := [.lit (.bool true)], args := [d], vars := [g1] }
  | _ => none }
def fnExactLengthOfRow : OpenClaim := { program := "ytphkfnhmpngjpaadoor", sum := "ea7a141b105d6c05a6ddf8151fa8f39794ebe3175d02cdd26c6e771a8afe60d4", func := "loop.example/g01030/laws.FnExactLengthOf", spec := "fnExactLengthOf", inPlace := ["internal/bytealg.IndexByteString", "internal/bytealg.IndexString"], named := ["unicode/utf8.first", "unicode/utf8.acceptRanges", "loop.example/g01030/impl.directionWords", "internal/bytealg.MaxLen"], apart := false, laid := [("unicode/utf8.acceptRanges", laid_unicode_utf8_acceptRanges), ("loop.example/g01030/impl.directionWords", laid_loop_example_g01030_impl_directionWords), ("unicode/utf8.first", laid_unicode_utf8_first)] }
def FnExactLengthOfSaid : Prop := fnExactLengthOfRow.holds Tryd.pinned (OpenSpec.ofChange fnExactLengthOfSpec)

/-- ITS FALSE NEIGHBOUR: 'it returns false'. Refute it at one input. -/
def fnExactLengthOfWrong : ChangeSpec := { name := "fnExactLengthOf", vars := ["loop.example/g01030/impl.directionWords"], fn := fun _ => fun
  | [d, g1] => { results := [.lit (.bool false)], args := [d], vars := [g1] }
  | _ => none }
def FnExactLengthOfWrongFalsely : Prop := fnExactLengthOfRow.holds Tryd.pinned (OpenSpec.ofChange fnExactLengthOfWrong)

/-- 'laws.FnExactOpposite': WHATEVER THE INPUT: true; the input reads as it did. -/
def fnExactOppositeSpec : ChangeSpec := { name := "fnExactOpposite", vars := ["loop.example/g01030/impl.directionWords"], fn := fun _ => fun
  | [d1, d2, g1] => { results := [.lit (.bool true)], args := [d1, d2], vars := [g1] }
  | _ => none }
def fnExactOppositeRow : OpenClaim := { program := "ytphkfnhmpngjpaadoor", sum := "ea7a141b105d6c05a6ddf8151fa8f39794ebe3175d02cdd26c6e771a8afe60d4", func := "loop.example/g01030/laws.FnExactOpposite", spec := "fnExactOpposite", inPlace := ["internal/bytealg.IndexByteString", "internal/bytealg.IndexString"], named := ["unicode/utf8.first", "unicode/utf8.acceptRanges", "loop.example/g01030/impl.directionWords", "internal/bytealg.MaxLen"], apart := false, laid := [("unicode/utf8.acceptRanges", laid_unicode_utf8_acceptRanges), ("loop.example/g01030/impl.directionWords", laid_loop_example_g01030_impl_directionWords), ("unicode/utf8.first", laid_unicode_utf8_first)] }
def FnExactOppositeSaid : Prop := fnExactOppositeRow.holds Tryd.pinned (OpenSpec.ofChange fnExactOppositeSpec)

/-- ITS FALSE NEIGHBOUR: 'it returns false'. Refute it at one input. -/
def fnExactOppositeWrong : ChangeSpec := { name := "fnExactOpposite", vars := ["loop.example/g01030/impl.directionWords"], fn := fun _ => fun
  | [d1, d2, g1] => { results := [.lit (.bool false)], args := [d1, d2], vars := [g1] }
  | _ => none }
def FnExactOppositeWrongFalsely : Prop := fnExactOppositeRow.holds Tryd.pinned (OpenSpec.ofChange fnExactOppositeWrong)

/-- 'laws.FnExactInLeagues': WHATEVER THE INPUT: true; the input reads as it did. -/
def fnExactInLeaguesSpec : ChangeSpec := { name := "fnExactInLeagues", vars := ["loop.example/g01030/impl.directionWords"], fn := fun _ => fun
  | [d, g1] => { results := [.lit (.bool true)], args := [d], vars := [g1] }
  | _ => none }
def fnExactInLeaguesRow : OpenClaim := { program := "ytphkfnhmpngjpaadoor", sum := "ea7a141b105d6c05a6ddf8151fa8f39794ebe3175d02cdd26c6e771a8afe60d4", func := "loop.example/g01030/laws.FnExactInLeagues", spec := "fnExactInLeagues", inPlace := ["internal/bytealg.IndexByteString", "internal/bytealg.IndexString"], named := ["unicode/utf8.first", "unicode/utf8.acceptRanges", "loop.example/g01030/impl.directionWords", "internal/bytealg.MaxLen"], apart := false, laid := [("unicode/utf8.acceptRanges", laid_unicode_utf8_acceptRanges), ("loop.example/g01030/impl.directionWords", laid_loop_example_g01030_impl_directionWords), ("unicode/utf8.first", laid_unicode_utf8_first)] }
def FnExactInLeaguesSaid : Prop := fnExactInLeaguesRow.holds Tryd.pinned (OpenSpec.ofChange fnExactInLeaguesSpec)

/-- ITS FALSE NEIGHBOUR: 'it returns false'. Refute it at one input. -/
def fnExactInLeaguesWrong : ChangeSpec := { name := "fnExactInLeagues", vars := ["loop.example/g01030/impl.directionWords"], fn := fun _ => fun
  | [d, g1] => { results := [.lit (.bool false)], args := [d], vars := [g1] }
  | _ => none }
def FnExactInLeaguesWrongFalsely : Prop := fnExactInLeaguesRow.holds Tryd.pinned (OpenSpec.ofChange fnExactInLeaguesWrong)

/-- 'laws.FnExactPlacesUsed': WHATEVER THE INPUT: true; the input reads as it did. -/
def fnExactPlacesUsedSpec : ChangeSpec := { name := "fnExactPlacesUsed", vars := ["loop.example/g01030/impl.directionWords"], fn := fun _ => fun
  | [d, g1] => { results := [.lit (.bool true)], args := [d], vars := [g1] }
  | _ => none }
def fnExactPlacesUsedRow : OpenClaim := { program := "ytphkfnhmpngjpaadoor", sum := "ea7a141b105d6c05a6ddf8151fa8f39794ebe3175d02cdd26c6e771a8afe60d4", func := "loop.example/g01030/laws.FnExactPlacesUsed", spec := "fnExactPlacesUsed", inPlace := ["internal/bytealg.IndexByteString", "internal/bytealg.IndexString"], named := ["unicode/utf8.first", "unicode/utf8.acceptRanges", "loop.example/g01030/impl.directionWords", "internal/bytealg.MaxLen"], apart := false, laid := [("unicode/utf8.acceptRanges", laid_unicode_utf8_acceptRanges), ("loop.example/g01030/impl.directionWords", laid_loop_example_g01030_impl_directionWords), ("unicode/utf8.first", laid_unicode_utf8_first)] }
def FnExactPlacesUsedSaid : Prop := fnExactPlacesUsedRow.holds Tryd.pinned (OpenSpec.ofChange fnExactPlacesUsedSpec)

/-- ITS FALSE NEIGHBOUR: 'it returns false'. Refute it at one input. -/
def fnExactPlacesUsedWrong : ChangeSpec := { name := "fnExactPlacesUsed", vars := ["loop.example/g01030/impl.directionWords"], fn := fun _ => fun
  | [d, g1] => { results := [.lit (.bool false)], args := [d], vars := [g1] }
  | _ => none }
def FnExactPlacesUsedWrongFalsely : Prop := fnExactPlacesUsedRow.holds Tryd.pinned (OpenSpec.ofChange fnExactPlacesUsedWrong)

/-- 'laws.FnExactReplacePlaceIn': WHATEVER THE INPUT: true; the input reads as it did. -/
def fnExactReplacePlaceInSpec : ChangeSpec := { name := "fnExactReplacePlaceIn", vars := ["loop.example/g01030/impl.directionWords"], fn := fun _ => fun
  | [d1, d2, d3, g1] => { results := [.lit (.bool true)], args := [d1, d2, d3], vars := [g1] }
  | _ => none }
def fnExactReplacePlaceInRow : OpenClaim := { program := "ytphkfnhmpngjpaadoor", sum := "ea7a141b105d6c05a6ddf8151fa8f39794ebe3175d02cdd26c6e771a8afe60d4", func := "loop.example/g01030/laws.FnExactReplacePlaceIn", spec := "fnExactReplacePlaceIn", inPlace := ["internal/bytealg.IndexByteString", "internal/bytealg.IndexString"], named := ["unicode/utf8.first", "unicode/utf8.acceptRanges", "loop.example/g01030/impl.directionWords", "internal/bytealg.MaxLen"], apart := false, laid := [("unicode/utf8.acceptRanges", laid_unicode_utf8_acceptRanges), ("loop.example/g01030/impl.directionWords", laid_loop_example_g01030_impl_directionWords), ("unicode/utf8.first", laid_unicode_utf8_first)] }
def FnExactReplacePlaceInSaid : Prop := fnExactReplacePlaceInRow.holds Tryd.pinned (OpenSpec.ofChange fnExactReplacePlaceInSpec)

/-- ITS FALSE NEIGHBOUR: 'it returns false'. Refute it at one input. -/
def fnExactReplacePlaceInWrong : ChangeSpec := { name := "fnExactReplacePlaceIn", vars := ["loop.example/g01030/impl.directionWords"], fn := fun _ => fun
  | [d1, d2, d3, g1] => { results := [.lit (.bool false)], args := [d1, d2, d3], vars := [g1] }
  | _ => none }
def FnExactReplacePlaceInWrongFalsely : Prop := fnExactReplacePlaceInRow.holds Tryd.pinned (OpenSpec.ofChange fnExactReplacePlaceInWrong)

/-- 'laws.FnDescriptions': WHATEVER THE INPUT: true; the input reads as it did. -/
def fnDescriptionsSpec : ChangeSpec := { name := "fnDescriptions", vars := ["loop.example/g01030/impl.directionWords"], fn := fun _ => fun
  | [d, g1] => { results := [.lit (.bool true)], args := [d], vars := [g1] }
  | _ => none }
def fnDescriptionsRow : OpenClaim := { program := "ytphkfnhmpngjpaadoor", sum := "ea7a141b105d6c05a6ddf8151fa8f39794ebe3175d02cdd26c6e771a8afe60d4", func := "loop.example/g01030/laws.FnDescriptions", spec := "fnDescriptions", inPlace := ["internal/bytealg.IndexByteString", "internal/bytealg.IndexString"], named := ["unicode/utf8.first", "unicode/utf8.acceptRanges", "loop.example/g01030/impl.directionWords", "internal/bytealg.MaxLen"], apart := false, laid := [("unicode/utf8.acceptRanges", laid_unicode_utf8_acceptRanges), ("loop.example/g01030/impl.directionWords", laid_loop_example_g01030_impl_directionWords), ("unicode/utf8.first", laid_unicode_utf8_first)] }
def FnDescriptionsSaid : Prop := fnDescriptionsRow.holds Tryd.pinned (OpenSpec.ofChange fnDescriptionsSpec)

/-- ITS FALSE NEIGHBOUR: 'it returns false'. Refute it at one input. -/
def fnDescriptionsWrong : ChangeSpec := { name := "fnDescriptions", vars := ["loop.example/g01030/impl.directionWords"], fn := fun _ => fun
  | [d, g1] => { results := [.lit (.bool false)], args := [d], vars := [g1] }
  | _ => none }
def FnDescriptionsWrongFalsely : Prop := fnDescriptionsRow.holds Tryd.pinned (OpenSpec.ofChange fnDescriptionsWrong)

/-- 'laws.FnExactDescriptionText': WHATEVER THE INPUT: true; the input reads as it did. -/
def fnExactDescriptionTextSpec : ChangeSpec := { name := "fnExactDescriptionText", vars := ["loop.example/g01030/impl.directionWords"], fn := fun _ => fun
  | [d, g1] => { results := [.lit (.bool true)], args := [d], vars := [g1] }
  | _ => none }
def fnExactDescriptionTextRow : OpenClaim := { program := "ytphkfnhmpngjpaadoor", sum := "ea7a141b105d6c05a6ddf8151fa8f39794ebe3175d02cdd26c6e771a8afe60d4", func := "loop.example/g01030/laws.FnExactDescriptionText", spec := "fnExactDescriptionText", inPlace := ["internal/bytealg.IndexByteString", "internal/bytealg.IndexString"], recurses := true, named := ["unicode/utf8.first", "unicode/utf8.acceptRanges", "loop.example/g01030/impl.directionWords", "internal/strconv.uint64pow10", "math/bits.deBruijn32tab", "math/bits.deBruijn64tab", "internal/bytealg.MaxLen"], apart := false, laid := [("math/bits.deBruijn32tab", laid_math_bits_deBruijn32tab), ("math/bits.deBruijn64tab", laid_math_bits_deBruijn64tab), ("internal/strconv.uint64pow10", laid_internal_strconv_uint64pow10), ("unicode/utf8.acceptRanges", laid_unicode_utf8_acceptRanges), ("loop.example/g01030/impl.directionWords", laid_loop_example_g01030_impl_directionWords), ("unicode/utf8.first", laid_unicode_utf8_first)] }
def FnExactDescriptionTextSaid : Prop := fnExactDescriptionTextRow.holds Tryd.pinned (OpenSpec.ofChange fnExactDescriptionTextSpec)

/-- ITS FALSE NEIGHBOUR: 'it returns false'. Refute it at one input. -/
def fnExactDescriptionTextWrong : ChangeSpec := { name := "fnExactDescriptionText", vars := ["loop.example/g01030/impl.directionWords"], fn := fun _ => fun
  | [d, g1] => { results := [.lit (.bool false)], args := [d], vars := [g1] }
  | _ => none }
def FnExactDescriptionTextWrongFalsely : Prop := fnExactDescriptionTextRow.holds Tryd.pinned (OpenSpec.ofChange fnExactDescriptionTextWrong)

/-- 'laws.FnExactDoesSatisfy': WHATEVER THE INPUT: true; the input reads as it did. -/
def fnExactDoesSatisfySpec : ChangeSpec := { name := "fnExactDoesSatisfy", vars := ["loop.example/g01030/impl.directionWords"], fn := fun _ => fun
  | [d1, d2, d3, g1] => { results := [.lit (.bool true)], args := [d1, d2, d3], vars := [g1] }
  | _ => none }
def fnExactDoesSatisfyRow : OpenClaim := { program := "ytphkfnhmpngjpaadoor", sum := "ea7a141b105d6c05a6ddf8151fa8f39794ebe3175d02cdd26c6e771a8afe60d4", func := "loop.example/g01030/laws.FnExactDoesSatisfy", spec := "fnExactDoesSatisfy", inPlace := ["internal/bytealg.IndexByteString", "internal/bytealg.IndexString", "internal/bytealg.abigen_runtime_cmpstring"], unfollowed := true, recurses := true, named := ["unicode/utf8.first", "unicode/utf8.acceptRanges", "loop.example/g01030/impl.directionWords", "internal/bytealg.MaxLen"], apart := false, laid := [("unicode/utf8.acceptRanges", laid_unicode_utf8_acceptRanges), ("loop.example/g01030/impl.directionWords", laid_loop_example_g01030_impl_directionWords), ("unicode/utf8.first", laid_unicode_utf8_first)] }
def FnExactDoesSatisfySaid : Prop := fnExactDoesSatisfyRow.holds Tryd.pinned (OpenSpec.ofChange fnExactDoesSatisfySpec)

/-- ITS FALSE NEIGHBOUR: 'it returns false'. Refute it at one input. -/
def fnExactDoesSatisfyWrong : ChangeSpec := { name := "fnExactDoesSatisfy", vars := ["loop.example/g01030/impl.directionWords"], fn := fun _ => fun
  | [d1, d2, d3, g1] => { results := [.lit (.bool false)], args := [d1, d2, d3], vars := [g1] }
  | _ => none }
def FnExactDoesSatisfyWrongFalsely : Prop := fnExactDoesSatisfyRow.holds Tryd.pinned (OpenSpec.ofChange fnExactDoesSatisfyWrong)

/-- 'laws.FnSatisfied': WHATEVER THE INPUT: true; the input reads as it did. -/
def fnSatisfiedSpec : ChangeSpec := { name := "fnSatisfied", vars := ["loop.example/g01030/impl.directionWords"], fn := fun _ => fun
  | [d, g1] => { results := [.lit (.bool true)], args := [d], vars := [g1] }
  | _ => none }
def fnSatisfiedRow : OpenClaim := { program := "ytphkfnhmpngjpaadoor", sum := "ea7a141b105d6c05a6ddf8151fa8f39794ebe3175d02cdd26c6e771a8afe60d4", func := "loop.example/g01030/laws.FnSatisfied", spec := "fnSatisfied", inPlace := ["internal/bytealg.IndexByteString", "internal/bytealg.IndexString", "internal/bytealg.abigen_runtime_cmpstring"], unfollowed := true, recurses := true, named := ["unicode/utf8.first", "unicode/utf8.acceptRanges", "loop.example/g01030/impl.directionWords", "internal/bytealg.MaxLen"], apart := false, laid := [("unicode/utf8.acceptRanges", laid_unicode_utf8_acceptRanges), ("loop.example/g01030/impl.directionWords", laid_loop_example_g01030_impl_directionWords), ("unicode/utf8.first", laid_unicode_utf8_first)] }
def FnSatisfiedSaid : Prop := fnSatisfiedRow.holds Tryd.pinned (OpenSpec.ofChange fnSatisfiedSpec)

/-- ITS FALSE NEIGHBOUR: 'it returns false'. Refute it at one input. -/
def fnSatisfiedWrong : ChangeSpec := { name := "fnSatisfied", vars := ["loop.example/g01030/impl.directionWords"], fn := fun _ => fun
  | [d, g1] => { results := [.lit (.bool false)], args := [d], vars := [g1] }
  | _ => none }
def FnSatisfiedWrongFalsely : Prop := fnSatisfiedRow.holds Tryd.pinned (OpenSpec.ofChange fnSatisfiedWrong)

/-- 'laws.FnExactCountSatisfied': WHATEVER THE INPUT: true; the input reads as it did. -/
def fnExactCountSatisfiedSpec : ChangeSpec := { name := "fnExactCountSatisfied", vars := ["loop.example/g01030/impl.directionWords"], fn := fun _ => fun
  | [d1, d2, d3, g1] => { results := [.lit (.bool true)], args := [d1, d2, d3], vars := [g1] }
  | _ => none }
def fnExactCountSatisfiedRow : OpenClaim := { program := "ytphkfnhmpngjpaadoor", sum := "ea7a141b105d6c05a6ddf8151fa8f39794ebe3175d02cdd26c6e771a8afe60d4", func := "loop.example/g01030/laws.FnExactCountSatisfied", spec := "fnExactCountSatisfied", inPlace := ["internal/bytealg.IndexByteString", "internal/bytealg.IndexString", "internal/bytealg.abigen_runtime_cmpstring"], unfollowed := true, recurses := true, named := ["unicode/utf8.first", "unicode/utf8.acceptRanges", "loop.example/g01030/impl.directionWords", "internal/bytealg.MaxLen"], apart := false, laid := [("unicode/utf8.acceptRanges", laid_unicode_utf8_acceptRanges), ("loop.example/g01030/impl.directionWords", laid_loop_example_g01030_impl_directionWords), ("unicode/utf8.first", laid_unicode_utf8_first)] }
def FnExactCountSatisfiedSaid : Prop := fnExactCountSatisfiedRow.holds Tryd.pinned (OpenSpec.ofChange fnExactCountSatisfiedSpec)

/-- ITS FALSE NEIGHBOUR: 'it returns false'. Refute it at one input. -/
def fnExactCountSatisfiedWrong : ChangeSpec := { name := "fnExactCountSatisfied", vars := ["loop.example/g01030/impl.directionWords"], fn := fun _ => fun
  | [d1, d2, d3, g1] => { results := [.lit (.bool false)], args := [d1, d2, d3], vars := [g1] }
  | _ => none }
def FnExactCountSatisfiedWrongFalsely : Prop := fnExactCountSatisfiedRow.holds Tryd.pinned (OpenSpec.ofChange fnExactCountSatisfiedWrong)

/- THE SECOND FORM. 'bulk': how many values and letters a reading holds, each counted each time it is reached (what is shared counts as often as it is met; a slice's spare places count too). A statement '..UptoSaid' is the law's where the arguments, and the package variables that the reading takes, are together of bulk at most 1048576: NARROWER than '..Said'. Prove '..Said' where nothing that the law and all that it calls make is longer than what came in: it says more and counts as full. Else prove '..UptoSaid'. A law counts once. -/
mutual
def uptoBulk {H : Type} : DataW H → Nat
  | .lit (.string bytes) => bytes.length + 1
  | .lit _ => 1
  | .nil => 1
  | .ptr d => uptoBulk d + 1
  | .slice elems spare => uptoBulkAll elems + uptoBulkAll spare + 1
  | .agg parts => uptoBulkAll parts + 1
  | .iface _ d => uptoBulk d + 1
  | .map entries => uptoBulkEntries entries + 1
  | .held _ => 1
def uptoBulkAll {H : Type} : List (DataW H) → Nat
  | [] => 0
  | d :: r => uptoBulk d + uptoBulkAll r
def uptoBulkEntries {H : Type} : List (Lit × DataW H) → Nat
  | [] => 0
  | x :: r => uptoBulkEntry x + uptoBulkEntries r
def uptoBulkEntry {H : Type} : Lit × DataW H → Nat
  | (.string bytes, d) => bytes.length + uptoBulk d + 1
  | (_, d) => uptoBulk d + 1
 end
def uptoSmall : (H : Type) → List (DataW H) → Bool := fun _ ds => decide (uptoBulkAll ds ≤ 1048576)
def OpenSpec.upto (s : _root_.Go.ChangeSpec) : _root_.Go.OpenSpec := { _root_.Go.OpenSpec.ofChange s with cond := some uptoSmall }

/-- 'laws.FnExactIsDescription', WHERE WHAT IT READS IS OF BULK AT MOST 1048576: true; the input reads as it did. -/
def fnExactIsDescriptionUptoRow : OpenClaim := { program := "ytphkfnhmpngjpaadoor", sum := "ea7a141b105d6c05a6ddf8151fa8f39794ebe3175d02cdd26c6e771a8afe60d4", func := "loop.example/g01030/laws.FnExactIsDescription", spec := "fnExactIsDescription", inPlace := ["internal/bytealg.IndexByteString", "internal/bytealg.IndexString"], named := ["unicode/utf8.first", "unicode/utf8.acceptRanges", "loop.example/g01030/impl.directionWords", "internal/bytealg.MaxLen"], apart := false, laid := [("unicode/utf8.acceptRanges", laid_unicode_utf8_acceptRanges), ("loop.example/g01030/impl.directionWords", laid_loop_example_g01030_impl_directionWords), ("unicode/utf8.first", laid_unicode_utf8_first)], narrowed := true }
def FnExactIsDescriptionUptoSaid : Prop := fnExactIsDescriptionUptoRow.holds Tryd.pinned (OpenSpec.upto fnExactIsDescriptionSpec)

/-- 'laws.FnExactAreSites', WHERE WHAT IT READS IS OF BULK AT MOST 1048576: true; the input reads as it did. -/
def fnExactAreSitesUptoRow : OpenClaim := { program := "ytphkfnhmpngjpaadoor", sum := "ea7a141b105d6c05a6ddf8151fa8f39794ebe3175d02cdd26c6e771a8afe60d4", func := "loop.example/g01030/laws.FnExactAreSites", spec := "fnExactAreSites", inPlace := ["internal/bytealg.IndexByteString", "internal/bytealg.IndexString"], named := ["unicode/utf8.first", "unicode/utf8.acceptRanges", "loop.example/g01030/impl.directionWords", "internal/bytealg.MaxLen"], apart := false, laid := [("unicode/utf8.acceptRanges", laid_unicode_utf8_acceptRanges), ("loop.example/g01030/impl.directionWords", laid_loop_example_g01030_impl_directionWords), ("unicode/utf8.first", laid_unicode_utf8_first)], narrowed := true }
def FnExactAreSitesUptoSaid : Prop := fnExactAreSitesUptoRow.holds Tryd.pinned (OpenSpec.upto fnExactAreSitesSpec)

/-- 'laws.FnExactLengthOf', WHERE WHAT IT READS IS OF BULK AT MOST 1048576: true; the input reads as it did. -/
def fnExactLengthOfUptoRow : OpenClaim := { program := "ytphkfnhmpngjpaadoor", sum := "ea7a141b105d6c05a6ddf8151fa8f39794ebe3175d02cdd26c6e771a8afe60d4", func := "loop.example/g01030/laws.FnExactLengthOf", spec := "fnExactLengthOf", inPlace := ["internal/bytealg.IndexByteString", "internal/bytealg.IndexString"], named := ["unicode/utf8.first", "unicode/utf8.acceptRanges", "loop.example/g01030/impl.directionWords", "internal/bytealg.MaxLen"], apart := false, laid := [("unicode/utf8.acceptRanges", laid_unicode_utf8_acceptRanges), ("loop.example/g01030/impl.directionWords", laid_loop_example_g01030_impl_directionWords), ("unicode/utf8.first", laid_unicode_utf8_first)], narrowed := true }
def FnExactLengthOfUptoSaid : Prop := fnExactLengthOfUptoRow.holds Tryd.pinned (OpenSpec.upto fnExactLengthOfSpec)

/-- 'laws.FnExactOpposite', WHERE WHAT IT READS IS OF BULK AT MOST 1048576: true; the input reads as it did. -/
def fnExactOppositeUptoRow : OpenClaim := { program := "ytphkfnhmpngjpaadoor", sum := "ea7a141b105d6c05a6ddf8151fa8f39794ebe3175d02cdd26c6e771a8afe60d4", func := "loop.example/g01030/laws.FnExactOpposite", spec := "fnExactOpposite", inPlace := ["internal/bytealg.IndexByteString", "internal/bytealg.IndexString"], named := ["unicode/utf8.first", "unicode/utf8.acceptRanges", "loop.example/g01030/impl.directionWords", "internal/bytealg.MaxLen"], apart := false, laid := [("unicode/utf8.acceptRanges", laid_unicode_utf8_acceptRanges), ("loop.example/g01030/impl.directionWords", laid_loop_example_g01030_impl_directionWords), ("unicode/utf8.first", laid_unicode_utf8_first)], narrowed := true }
def FnExactOppositeUptoSaid : Prop := fnExactOppositeUptoRow.holds Tryd.pinned (OpenSpec.upto fnExactOppositeSpec)

/-- 'laws.FnExactInLeagues', WHERE WHAT IT READS IS OF BULK AT MOST 1048576: true; the input reads as it did. -/
def fnExactInLeaguesUptoRow : OpenClaim := { program := "ytphkfnhmpngjpaadoor", sum := "ea7a141b105d6c05a6ddf8151fa8f39794ebe3175d02cdd26c6e771a8afe60d4", func := "loop.example/g01030/laws.FnExactInLeagues", spec := "fnExactInLeagues", inPlace := ["internal/bytealg.IndexByteString", "internal/bytealg.IndexString"], named := ["unicode/utf8.first", "unicode/utf8.acceptRanges", "loop.example/g01030/impl.directionWords", "internal/bytealg.MaxLen"], apart := false, laid := [("unicode/utf8.acceptRanges", laid_unicode_utf8_acceptRanges), ("loop.example/g01030/impl.directionWords", laid_loop_example_g01030_impl_directionWords), ("unicode/utf8.first", laid_unicode_utf8_first)], narrowed := true }
def FnExactInLeaguesUptoSaid : Prop := fnExactInLeaguesUptoRow.holds Tryd.pinned (OpenSpec.upto fnExactInLeaguesSpec)

/-- 'laws.FnExactPlacesUsed', WHERE WHAT IT READS IS OF BULK AT MOST 1048576: true; the input reads as it did. -/
def fnExactPlacesUsedUptoRow : OpenClaim := { program := "ytphkfnhmpngjpaadoor", sum := "ea7a141b105d6c05a6ddf8151fa8f39794ebe3175d02cdd26c6e771a8afe60d4", func := "loop.example/g01030/laws.FnExactPlacesUsed", spec := "fnExactPlacesUsed", inPlace := ["internal/bytealg.IndexByteString", "internal/bytealg.IndexString"], named := ["unicode/utf8.first", "unicode/utf8.acceptRanges", "loop.example/g01030/impl.directionWords", "internal/bytealg.MaxLen"], apart := false, laid := [("unicode/utf8.acceptRanges", laid_unicode_utf8_acceptRanges), ("loop.example/g01030/impl.directionWords", laid_loop_example_g01030_impl_directionWords), ("unicode/utf8.first", laid_unicode_utf8_first)], narrowed := true }
def FnExactPlacesUsedUptoSaid : Prop := fnExactPlacesUsedUptoRow.holds Tryd.pinned (OpenSpec.upto fnExactPlacesUsedSpec)

/-- 'laws.FnExactReplacePlaceIn', WHERE WHAT IT READS IS OF BULK AT MOST 1048576: true; the input reads as it did. -/
def fnExactReplacePlaceInUptoRow : OpenClaim := { program := "ytphkfnhmpngjpaadoor", sum := "ea7a141b105d6c05a6ddf8151fa8f39794ebe3175d02cdd26c6e771a8afe60d4", func := "loop.example/g01030/laws.FnExactReplacePlaceIn", spec := "fnExactReplacePlaceIn", inPlace := ["internal/bytealg.IndexByteString", "internal/bytealg.IndexString"], named := ["unicode/utf8.first", "unicode/utf8.acceptRanges", "loop.example/g01030/impl.directionWords", "internal/bytealg.MaxLen"], apart := false, laid := [("unicode/utf8.acceptRanges", laid_unicode_utf8_acceptRanges), ("loop.example/g01030/impl.directionWords", laid_loop_example_g01030_impl_directionWords), ("unicode/utf8.first", laid_unicode_utf8_first)], narrowed := true }
def FnExactReplacePlaceInUptoSaid : Prop := fnExactReplacePlaceInUptoRow.holds Tryd.pinned (OpenSpec.upto fnExactReplacePlaceInSpec)

/-- 'laws.FnDescriptions', WHERE WHAT IT READS IS OF BULK AT MOST 1048576: true; the input reads as it did. -/
def fnDescriptionsUptoRow : OpenClaim := { program := "ytphkfnhmpngjpaadoor", sum := "ea7a141b105d6c05a6ddf8151fa8f39794ebe3175d02cdd26c6e771a8afe60d4", func := "loop.example/g01030/laws.FnDescriptions", spec := "fnDescriptions", inPlace := ["internal/bytealg.IndexByteString", "internal/bytealg.IndexString"], named := ["unicode/utf8.first", "unicode/utf8.acceptRanges", "loop.example/g01030/impl.directionWords", "internal/bytealg.MaxLen"], apart := false, laid := [("unicode/utf8.acceptRanges", laid_unicode_utf8_acceptRanges), ("loop.example/g01030/impl.directionWords", laid_loop_example_g01030_impl_directionWords), ("unicode/utf8.first", laid_unicode_utf8_first)], narrowed := true }
def FnDescriptionsUptoSaid : Prop := fnDescriptionsUptoRow.holds Tryd.pinned (OpenSpec.upto fnDescriptionsSpec)

/-- 'laws.FnExactDescriptionText', WHERE WHAT IT READS IS OF BULK AT MOST 1048576: true; the input reads as it did. -/
def fnExactDescriptionTextUptoRow : OpenClaim := { program := "ytphkfnhmpngjpaadoor", sum := "ea7a141b105d6c05a6ddf8151fa8f39794ebe3175d02cdd26c6e771a8afe60d4", func := "loop.example/g01030/laws.FnExactDescriptionText", spec := "fnExactDescriptionText", inPlace := ["internal/bytealg.IndexByteString", "internal/bytealg.IndexString"], recurses := true, named := ["unicode/utf8.first", "unicode/utf8.acceptRanges", "loop.example/g01030/impl.directionWords", "internal/strconv.uint64pow10", "math/bits.deBruijn32tab", "math/bits.deBruijn64tab", "internal/bytealg.MaxLen"], apart := false, laid := [("math/bits.deBruijn32tab", laid_math_bits_deBruijn32tab), ("math/bits.deBruijn64tab", laid_math_bits_deBruijn64tab), ("internal/strconv.uint64pow10", laid_internal_strconv_uint64pow10), ("unicode/utf8.acceptRanges", laid_unicode_utf8_acceptRanges), ("loop.example/g01030/impl.directionWords", laid_loop_example_g01030_impl_directionWords), ("unicode/utf8.first", laid_unicode_utf8_first)], narrowed := true }
def FnExactDescriptionTextUptoSaid : Prop := fnExactDescriptionTextUptoRow.holds Tryd.pinned (OpenSpec.upto fnExactDescriptionTextSpec)

/-- 'laws.FnExactDoesSatisfy', WHERE WHAT IT READS IS OF BULK AT MOST 1048576: true; the input reads as it did. -/
def fnExactDoesSatisfyUptoRow : OpenClaim := { program := "ytphkfnhmpngjpaadoor", sum := "ea7a141b105d6c05a6ddf8151fa8f39794ebe3175d02cdd26c6e771a8afe60d4", func := "loop.example/g01030/laws.FnExactDoesSatisfy", spec := "fnExactDoesSatisfy", inPlace := ["internal/bytealg.IndexByteString", "internal/bytealg.IndexString", "internal/bytealg.abigen_runtime_cmpstring"], unfollowed := true, recurses := true, named := ["unicode/utf8.first", "unicode/utf8.acceptRanges", "loop.example/g01030/impl.directionWords", "internal/bytealg.MaxLen"], apart := false, laid := [("unicode/utf8.acceptRanges", laid_unicode_utf8_acceptRanges), ("loop.example/g01030/impl.directionWords", laid_loop_example_g01030_impl_directionWords), ("unicode/utf8.first", laid_unicode_utf8_first)], narrowed := true }
def FnExactDoesSatisfyUptoSaid : Prop := fnExactDoesSatisfyUptoRow.holds Tryd.pinned (OpenSpec.upto fnExactDoesSatisfySpec)

/-- 'laws.FnSatisfied', WHERE WHAT IT READS IS OF BULK AT MOST 1048576: true; the input reads as it did. -/
def fnSatisfiedUptoRow : OpenClaim := { program := "ytphkfnhmpngjpaadoor", sum := "ea7a141b105d6c05a6ddf8151fa8f39794ebe3175d02cdd26c6e771a8afe60d4", func := "loop.example/g01030/laws.FnSatisfied", spec := "fnSatisfied", inPlace := ["internal/bytealg.IndexByteString", "internal/bytealg.IndexString", "internal/bytealg.abigen_runtime_cmpstring"], unfollowed := true, recurses := true, named := ["unicode/utf8.first", "unicode/utf8.acceptRanges", "loop.example/g01030/impl.directionWords", "internal/bytealg.MaxLen"], apart := false, laid := [("unicode/utf8.acceptRanges", laid_unicode_utf8_acceptRanges), ("loop.example/g01030/impl.directionWords", laid_loop_example_g01030_impl_directionWords), ("unicode/utf8.first", laid_unicode_utf8_first)], narrowed := true }
def FnSatisfiedUptoSaid : Prop := fnSatisfiedUptoRow.holds Tryd.pinned (OpenSpec.upto fnSatisfiedSpec)

/-- 'laws.FnExactCountSatisfied', WHERE WHAT IT READS IS OF BULK AT MOST 1048576: true; the input reads as it did. -/
def fnExactCountSatisfiedUptoRow : OpenClaim := { program := "ytphkfnhmpngjpaadoor", sum := "ea7a141b105d6c05a6ddf8151fa8f39794ebe3175d02cdd26c6e771a8afe60d4", func := "loop.example/g01030/laws.FnExactCountSatisfied", spec := "fnExactCountSatisfied", inPlace := ["internal/bytealg.IndexByteString", "internal/bytealg.IndexString", "internal/bytealg.abigen_runtime_cmpstring"], unfollowed := true, recurses := true, named := ["unicode/utf8.first", "unicode/utf8.acceptRanges", "loop.example/g01030/impl.directionWords", "internal/bytealg.MaxLen"], apart := false, laid := [("unicode/utf8.acceptRanges", laid_unicode_utf8_acceptRanges), ("loop.example/g01030/impl.directionWords", laid_loop_example_g01030_impl_directionWords), ("unicode/utf8.first", laid_unicode_utf8_first)], narrowed := true }
def FnExactCountSatisfiedUptoSaid : Prop := fnExactCountSatisfiedUptoRow.holds Tryd.pinned (OpenSpec.upto fnExactCountSatisfiedSpec)

end Rows
end Go.Proofs.YtphkfnhmpngjpaaDoor
