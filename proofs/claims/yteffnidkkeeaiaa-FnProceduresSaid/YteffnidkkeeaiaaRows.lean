/-
  No cell of these rows narrows 'for every input' (looked for: loops, veiled, ifaces, maps, wideKeys, modest, calm, conditions, laid).
  DERIVED. THE GIVEN ROWS OF THIS SEAT. 10 by the template 'for every input the law returns true; each argument reads behind the call as it read before'; 0 by the template 'total and deterministic' (their statements: YteffnidkkeeaiaaTotals.lean).
  GIVEN WITH THE SEED: the statements are not yours to turn. If you find one false, say at which input.
  Laid BY PROGRAM, IN A SANDBOX (cutbox-rows.mjs): the forced cells as the released guide's own fill.sh prints them over the translation 7a4134ca745d19b3… (all of the seat's roots in one cut). By AI agents, Wed Nov 11 2026. No macro, syntax, notation, axiom, sorry.
-/
import Derived.Test.YteffnidkkeeaiaaChecked
import GoSem.Claim
import GoSem.ClaimJoined
import GoSem.ClaimMapViews
import Derived.JoinedTies
import Derived.KernelRfl
namespace Go.Proofs.Yteffnidkkeeaiaa
/- THE CELL 'sum', in the pinned program and in every row, IS THE sha256 OF THE DUMP (.gsa) THAT YteffnidkkeeaiaaProg.lean LOADS. Nothing in Lean hashes anything: it is a label: what it is worth is what the hold of that sum in a sandbox is worth. -/
noncomputable def Try.pinned : Pinned := { name := "yteffnidkkeeaiaa", sum := "7a4134ca745d19b36204f8cd2cbec0fd820059ddcc539123d79ec0a49b91af41", checked := Try.checked }
namespace Rows
def none {H : Type} : Left H := { results := [], args := [] }

/-- 'laws.FnExactCenterOf': WHATEVER THE INPUT: true; the input reads as it did. -/
def fnExactCenterOfSpec : ChangeSpec := { name := "fnExactCenterOf", fn := fun _ => fun
  | [d] => { results := [.lit (.bool true)], args := [d] }
  | _ => none }
def fnExactCenterOfRow : OpenClaim := { program := "yteffnidkkeeaiaa", sum := "7a4134ca745d19b36204f8cd2cbec0fd820059ddcc539123d79ec0a49b91af41", func := "loop.example/g01030/laws.FnExactCenterOf", spec := "fnExactCenterOf", apart := false }
def FnExactCenterOfSaid : Prop := fnExactCenterOfRow.holds Try.pinned (OpenSpec.ofChange fnExactCenterOfSpec)

/-- ITS FALSE NEIGHBOUR: 'it returns false'. Refute it at one input. -/
def fnExactCenterOfWrong : ChangeSpec := { name := "fnExactCenterOf", fn := fun _ => fun
  | [d] => { results := [.lit (.bool false)], args := [d] }
  | _ => none }
def FnExactCenterOfWrongFalsely : Prop := fnExactCenterOfRow.holds Try.pinned (OpenSpec.ofChange fnExactCenterOfWrong)

/-- 'laws.FnExactIsProcedure': WHATEVER THE INPUT: true; the input reads as it did. -/
def fnExactIsProcedureSpec : ChangeSpec := { name := "fnExactIsProcedure", fn := fun _ => fun
  | [d] => { results := [.lit (.bool true)], args := [d] }
  | _ => none }
def fnExactIsProcedureRow : OpenClaim := { program := "yteffnidkkeeaiaa", sum := "7a4134ca745d19b36204f8cd2cbec0fd820059ddcc539123d79ec0a49b91af41", func := "loop.example/g01030/laws.FnExactIsProcedure", spec := "fnExactIsProcedure", apart := false }
def FnExactIsProcedureSaid : Prop := fnExactIsProcedureRow.holds Try.pinned (OpenSpec.ofChange fnExactIsProcedureSpec)

/-- ITS FALSE NEIGHBOUR: 'it returns false'. Refute it at one input. -/
def fnExactIsProcedureWrong : ChangeSpec := { name := "fnExactIsProcedure", fn := fun _ => fun
  | [d] => { results := [.lit (.bool false)], args := [d] }
  | _ => none }
def FnExactIsProcedureWrongFalsely : Prop := fnExactIsProcedureRow.holds Try.pinned (OpenSpec.ofChange fnExactIsProcedureWrong)

/-- 'laws.FnExactStageOf': WHATEVER THE INPUT: true; the input reads as it did. -/
def fnExactStageOfSpec : ChangeSpec := { name := "fnExactStageOf", fn := fun _ => fun
  | [d] => { results := [.lit (.bool true)], args := [d] }
  | _ => none }
def fnExactStageOfRow : OpenClaim := { program := "yteffnidkkeeaiaa", sum := "7a4134ca745d19b36204f8cd2cbec0fd820059ddcc539123d79ec0a49b91af41", func := "loop.example/g01030/laws.FnExactStageOf", spec := "fnExactStageOf", apart := false }
def FnExactStageOfSaid : Prop := fnExactStageOfRow.holds Try.pinned (OpenSpec.ofChange fnExactStageOfSpec)

/-- ITS FALSE NEIGHBOUR: 'it returns false'. Refute it at one input. -/
def fnExactStageOfWrong : ChangeSpec := { name := "fnExactStageOf", fn := fun _ => fun
  | [d] => { results := [.lit (.bool false)], args := [d] }
  | _ => none }
def FnExactStageOfWrongFalsely : Prop := fnExactStageOfRow.holds Try.pinned (OpenSpec.ofChange fnExactStageOfWrong)

/-- 'laws.FnExactLastChance': WHATEVER THE INPUT: true; the input reads as it did. -/
def fnExactLastChanceSpec : ChangeSpec := { name := "fnExactLastChance", fn := fun _ => fun
  | [d] => { results := [.lit (.bool true)], args := [d] }
  | _ => none }
def fnExactLastChanceRow : OpenClaim := { program := "yteffnidkkeeaiaa", sum := "7a4134ca745d19b36204f8cd2cbec0fd820059ddcc539123d79ec0a49b91af41", func := "loop.example/g01030/laws.FnExactLastChance", spec := "fnExactLastChance", apart := false }
def FnExactLastChanceSaid : Prop := fnExactLastChanceRow.holds Try.pinned (OpenSpec.ofChange fnExactLastChanceSpec)

/-- ITS FALSE NEIGHBOUR: 'it returns false'. Refute it at one input. -/
def fnExactLastChanceWrong : ChangeSpec := { name := "fnExactLastChance", fn := fun _ => fun
  | [d] => { results := [.lit (.bool false)], args := [d] }
  | _ => none }
def FnExactLastChanceWrongFalsely : Prop := fnExactLastChanceRow.holds Try.pinned (OpenSpec.ofChange fnExactLastChanceWrong)

/-- 'laws.FnExactOutcomeOf': WHATEVER THE INPUT: true; the input reads as it did. -/
def fnExactOutcomeOfSpec : ChangeSpec := { name := "fnExactOutcomeOf", fn := fun _ => fun
  | [d] => { results := [.lit (.bool true)], args := [d] }
  | _ => none }
def fnExactOutcomeOfRow : OpenClaim := { program := "yteffnidkkeeaiaa", sum := "7a4134ca745d19b36204f8cd2cbec0fd820059ddcc539123d79ec0a49b91af41", func := "loop.example/g01030/laws.FnExactOutcomeOf", spec := "fnExactOutcomeOf", apart := false }
def FnExactOutcomeOfSaid : Prop := fnExactOutcomeOfRow.holds Try.pinned (OpenSpec.ofChange fnExactOutcomeOfSpec)

/-- ITS FALSE NEIGHBOUR: 'it returns false'. Refute it at one input. -/
def fnExactOutcomeOfWrong : ChangeSpec := { name := "fnExactOutcomeOf", fn := fun _ => fun
  | [d] => { results := [.lit (.bool false)], args := [d] }
  | _ => none }
def FnExactOutcomeOfWrongFalsely : Prop := fnExactOutcomeOfRow.holds Try.pinned (OpenSpec.ofChange fnExactOutcomeOfWrong)

/-- 'laws.FnExactTakeStep': WHATEVER THE INPUT: true; the input reads as it did. -/
def fnExactTakeStepSpec : ChangeSpec := { name := "fnExactTakeStep", fn := fun _ => fun
  | [d1, d2] => { results := [.lit (.bool true)], args := [d1, d2] }
  | _ => none }
def fnExactTakeStepRow : OpenClaim := { program := "yteffnidkkeeaiaa", sum := "7a4134ca745d19b36204f8cd2cbec0fd820059ddcc539123d79ec0a49b91af41", func := "loop.example/g01030/laws.FnExactTakeStep", spec := "fnExactTakeStep", apart := false }
def FnExactTakeStepSaid : Prop := fnExactTakeStepRow.holds Try.pinned (OpenSpec.ofChange fnExactTakeStepSpec)

/-- ITS FALSE NEIGHBOUR: 'it returns false'. Refute it at one input. -/
def fnExactTakeStepWrong : ChangeSpec := { name := "fnExactTakeStep", fn := fun _ => fun
  | [d1, d2] => { results := [.lit (.bool false)], args := [d1, d2] }
  | _ => none }
def FnExactTakeStepWrongFalsely : Prop := fnExactTakeStepRow.holds Try.pinned (OpenSpec.ofChange fnExactTakeStepWrong)

/-- 'laws.FnExactNextSteps': WHATEVER THE INPUT: true; the input reads as it did. -/
def fnExactNextStepsSpec : ChangeSpec := { name := "fnExactNextSteps", fn := fun _ => fun
  | [d1, d2] => { results := [.lit (.bool true)], args := [d1, d2] }
  | _ => none }
def fnExactNextStepsRow : OpenClaim := { program := "yteffnidkkeeaiaa", sum := "7a4134ca745d19b36204f8cd2cbec0fd820059ddcc539123d79ec0a49b91af41", func := "loop.example/g01030/laws.FnExactNextSteps", spec := "fnExactNextSteps", apart := false }
def FnExactNextStepsSaid : Prop := fnExactNextStepsRow.holds Try.pinned (OpenSpec.ofChange fnExactNextStepsSpec)

/-- ITS FALSE NEIGHBOUR: 'it returns false'. Refute it at one input. -/
def fnExactNextStepsWrong : ChangeSpec := { name := "fnExactNextSteps", fn := fun _ => fun
  | [d1, d2] => { results := [.lit (.bool false)], args := [d1, d2] }
  | _ => none }
def FnExactNextStepsWrongFalsely : Prop := fnExactNextStepsRow.holds Try.pinned (OpenSpec.ofChange fnExactNextStepsWrong)

/-- 'laws.FnExactShortestRest': WHATEVER THE INPUT: true; the input reads as it did. -/
def fnExactShortestRestSpec : ChangeSpec := { name := "fnExactShortestRest", fn := fun _ => fun
  | [d1, d2, d3] => { results := [.lit (.bool true)], args := [d1, d2, d3] }
  | _ => none }
def fnExactShortestRestRow : OpenClaim := { program := "yteffnidkkeeaiaa", sum := "7a4134ca745d19b36204f8cd2cbec0fd820059ddcc539123d79ec0a49b91af41", func := "loop.example/g01030/laws.FnExactShortestRest", spec := "fnExactShortestRest", recurses := true, apart := false }
def FnExactShortestRestSaid : Prop := fnExactShortestRestRow.holds Try.pinned (OpenSpec.ofChange fnExactShortestRestSpec)

/-- ITS FALSE NEIGHBOUR: 'it returns false'. Refute it at one input. -/
def fnExactShortestRestWrong : ChangeSpec := { name := "fnExactShortestRest", fn := fun _ => fun
  | [d1, d2, d3] => { results := [.lit (.bool false)], args := [d1, d2, d3] }
  | _ => none }
def FnExactShortestRestWrongFalsely : Prop := fnExactShortestRestRow.holds Try.pinned (OpenSpec.ofChange fnExactShortestRestWrong)

/-- 'laws.FnShortest': WHATEVER THE INPUT: true; the input reads as it did. -/
def fnShortestSpec : ChangeSpec := { name := "fnShortest", fn := fun _ => fun
  | [d] => { results := [.lit (.bool true)], args := [d] }
  | _ => none }
def fnShortestRow : OpenClaim := { program := "yteffnidkkeeaiaa", sum := "7a4134ca745d19b36204f8cd2cbec0fd820059ddcc539123d79ec0a49b91af41", func := "loop.example/g01030/laws.FnShortest", spec := "fnShortest", recurses := true, apart := false }
def FnShortestSaid : Prop := fnShortestRow.holds Try.pinned (OpenSpec.ofChange fnShortestSpec)

/-- ITS FALSE NEIGHBOUR: 'it returns false'. Refute it at one input. -/
def fnShortestWrong : ChangeSpec := { name := "fnShortest", fn := fun _ => fun
  | [d] => { results := [.lit (.bool false)], args := [d] }
  | _ => none }
def FnShortestWrongFalsely : Prop := fnShortestRow.holds Try.pinned (OpenSpec.ofChange fnShortestWrong)

/-- 'laws.FnProcedures': WHATEVER THE INPUT: true; the input reads as it did. -/
def fnProceduresSpec : ChangeSpec := { name := "fnProcedures", fn := fun _ => fun
  | [d] => { results := [.lit (.bool true)], args := [d] }
  | _ => none }
def fnProceduresRow : OpenClaim := { program := "yteffnidkkeeaiaa", sum := "7a4134ca745d19b36204f8cd2cbec0fd820059ddcc539123d79ec0a49b91af41", func := "loop.example/g01030/laws.FnProcedures", spec := "fnProcedures", apart := false }
def FnProceduresSaid : Prop := fnProceduresRow.holds Try.pinned (OpenSpec.ofChange fnProceduresSpec)

/-- ITS FALSE NEIGHBOUR: 'it returns false'. Refute it at one input. -/
def fnProceduresWrong : ChangeSpec := { name := "fnProcedures", fn := fun _ => fun
  | [d] => { results := [.lit (.bool false)], args := [d] }
  | _ => none }
def FnProceduresWrongFalsely : Prop := fnProceduresRow.holds Try.pinned (OpenSpec.ofChange fnProceduresWrong)

/- THE SECOND FORM. 'bulk': how many values and letters a reading holds, each counted each time it is reached (what is shared counts as often as it is met; a slice's spare places count too). A statement '..UptoSaid' is the law's where the arguments, and the package variables that the reading takes, are together of bulk at most 1048576: NARROWER than '..Said'. Prove '..Said' where nothing that the law and all that it calls make is longer than what came in: it says more and counts as full. Else prove '..UptoSaid'. A law counts once. -/
mutual
def uptoBulk {H : Type} : DataW H → Nat
  | .lit (.string bytes) => bytes.length + 1
  | .lit _ => 1
  | .nil => 1
  | .ptr d => uptoBulk d + 1
  | .slice elems spare => uptoBulkAll elems + uptoBulkAll spare + 1
  | .agg parts => uptoBulkAll parts + 1
  | .iface _ d => uptoBulk d + 1
  | .map entries => uptoBulkEntries entries + 1
  | .held _ => 1
def uptoBulkAll {H : Type} : List (DataW H) → Nat
  | [] => 0
  | d :: r => uptoBulk d + uptoBulkAll r
def uptoBulkEntries {H : Type} : List (Lit × DataW H) → Nat
  | [] => 0
  | x :: r => uptoBulkEntry x + uptoBulkEntries r
def uptoBulkEntry {H : Type} : Lit × DataW H → Nat
  | (.string bytes, d) => bytes.length + uptoBulk d + 1
  | (_, d) => uptoBulk d + 1
 end
def uptoSmall : (H : Type) → List (DataW H) → Bool := fun _ ds => decide (uptoBulkAll ds ≤ 1048576)
def OpenSpec.upto (s : _root_.Go.ChangeSpec) : _root_.Go.OpenSpec := { _root_.Go.OpenSpec.ofChange s with cond := some uptoSmall }

/-- 'laws.FnExactCenterOf', WHERE WHAT IT READS IS OF BULK AT MOST 1048576: true; the input reads as it did. -/
def fnExactCenterOfUptoRow : OpenClaim := { program := "yteffnidkkeeaiaa", sum := "7a4134ca745d19b36204f8cd2cbec0fd820059ddcc539123d79ec0a49b91af41", func := "loop.example/g01030/laws.FnExactCenterOf", spec := "fnExactCenterOf", apart := false, narrowed := true }
def FnExactCenterOfUptoSaid : Prop := fnExactCenterOfUptoRow.holds Try.pinned (OpenSpec.upto fnExactCenterOfSpec)

/-- 'laws.FnExactIsProcedure', WHERE WHAT IT READS IS OF BULK AT MOST 1048576: true; the input reads as it did. -/
def fnExactIsProcedureUptoRow : OpenClaim := { program := "yteffnidkkeeaiaa", sum := "7a4134ca745d19b36204f8cd2cbec0fd820059ddcc539123d79ec0a49b91af41", func := "loop.example/g01030/laws.FnExactIsProcedure", spec := "fnExactIsProcedure", apart := false, narrowed := true }
def FnExactIsProcedureUptoSaid : Prop := fnExactIsProcedureUptoRow.holds Try.pinned (OpenSpec.upto fnExactIsProcedureSpec)

/-- 'laws.FnExactStageOf', WHERE WHAT IT READS IS OF BULK AT MOST 1048576: true; the input reads as it did. -/
def fnExactStageOfUptoRow : OpenClaim := { program := "yteffnidkkeeaiaa", sum := "7a4134ca745d19b36204f8cd2cbec0fd820059ddcc539123d79ec0a49b91af41", func := "loop.example/g01030/laws.FnExactStageOf", spec := "fnExactStageOf", apart := false, narrowed := true }
def FnExactStageOfUptoSaid : Prop := fnExactStageOfUptoRow.holds Try.pinned (OpenSpec.upto fnExactStageOfSpec)

/-- 'laws.FnExactLastChance', WHERE WHAT IT READS IS OF BULK AT MOST 1048576: true; the input reads as it did. -/
def fnExactLastChanceUptoRow : OpenClaim := { program := "yteffnidkkeeaiaa", sum := "7a4134ca745d19b36204f8cd2cbec0fd820059ddcc539123d79ec0a49b91af41", func := "loop.example/g01030/laws.FnExactLastChance", spec := "fnExactLastChance", apart := false, narrowed := true }
def FnExactLastChanceUptoSaid : Prop := fnExactLastChanceUptoRow.holds Try.pinned (OpenSpec.upto fnExactLastChanceSpec)

/-- 'laws.FnExactOutcomeOf', WHERE WHAT IT READS IS OF BULK AT MOST 1048576: true; the input reads as it did. -/
def fnExactOutcomeOfUptoRow : OpenClaim := { program := "yteffnidkkeeaiaa", sum := "7a4134ca745d19b36204f8cd2cbec0fd820059ddcc539123d79ec0a49b91af41", func := "loop.example/g01030/laws.FnExactOutcomeOf", spec := "fnExactOutcomeOf", apart := false, narrowed := true }
def FnExactOutcomeOfUptoSaid : Prop := fnExactOutcomeOfUptoRow.holds Try.pinned (OpenSpec.upto fnExactOutcomeOfSpec)

/-- 'laws.FnExactTakeStep', WHERE WHAT IT READS IS OF BULK AT MOST 1048576: true; the input reads as it did. -/
def fnExactTakeStepUptoRow : OpenClaim := { program := "yteffnidkkeeaiaa", sum := "7a4134ca745d19b36204f8cd2cbec0fd820059ddcc539123d79ec0a49b91af41", func := "loop.example/g01030/laws.FnExactTakeStep", spec := "fnExactTakeStep", apart := false, narrowed := true }
def FnExactTakeStepUptoSaid : Prop := fnExactTakeStepUptoRow.holds Try.pinned (OpenSpec.upto fnExactTakeStepSpec)

/-- 'laws.FnExactNextSteps', WHERE WHAT IT READS IS OF BULK AT MOST 1048576: true; the input reads as it did. -/
def fnExactNextStepsUptoRow : OpenClaim := { program := "yteffnidkkeeaiaa", sum := "7a4134ca745d19b36204f8cd2cbec0fd820059ddcc539123d79ec0a49b91af41", func := "loop.example/g01030/laws.FnExactNextSteps", spec := "fnExactNextSteps", apart := false, narrowed := true }
def FnExactNextStepsUptoSaid : Prop := fnExactNextStepsUptoRow.holds Try.pinned (OpenSpec.upto fnExactNextStepsSpec)

/-- 'laws.FnExactShortestRest', WHERE WHAT IT READS IS OF BULK AT MOST 1048576: true; the input reads as it did. -/
def fnExactShortestRestUptoRow : OpenClaim := { program := "yteffnidkkeeaiaa", sum := "7a4134ca745d19b36204f8cd2cbec0fd820059ddcc539123d79ec0a49b91af41", func := "loop.example/g01030/laws.FnExactShortestRest", spec := "fnExactShortestRest", recurses := true, apart := false, narrowed := true }
def FnExactShortestRestUptoSaid : Prop := fnExactShortestRestUptoRow.holds Try.pinned (OpenSpec.upto fnExactShortestRestSpec)

/-- 'laws.FnShortest', WHERE WHAT IT READS IS OF BULK AT MOST 1048576: true; the input reads as it did. -/
def fnShortestUptoRow : OpenClaim := { program := "yteffnidkkeeaiaa", sum := "7a4134ca745d19b36204f8cd2cbec0fd820059ddcc539123d79ec0a49b91af41", func := "loop.example/g01030/laws.FnShortest", spec := "fnShortest", recurses := true, apart := false, narrowed := true }
def FnShortestUptoSaid : Prop := fnShortestUptoRow.holds Try.pinned (OpenSpec.upto fnShortestSpec)

/-- 'laws.FnProcedures', WHERE WHAT IT READS IS OF BULK AT MOST 1048576: true; the input reads as it did. -/
def fnProceduresUptoRow : OpenClaim := { program := "yteffnidkkeeaiaa", sum := "7a4134ca745d19b36204f8cd2cbec0fd820059ddcc539123d79ec0a49b91af41", func := "loop.example/g01030/laws.FnProcedures", spec := "fnProcedures", apart := false, narrowed := true }
def FnProceduresUptoSaid : Prop := fnProceduresUptoRow.holds Try.pinned (OpenSpec.upto fnProceduresSpec)

end Rows
end Go.Proofs.Yteffnidkkeeaiaa
