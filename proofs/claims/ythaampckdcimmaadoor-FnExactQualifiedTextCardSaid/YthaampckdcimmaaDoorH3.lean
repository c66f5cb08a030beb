/- Points: turns, sizes without sign; of the program and of the reference. -/
import Derived.Test.YthaampckdcimmaaDoorRows
import Derived.Test.YthaampckdcimmaaDoorL0
import Derived.Test.YthaampckdcimmaaDoorM0
import Derived.WalkKit
import Derived.ProofKit
import Derived.OpenShut
import Derived.BigQuiet
import Derived.Outline
import Derived.WalkSpells
import Derived.WalkLawsBesides
import Derived.Deep.DeepCutAuto
import Derived.Test.YthaampckdcimmaaDoorH2
namespace Go.Proofs.YthaampckdcimmaaDoor
open Go.ChangeShapes Go.WideShapes Go.ChangeAt Go.RowKit Go.Sort

def absI (x : Int) : Int := if x < 0 then -x else x
theorem specAbs_any (x : Int) (h1 : -9223372036854775807 ≤ x) (h2 : x ≤ 9223372036854775807) (w : World) :
    Calls Tryd.prog 84 #[.int .i64 x] w fun e w' => e = .returned (.int .i64 (absI x)) ∧ w = w' := by
  go_enter Tryd.func84, Tryd.ntmps84
  go_wp2
  all_goals
    go_ret
    exact ⟨ret_int (by unfold absI; (repeat' split) <;> omega), rfl⟩
theorem implAbs_any (x : Int) (h1 : -9223372036854775807 ≤ x) (h2 : x ≤ 9223372036854775807) (w : World) :
    Calls Tryd.prog 85 #[.int .i64 x] w fun e w' => e = .returned (.int .i64 (absI x)) ∧ w = w' := by
  go_enter Tryd.func85, Tryd.ntmps85
  go_wp2
  all_goals
    go_ret
    exact ⟨ret_int (by unfold absI; (repeat' split) <;> omega), rfl⟩
theorem implSign_any (x : Int) (w : World) :
    Calls Tryd.prog 86 #[.int .i64 x] w fun e w' => e = .returned (.int .i64 (if x < 0 then -1 else if 0 < x then 1 else 0)) ∧ w = w' := by
  go_enter Tryd.func86, Tryd.ntmps86
  go_wp2
  all_goals
    go_ret
    exact ⟨ret_int (by (repeat' split) <;> omega), rfl⟩
end Go.Proofs.YthaampckdcimmaaDoor
