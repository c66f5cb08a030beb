/- cmp.Compare over int and int64, cmp.Or over int, slices.Compare over int64. -/
import Derived.Test.YthlpclnfnfbeiaaGreatDoorRows
import Derived.Test.YthlpclnfnfbeiaaGreatDoorL0
import Derived.Test.YthlpclnfnfbeiaaGreatDoorM0
import Derived.WalkKit
import Derived.ProofKit
import Derived.OpenShut
import Derived.BigQuiet
import Derived.Outline
import Derived.WalkSpells
import Derived.WalkLawsBesides
import Derived.Deep.DeepCutAuto
import Derived.Test.YthlpclnfnfbeiaaGreatDoorI0
namespace Go.Proofs.YthlpclnfnfbeiaaGreatDoor
open Go.ChangeShapes Go.WideShapes Go.ChangeAt Go.RowKit

def cmpI (a b : Int) : Int := if a < b then -1 else if b < a then 1 else 0
theorem cmpI_bd (a b : Int) : -1 ≤ cmpI a b ∧ cmpI a b ≤ 1 := by unfold cmpI; split; omega; split <;> omega
set_option maxRecDepth 100000 in
theorem compare64_any (a b : Int) (w : World) : Calls Tryz.prog 119 #[.int .i64 a, .int .i64 b] w fun e w' => e = .returned (.int .i64 (cmpI a b)) ∧ w = w' := by
  have nan : ∀ x w, Calls Tryz.prog 146 #[.int .i64 x] w fun e w' => e = .returned (.bool false) ∧ w = w' := by
    intro x w
    go_enter Tryz.func146, Tryz.ntmps146
    go_wp2_with fail
    go_ret
    exact ⟨rfl, rfl⟩
  have HN := Lib.hid nan; clear nan
  have HC := Lib.hid (show cmpI a b = (if a < b then -1 else if b < a then 1 else 0) from rfl)
  generalize cmpI a b = r at HC
  by_cases h1 : a < b
  · have HC2 := Lib.hid (HC.out.trans (by rw [if_pos h1]))
    go_enter Tryz.func119, Tryz.ntmps119
    go_wp2_with (go_at_call 146; refine (HN.out _ _).mono ?_; rintro e w' ⟨rfl, rfl⟩)
    go_ret
    exact ⟨ret_int HC2.out.symm, rfl⟩
  · by_cases h2 : b < a
    · have HC2 := Lib.hid (HC.out.trans (by rw [if_neg h1, if_pos h2]))
      go_enter Tryz.func119, Tryz.ntmps119
      go_wp2_with (go_at_call 146; refine (HN.out _ _).mono ?_; rintro e w' ⟨rfl, rfl⟩)
      go_ret
      exact ⟨ret_int HC2.out.symm, rfl⟩
    · have HC2 := Lib.hid (HC.out.trans (by rw [if_neg h1, if_neg h2]))
      go_enter Tryz.func119, Tryz.ntmps119
      go_wp2_with (go_at_call 146; refine (HN.out _ _).mono ?_; rintro e w' ⟨rfl, rfl⟩)
      go_ret
      exact ⟨ret_int HC2.out.symm, rfl⟩
end Go.Proofs.YthlpclnfnfbeiaaGreatDoor
