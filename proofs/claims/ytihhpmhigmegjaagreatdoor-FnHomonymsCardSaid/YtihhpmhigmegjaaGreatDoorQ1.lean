/- Codes of places, of the reference: l26Word, l28Direction, l28Code. -/
import Derived.Test.YtihhpmhigmegjaaGreatDoorRows
import Derived.Test.YtihhpmhigmegjaaGreatDoorL0
import Derived.Test.YtihhpmhigmegjaaGreatDoorM0
import Derived.WalkKit
import Derived.ProofKit
import Derived.OpenShut
import Derived.BigQuiet
import Derived.Outline
import Derived.WalkSpells
import Derived.WalkLawsBesides
import Derived.Deep.DeepCutAuto
import Derived.Test.YtihhpmhigmegjaaGreatDoorW2
import Derived.Test.YtihhpmhigmegjaaGreatDoorI6
import Derived.Lib.Hide
namespace Go.Proofs.YtihhpmhigmegjaaGreatDoor
open Go.ChangeShapes Go.WideShapes Go.ChangeAt Go.RowKit

/-- The words of the directions. -/
def dirsL : List ByteArray := [⟨#[110, 111, 114, 116, 104]⟩, ⟨#[110, 111, 114, 116, 104, 101, 97, 115, 116]⟩, ⟨#[101, 97, 115, 116]⟩, ⟨#[115, 111, 117, 116, 104, 101, 97, 115, 116]⟩, ⟨#[115, 111, 117, 116, 104]⟩, ⟨#[115, 111, 117, 116, 104, 119, 101, 115, 116]⟩, ⟨#[119, 101, 115, 116]⟩, ⟨#[110, 111, 114, 116, 104, 119, 101, 115, 116]⟩]
theorem dirs_len : dirsL.length = 8 := rfl
/-- The words of descriptions. -/
def ownW : List ByteArray := [⟨#[97, 116]⟩, ⟨#[110, 101, 97, 114]⟩, ⟨#[111, 102]⟩, ⟨#[98, 101, 116, 119, 101, 101, 110]⟩, ⟨#[97, 110, 100]⟩, ⟨#[109, 105, 108, 101]⟩, ⟨#[109, 105, 108, 101, 115]⟩, ⟨#[108, 101, 97, 103, 117, 101]⟩, ⟨#[108, 101, 97, 103, 117, 101, 115]⟩]
def codeW (s : ByteArray) : Bool := !(decide (0 ≤ ixS s ownW)) && (wordB s && !(decide (0 ≤ ixS s dirsL)))
theorem word_any (k : Nat) (hk : k < 8) (w : World) :
    Calls Tryz.prog 84 #[.int .i64 k] w fun e w' => e = .returned (.string (dirsL[k]'(by rw [dirs_len]; exact hk))) ∧ Below w.heap.size w w' := by
  have hk8 : k = 0 ∨ k = 1 ∨ k = 2 ∨ k = 3 ∨ k = 4 ∨ k = 5 ∨ k = 6 ∨ k = 7 := by omega
  rcases hk8 with rfl | rfl | rfl | rfl | rfl | rfl | rfl | rfl
  all_goals
    go_enter Tryz.func84, Tryz.ntmps84
    go_wp2
    go_ret
    exact ⟨rfl, by (repeat (first | exact Below.refl _ _ | assumption | refine Below.drew ?_ | refine below_drewN' ?_ _ | refine Below.alloc ?_ (by (try simp); (try omega)) _ | refine Below.setCell ?_ (by (try simp); (try omega)) _))⟩
end Go.Proofs.YtihhpmhigmegjaaGreatDoor
