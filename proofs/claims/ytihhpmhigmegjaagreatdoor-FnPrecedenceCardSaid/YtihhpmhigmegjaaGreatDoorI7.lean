/- The law's helpers over slices of int64: comparison, marks. -/
import Derived.Test.YtihhpmhigmegjaaGreatDoorRows
import Derived.Test.YtihhpmhigmegjaaGreatDoorL0
import Derived.Test.YtihhpmhigmegjaaGreatDoorM0
import Derived.WalkKit
import Derived.ProofKit
import Derived.OpenShut
import Derived.BigQuiet
import Derived.Outline
import Derived.WalkSpells
import Derived.WalkLawsBesides
import Derived.Deep.DeepCutAuto
import Derived.Test.YtihhpmhigmegjaaGreatDoorI0
import Derived.Deep.QuietTactic
import Derived.Lib.Hide
namespace Go.Proofs.YtihhpmhigmegjaaGreatDoor
open Go.ChangeShapes Go.WideShapes Go.ChangeAt Go.RowKit

theorem take_step {α : Type} {xs ys : List α} {k : Nat} (hl : xs.length = ys.length) (hlt : k < xs.length) (ht : xs.take k = ys.take k) (h1 : xs[k] = ys[k]) : xs.take (k + 1) = ys.take (k + 1) := by
  rw [List.take_succ_eq_append_getElem hlt, List.take_succ_eq_append_getElem (by omega), ht, h1]

/-- n marks, the numbers from k0 on. -/
def marksI (k0 : Int) : Nat → List Int
  | 0 => []
  | n + 1 => marksI k0 n ++ [k0 + n]
theorem marksI_len (k0 : Int) (n : Nat) : (marksI k0 n).length = n := by
  induction n with
  | zero => rfl
  | succ n ih => simp [marksI, ih]
theorem marksI_get (k0 : Int) (n : Nat) : ∀ k (h : k < (marksI k0 n).length), (marksI k0 n)[k] = k0 + k := by
  induction n with
  | zero => intro k h; simp [marksI] at h
  | succ n ih =>
    intro k h
    simp only [marksI]
    by_cases hk : k < (marksI k0 n).length
    · rw [List.getElem_append_left hk]; exact ih k hk
    · have : k = n := by rw [marksI_len] at h hk; omega
      subst this
      rw [List.getElem_append_right (by rw [marksI_len]; omega)]
      simp
end Go.Proofs.YtihhpmhigmegjaaGreatDoor
