/- The order of strings: general words. -/
import Derived.Test.YtaaioengebaebaaGreatDoorRows
import Derived.Test.YtaaioengebaebaaGreatDoorK8GA
import Derived.WalkKit
import Derived.ProofKit
import Derived.OpenShut
import Derived.BigQuiet
import Derived.Outline
import Derived.WalkSpells
import Derived.WalkLawsBesides
import Derived.Deep.DeepCutAuto
import Derived.Test.YtaaioengebaebaaGreatDoorK8GC
import Derived.Test.YtaaioengebaebaaGreatDoorK0
import Derived.Sort.Walk0
namespace Go.Proofs.YtaaioengebaebaaGreatDoor
open Go.ChangeShapes Go.WideShapes Go.ChangeAt Go.RowKit Go.Sort

theorem strLt_trans {a b c : ByteArray} (h1 : strLt a b = true) (h2 : strLt b c = true) : strLt a c = true := by
  unfold strLt at *
  rw [bytesLess_eq, decide_eq_true_eq] at *
  exact List.lt_trans h1 h2
theorem strLt_self (a : ByteArray) : strLt a a = false := by
  unfold strLt
  rw [bytesLess_eq, decide_eq_false_iff_not]
  exact List.lt_irrefl _
def cmpS (a b : ByteArray) : Int := Lib.compareBytes a.data.toList b.data.toList
theorem compare_less : ∀ x y : List UInt8, (Lib.compareBytes x y < 0 ↔ Op.bytesLess x y = true) ∧ (Lib.compareBytes x y = 0 ↔ x = y)
  | [], [] => by simp [Lib.compareBytes, Op.bytesLess]
  | [], _ :: _ => by simp [Lib.compareBytes, Op.bytesLess]
  | _ :: _, [] => by simp [Lib.compareBytes, Op.bytesLess]
  | a :: x, b :: y => by
    have ih := compare_less x y
    simp only [bytesLess_eq, decide_eq_true_eq] at ih ⊢
    rw [Lib.compareBytes]
    simp only [List.cons_lt_cons_iff, List.cons.injEq]
    by_cases h1 : a < b
    · have : a ≠ b := fun h => by subst h; exact absurd h1 (UInt8.lt_irrefl a)
      simp [h1, this]
    · by_cases h2 : b < a
      · have : a ≠ b := fun h => by subst h; exact absurd h2 (UInt8.lt_irrefl a)
        simp [h1, h2, this]
      · have h3 : a = b := by
          apply UInt8.toNat.inj
          rw [UInt8.lt_iff_toNat_lt] at h1 h2
          omega
        subst h3
        simp [h1, ih]
theorem cmpS_lt (a b : ByteArray) : (cmpS a b < 0) ↔ strLt a b = true := by
  unfold cmpS strLt
  rw [ByteArray.toList_eq, ByteArray.toList_eq]
  exact (compare_less _ _).1
theorem cmpS_eq (a b : ByteArray) : (cmpS a b = 0) ↔ a = b := by
  unfold cmpS
  rw [(compare_less _ _).2]
  exact ⟨fun h => str_inj (by rw [ByteArray.toList_eq, ByteArray.toList_eq]; exact h), fun h => by rw [h]⟩
theorem compareS_any (a b : ByteArray) (w : World) : Calls Tryz.prog 116 #[.string a, .string b] w fun e w' => e = .returned (.int .i64 (cmpS a b)) ∧ w = w' :=
  (Any.strings_Compare Tryz.lays106 a b w).mono fun _ _ h => ⟨h.1, h.2.symm⟩
end Go.Proofs.YtaaioengebaebaaGreatDoor
