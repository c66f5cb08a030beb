/- FnVotes: the plain law. -/
import Derived.Test.YtihhpmhigmegjaaDoorRows
import Derived.Test.YtihhpmhigmegjaaDoorL0
import Derived.Test.YtihhpmhigmegjaaDoorM0
import Derived.WalkKit
import Derived.ProofKit
import Derived.OpenShut
import Derived.BigQuiet
import Derived.Outline
import Derived.WalkSpells
import Derived.WalkLawsBesides
import Derived.Deep.DeepCutAuto
import Derived.Test.YtihhpmhigmegjaaDoorK4
namespace Go.Proofs.YtihhpmhigmegjaaDoor
open Go.ChangeShapes Go.WideShapes Go.ChangeAt Go.RowKit Go.Sort

theorem car_all {xs : List Bal} (h : areB xs = true) : (carB xs 2 = true → carB xs 1 = true) ∧ (carB xs 1 = true → carB xs 0 = true) := by
  have h1 := fits_sum (fits_of h).1 1
  have h2 := fits_sum (fits_of h).1 (-1)
  have e0 := carB_eq xs 0
  have e1 := carB_eq xs 1
  have e2 := carB_eq xs 2
  rw [if_pos rfl] at e0
  rw [if_neg (by decide), if_pos rfl] at e1
  rw [if_neg (by decide), if_neg (by decide)] at e2
  rw [e0, e1, e2]
  simp only [Bool.and_eq_true, decide_eq_true_eq, beq_iff_eq]
  omega
theorem cast_mid {xs : List Bal} {y : Bal} : ∃ T R, castN xs y = T ++ y :: R ∧ ∀ b ∈ T, strLt b.name y.name = true := by
  have hT : ∀ b ∈ xs.take (posB xs y.name), strLt b.name y.name = true := by
    intro b hb
    obtain ⟨k, hk, rfl⟩ := List.mem_iff_getElem.1 hb
    rw [List.getElem_take]
    rw [List.length_take] at hk
    have hkp : k < (xs.takeWhile fun b => strLt b.name y.name).length := by
      have : k < posB xs y.name := by omega
      exact this
    exact (take_while_spec (p := fun b => strLt b.name y.name) xs).1 k (by omega) hkp
  unfold castN
  split
  · rename_i h
    unfold fndB at h
    rw [Bool.and_eq_true, decide_eq_true_eq] at h
    exact ⟨xs.take (posB xs y.name), xs.drop (posB xs y.name + 1), by rw [List.set_eq_take_append_cons_drop, if_pos h.1], hT⟩
  · exact ⟨xs.take (posB xs y.name), xs.drop (posB xs y.name), rfl, hT⟩
theorem cast_self {T R : List Bal} {y : Bal} (h : ∀ b ∈ T, strLt b.name y.name = true) : castN (T ++ y :: R) y = T ++ y :: R := by
  have hp : posB (T ++ y :: R) y.name = T.length := by
    unfold posB
    rw [List.takeWhile_append_of_pos h, List.takeWhile_cons_of_neg (by rw [strLt_self]; decide), List.append_nil]
  have hn : nmAt (T ++ y :: R) T.length = y.name := by
    unfold nmAt
    rw [List.getElem?_append_right (Nat.le_refl _), Nat.sub_self]; rfl
  have hf : fndB (T ++ y :: R) y.name = true := by
    unfold fndB
    rw [hp, hn]; simp
  unfold castN
  rw [if_pos hf, hp, List.set_append_right _ _ (Nat.le_refl _), Nat.sub_self]; rfl
theorem cast_again {xs : List Bal} {y : Bal} (h : castC xs y = 0) : castC (castL xs y) y = 0 ∧ castL (castL xs y) y = castL xs y := by
  unfold castC at h
  split at h
  · rename_i h1
    split at h
    · rename_i h2
      have hL : castL xs y = castN xs y := by unfold castL; rw [if_pos h1, if_pos h2]
      obtain ⟨T, R, e, hT⟩ := cast_mid (xs := xs) (y := y)
      have hs : castN (castN xs y) y = castN xs y := by rw [e]; exact cast_self hT
      rw [hL]
      unfold castC castL
      rw [hs, if_pos h2, if_pos h2, if_pos h2, if_pos h2]
      exact ⟨rfl, rfl⟩
    · cases h
  · cases h
end Go.Proofs.YtihhpmhigmegjaaDoor
