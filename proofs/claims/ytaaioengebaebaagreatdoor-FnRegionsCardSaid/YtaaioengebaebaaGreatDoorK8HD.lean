/- Whether a point satisfies a description: DoesSatisfy of both. -/
import Derived.Test.YtaaioengebaebaaGreatDoorRows
import Derived.Test.YtaaioengebaebaaGreatDoorK8GA
import Derived.WalkKit
import Derived.ProofKit
import Derived.OpenShut
import Derived.BigQuiet
import Derived.Outline
import Derived.WalkSpells
import Derived.WalkLawsBesides
import Derived.Deep.DeepCutAuto
import Derived.Test.YtaaioengebaebaaGreatDoorK8HC
import Derived.Deep.RegionHeld3
import Derived.Deep.AppendLies
namespace Go.Proofs.YtaaioengebaebaaGreatDoor
open Go.ChangeShapes Go.WideShapes Go.ChangeAt Go.RowKit Go.Sort

theorem szSiTo_le (xs : List Sit) : ∀ left, -1 ≤ left → szSiTo left xs ≤ left := by
  induction xs with
  | nil => intro left _; exact Int.le_refl _
  | cons b r ih =>
    intro left h
    rw [szSiTo]
    split
    · exact h
    · have := ih (left - b.name.size) (by omega)
      omega
theorem szSi_all {xs : List Sit} (h : 0 ≤ szSi xs) : xs.length ≤ 1048576 ∧ (∀ b ∈ xs, b.name.size ≤ 1048576) ∧ szSi xs ≤ 1048576 := by
  obtain ⟨h1, h2⟩ := szSi_pos h
  refine ⟨h1, h2, ?_⟩
  unfold szSi at h ⊢
  split
  · omega
  · have := szSiTo_le xs (1048576 - xs.length) (by omega)
    omega
theorem codeS_zero {xs : List Sit} {ds : List Dsc} {ok : Bool} (h : codeS xs ds ok = 0) : areS xs = true ∧ ok = true ∧ (∀ d ∈ ds, isD d = true ∧ 0 ≤ sitIx d.a xs ∧ (d.kind = 3 → 0 ≤ sitIx d.b xs)) ∧ ds.length ≤ 8 := by
  unfold codeS at h
  split at h
  · rename_i h1
    split at h
    · cases h
    · rename_i h2
      split at h
      · cases h
      · rename_i h3
        simp only [Bool.and_eq_true, List.all_eq_true] at h1
        refine ⟨h1.1, h1.2.1, fun d hd => ?_, by omega⟩
        have hi := h1.2.2 d hd
        have hm : missD xs d = false := by
          cases hq : missD xs d with
          | false => rfl
          | true => exact absurd (List.any_eq_true.2 ⟨d, hd, hq⟩) h2
        simp only [missD, Bool.or_eq_false_iff, decide_eq_false_iff_not] at hm
        refine ⟨hi, by omega, fun hk => ?_⟩
        have hb := isD_b3 hi hk
        have h5 := hm.2
        rw [decide_eq_false hb] at h5
        simp only [Bool.not_false, Bool.true_and, decide_eq_false_iff_not] at h5
        omega
  · cases h
theorem new_dsc (W : World) (d : Dsc) (hd : d.Ok) (t : TypeId) : HasDsc (W.alloc (.cells #[.int .i64 d.kind, .int .i64 d.count, .string d.unit, .int .i64 d.dir, .string d.a, .string d.b] t)) [d] (some ⟨W.heap.size, 0, none⟩) :=
  ⟨⟨rfl, fun _ => ⟨W.heap.size, 0, rfl, by simp, fun j u hu => by
    rw [Nat.zero_add, (Blk.new W t #[.int .i64 d.kind, .int .i64 d.count, .string d.unit, .int .i64 d.dir, .string d.a, .string d.b]).cell]
    simpa [dsC, Dsc.cells] using hu⟩⟩, by simp, fun b hb => by simp at hb; subst hb; exact hd⟩
/-- What DoesSatisfy returns. -/
def doesT (xs : List Sit) (d : Dsc) (px py : Int) : Bool × Int := if codeS xs [d] (ptB px py) = 0 then (satV xs d px py, 0) else (false, codeS xs [d] (ptB px py))
theorem ptB_co {x y : Int} (h : ptB x y = true) : Co x ∧ Co y := by
  simp only [ptB, inB, Bool.and_eq_true, decide_eq_true_eq] at h
  exact ⟨by unfold Co; omega, by unfold Co; omega⟩
end Go.Proofs.YtaaioengebaebaaGreatDoor
