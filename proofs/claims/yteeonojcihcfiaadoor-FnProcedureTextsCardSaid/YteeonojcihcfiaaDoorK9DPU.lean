/- The law of ReadProcedure returns true for every text: the walk of the law. -/
import Derived.Test.YteeonojcihcfiaaDoorRows
import Derived.Test.YteeonojcihcfiaaDoorK9GA
import Derived.WalkKit
import Derived.ProofKit
import Derived.OpenShut
import Derived.BigQuiet
import Derived.Outline
import Derived.WalkSpells
import Derived.WalkLawsBesides
import Derived.Deep.DeepCutAuto
import Derived.Test.YteeonojcihcfiaaDoorK9DPS
import Derived.Test.YteeonojcihcfiaaDoorK9C4
namespace Go.Proofs.YteeonojcihcfiaaDoor
open Go.ChangeShapes Go.WideShapes Go.ChangeAt Go.RowKit

theorem prV_len (s : ByteArray) : (prV stepR s).1.length ≤ 12 := by
  unfold prV
  split
  · simp
  · split
    · simp
    · next L _ =>
      by_cases h : isProc L = true
      · rw [if_pos h]; simp only [isProc, Bool.and_eq_true, decide_eq_true_eq] at h; dsimp only; omega
      · rw [if_neg h]; simp
theorem far_rows {a b : Value} {m : Nat} (h1 : ∀ k, a.ownBlock = some k → k < m) (h2 : ∀ k, b.ownBlock = some k → m ≤ k) : a.ownBlock = none ∨ a.ownBlock ≠ b.ownBlock := by
  cases ha : a.ownBlock with
  | none => exact .inl rfl
  | some k => exact .inr (fun h => by have := h1 k ha; have := h2 k h.symm; omega)
set_option maxRecDepth 100000 in
set_option maxHeartbeats 4000000 in
theorem lawRP_any (s : ByteArray) (hs : s.size ≤ 9223372036854775807) (w : World) (ht : Tab w) (he : Errs w) :
    Calls Tryd.prog 4 #[.string s] w fun e w' => e = .returned (.bool true) ∧ Below w.heap.size w w' := by
  by_cases hbig : (1048576 : Int) < (s.size : Int)
  · go_enter Tryd.func4, Tryd.ntmps4
    go_wp2_with fail
    go_ret
    exact ⟨rfl, Below.refl _ _⟩
  have hL0 := prV_len s
  have HS := Lib.hid (specRP_any s (by omega))
  have HI := Lib.hid (fun W (h : Below w.heap.size w W) => implRP_any s (by omega) W (ht.below h) (he.below h))
  rw [pr_same] at HI
  generalize (prV stepR s).1 = L at HS HI hL0
  generalize (prV stepR s).2 = code at HS HI
  clear ht he
  go_enter Tryd.func4, Tryd.ntmps4
  go_wp2_with fail
  refine (HS.out w).mono ?_; rintro e w1 ⟨v0, rfl, own0, b1⟩
  obtain ⟨A0, c0, rfl, _⟩ := own_shape own0
  have B1 := Lib.hid b1
  have OW1 := Lib.hid own0
  have NW := Lib.hid (fun k hk => (own_lt own0 k hk).2)
  clear own0 b1
  go_wp2_with fail
  refine (HI.out w1 B1.out).mono ?_; rintro e w2 ⟨vg, rfl, og, b2⟩
  obtain ⟨Ag, cg, rfl, _⟩ := own_shape og
  have B2 := Lib.hid (B1.out.trans (b2.mono B1.out.size))
  have OW2 := Lib.hid (own_below OW1.out b2)
  have OG2 := Lib.hid (own_mono og B1.out.size)
  have NG := Lib.hid (fun k hk => (own_lt og k hk).1)
  clear og b2
  go_wp2_with fail
  refine (eqStepS_any L L _ _ _ _ w2 (Reads.of_own OG2.out) (Reads.of_own OW2.out) (by omega)).mono ?_; rw [decide_eq_true rfl]; rintro e w3 ⟨rfl, b3⟩
  have B3 := Lib.hid (B2.out.trans (b3.mono B2.out.size))
  have OW3 := Lib.hid (own_below OW2.out b3)
  have OG3 := Lib.hid (own_below OG2.out b3)
  clear b3
  go_wp2_with fail
  refine (markStepS_any L _ _ _ _ 1 w3 OG3.out rfl (by omega) (by omega) (by omega)).mono ?_; rintro e w4 ⟨rfl, og4, g4⟩
  have B4 := Lib.hid (below_own B3.out OG3.out g4 (Nat.le_refl _) B3.out.size)
  have OW4 := Lib.hid (OW3.out.kept g4 (far_rows (m := w1.heap.size) NW.out NG.out))
  have OG4 := Lib.hid og4
  clear og4 g4
  go_wp2_with fail
  refine (heldStepS_any _ _ _ _ 1 w4 (Reads.of_own OG4.out) (by omega) (by omega) (by omega)).mono ?_; rintro e w5 ⟨rfl, rfl⟩
  go_wp2_with fail
  refine (HI.out w4 B4.out).mono ?_; rintro e w5 ⟨vh, rfl, oh, b5⟩
  obtain ⟨Ah, ch, rfl, _⟩ := own_shape oh
  have B5 := Lib.hid (B4.out.trans (b5.mono B4.out.size))
  have OW5 := Lib.hid (own_below OW4.out b5)
  have OG5 := Lib.hid (own_below OG4.out b5)
  have OH5 := Lib.hid oh
  clear oh b5
  go_wp2_with fail
  refine (eqStepS_any L L _ _ _ _ w5 (Reads.of_own OH5.out) (Reads.of_own OW5.out) (by omega)).mono ?_; rw [decide_eq_true rfl]; rintro e w6 ⟨rfl, b6⟩
  have B6 := Lib.hid (B5.out.trans (b6.mono B5.out.size))
  have OG6 := Lib.hid (own_below OG5.out b6)
  clear b6
  go_wp2_with fail
  refine (heldStepS_any _ _ _ _ 1 w6 (Reads.of_own OG6.out) (by omega) (by omega) (by omega)).mono ?_; rintro e w7 ⟨rfl, rfl⟩
  go_wp2_with fail
  go_ret
  exact ⟨rfl, B6.out⟩
end Go.Proofs.YteeonojcihcfiaaDoor
