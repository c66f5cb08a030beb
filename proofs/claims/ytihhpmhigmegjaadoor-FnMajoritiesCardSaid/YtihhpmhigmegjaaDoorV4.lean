/- HasQuorum, of the reference and of the program. -/
import Derived.Test.YtihhpmhigmegjaaDoorRows
import Derived.Test.YtihhpmhigmegjaaDoorL0
import Derived.Test.YtihhpmhigmegjaaDoorM0
import Derived.WalkKit
import Derived.ProofKit
import Derived.OpenShut
import Derived.BigQuiet
import Derived.Outline
import Derived.WalkSpells
import Derived.WalkLawsBesides
import Derived.Deep.DeepCutAuto
import Derived.Test.YtihhpmhigmegjaaDoorV3
import Derived.Lib.Hide
namespace Go.Proofs.YtihhpmhigmegjaaDoor
open Go.ChangeShapes Go.WideShapes Go.ChangeAt Go.RowKit

def quoT (xs : List Bal) (t p : Int) : Array Value :=
  if areB xs = true then (if (inB t 0 1000 && inB p 0 100) = true then #[.bool (decide (p * t ≤ 100 * (sumB xs 1 + sumB xs 0 + sumB xs (-1)))), .int .i64 0] else #[.bool false, .int .i64 2]) else #[.bool false, .int .i64 1]
theorem quo_yes {xs : List Bal} {t p : Int} (h : areB xs = true) (h1 : inB t 0 1000 = true) (h2 : inB p 0 100 = true) : quoT xs t p = #[.bool (decide (p * t ≤ 100 * (sumB xs 1 + sumB xs 0 + sumB xs (-1)))), .int .i64 0] := by simp [quoT, h, h1, h2]
theorem quo_range {xs : List Bal} {t p : Int} (h : areB xs = true) (h1 : (inB t 0 1000 && inB p 0 100) = false) : quoT xs t p = #[.bool false, .int .i64 2] := by simp only [quoT, h, if_true, h1]; rfl
theorem quo_no {xs : List Bal} {t p : Int} (h : areB xs = false) : quoT xs t p = #[.bool false, .int .i64 1] := by simp [quoT, h]
theorem prod_bd {t p : Int} (h1 : inB t 0 1000 = true) (h2 : inB p 0 100 = true) : 0 ≤ p * t ∧ p * t ≤ 100000 := by
  simp [inB] at h1 h2
  have := Int.mul_le_mul h2.2 h1.2 h1.1 (by omega : (0 : Int) ≤ 100)
  have := Int.mul_nonneg h2.1 h1.1
  omega
set_option maxRecDepth 100000 in
set_option maxHeartbeats 1000000 in
theorem specQuo_any (xs : List Bal) (t p : Int) (A : Option Addr) (c : Nat) (w : World) (h : HasBal w xs A) :
    Calls Tryd.prog 16 #[.slice A xs.length c, .int .i64 t, .int .i64 p] w fun e w' => e = .returned (.tuple (quoT xs t p)) ∧ Below w.heap.size w w' := by
  have H := Lib.hid h; clear h
  cases ha : areB xs
  · have HT := Lib.hid (quo_no (t := t) (p := p) ha)
    have HC := Lib.hid (show vcodeB xs 0 = 1 by rw [vcodeB, ha]; rfl)
    clear ha
    go_enter Tryd.func16, Tryd.ntmps16
    go_wp2_with fail
    refine (specCode_any xs _ _ _ _ H.out).mono ?_; rw [HC.out]; rintro e w1 ⟨rfl, b1⟩
    go_wp2_with fail
    go_ret2
    exact ⟨by rw [HT.out]; rfl, b1⟩
  · have HC := Lib.hid (show vcodeB xs 0 = 0 by rw [vcodeB, ha]; rfl)
    have HF := Lib.hid (fits_of ha).1
    have HA := Lib.hid ha; clear ha
    cases h1 : inB t 0 1000
    · have HT := Lib.hid (quo_range (t := t) (p := p) HA.out (by rw [h1]; rfl))
      have HI := Lib.hid h1; clear h1
      go_enter Tryd.func16, Tryd.ntmps16
      go_wp2_with fail
      refine (specCode_any xs _ _ _ _ H.out).mono ?_; rw [HC.out]; rintro e w1 ⟨rfl, b1⟩
      go_wp2_with fail
      refine (specIn_any _ _ _ _).mono ?_; rw [HI.out]; rintro e w' ⟨rfl, rfl⟩
      go_wp2_with fail
      go_ret2
      exact ⟨by rw [HT.out]; rfl, b1⟩
    · cases h2 : inB p 0 100
      · have HT := Lib.hid (quo_range (t := t) (p := p) HA.out (by rw [h1, h2]; rfl))
        have HI := Lib.hid h1; clear h1
        have HI2 := Lib.hid h2; clear h2
        go_enter Tryd.func16, Tryd.ntmps16
        go_wp2_with fail
        refine (specCode_any xs _ _ _ _ H.out).mono ?_; rw [HC.out]; rintro e w1 ⟨rfl, b1⟩
        go_wp2_with fail
        refine (specIn_any _ _ _ _).mono ?_; rw [HI.out]; rintro e w' ⟨rfl, rfl⟩
        go_wp2_with fail
        refine (specIn_any _ _ _ _).mono ?_; rw [HI2.out]; rintro e w' ⟨rfl, rfl⟩
        go_wp2_with fail
        go_ret2
        exact ⟨by rw [HT.out]; rfl, b1⟩
      · have HT := Lib.hid (quo_yes (t := t) (p := p) HA.out h1 h2)
        have hp := prod_bd h1 h2
        have HI := Lib.hid h1; clear h1
        have HI2 := Lib.hid h2; clear h2
        have s1 := fits_sum HF.out 1
        have s2 := fits_sum HF.out 0
        have s3 := fits_sum HF.out (-1)
        have S1 := Lib.hid (fun w hr => specSum_any xs 1 HF.out A c w hr)
        have S2 := Lib.hid (fun w hr => specSum_any xs 0 HF.out A c w hr)
        have S3 := Lib.hid (fun w hr => specSum_any xs (-1) HF.out A c w hr)
        generalize sumB xs 1 = f at s1 S1 HT
        generalize sumB xs 0 = g at s2 S2 HT
        generalize sumB xs (-1) = k at s3 S3 HT
        generalize quoT xs t p = q at HT ⊢
        go_enter Tryd.func16, Tryd.ntmps16
        go_wp2_with fail
        refine (specCode_any xs _ _ _ _ H.out).mono ?_; rw [HC.out]; rintro e w1 ⟨rfl, b1⟩
        have H1 := Lib.hid (H.out.below b1)
        go_wp2_with fail
        refine (specIn_any _ _ _ _).mono ?_; rw [HI.out]; rintro e w' ⟨rfl, rfl⟩
        go_wp2_with fail
        refine (specIn_any _ _ _ _).mono ?_; rw [HI2.out]; rintro e w' ⟨rfl, rfl⟩
        go_wp2_with fail
        refine (S1.out _ H1.out.1).mono ?_; rintro e w' ⟨rfl, rfl⟩
        go_wp2_with fail
        refine (S2.out _ H1.out.1).mono ?_; rintro e w' ⟨rfl, rfl⟩
        go_wp2_with fail
        refine (S3.out _ H1.out.1).mono ?_; rintro e w' ⟨rfl, rfl⟩
        go_wp2_with fail
        go_ret2
        exact ⟨by rw [HT.out]; rfl, b1⟩
set_option maxRecDepth 100000 in
set_option maxHeartbeats 1000000 in
theorem implQuo_any (xs : List Bal) (t p : Int) (A : Option Addr) (c : Nat) (w : World) (h : HasBal w xs A) :
    Calls Tryd.prog 15 #[.slice A xs.length c, .int .i64 t, .int .i64 p] w fun e w' => e = .returned (.tuple (quoT xs t p)) ∧ Below w.heap.size w w' := by
  have H := Lib.hid h; clear h
  cases ha : areB xs
  · have HT := Lib.hid (quo_no (t := t) (p := p) ha)
    have HA := Lib.hid ha; clear ha
    go_enter Tryd.func15, Tryd.ntmps15
    go_wp2_with fail
    refine (implAre_any xs _ _ _ H.out.1 H.out.2.1 H.out.2.2).mono ?_; rw [HA.out]; rintro e w1 ⟨rfl, b1⟩
    go_wp2_with fail
    go_ret2
    exact ⟨by rw [HT.out]; rfl, b1⟩
  · have HF := Lib.hid (fits_of ha).1
    have HA := Lib.hid ha; clear ha
    cases h1 : inB t 0 1000
    · have HT := Lib.hid (quo_range (t := t) (p := p) HA.out (by rw [h1]; rfl))
      have HI := Lib.hid h1; clear h1
      go_enter Tryd.func15, Tryd.ntmps15
      go_wp2_with fail
      refine (implAre_any xs _ _ _ H.out.1 H.out.2.1 H.out.2.2).mono ?_; rw [HA.out]; rintro e w1 ⟨rfl, b1⟩
      go_wp2_with fail
      refine (within_any _ _ _ _).mono ?_; rw [HI.out]; rintro e w' ⟨rfl, rfl⟩
      go_wp2_with fail
      go_ret2
      exact ⟨by rw [HT.out]; rfl, b1⟩
    · cases h2 : inB p 0 100
      · have HT := Lib.hid (quo_range (t := t) (p := p) HA.out (by rw [h1, h2]; rfl))
        have HI := Lib.hid h1; clear h1
        have HI2 := Lib.hid h2; clear h2
        go_enter Tryd.func15, Tryd.ntmps15
        go_wp2_with fail
        refine (implAre_any xs _ _ _ H.out.1 H.out.2.1 H.out.2.2).mono ?_; rw [HA.out]; rintro e w1 ⟨rfl, b1⟩
        go_wp2_with fail
        refine (within_any _ _ _ _).mono ?_; rw [HI.out]; rintro e w' ⟨rfl, rfl⟩
        go_wp2_with fail
        refine (within_any _ _ _ _).mono ?_; rw [HI2.out]; rintro e w' ⟨rfl, rfl⟩
        go_wp2_with fail
        go_ret2
        exact ⟨by rw [HT.out]; rfl, b1⟩
      · have HT := Lib.hid (quo_yes (t := t) (p := p) HA.out h1 h2)
        have hp := prod_bd h1 h2
        have HI := Lib.hid h1; clear h1
        have HI2 := Lib.hid h2; clear h2
        have s1 := fits_sum HF.out 1
        have s2 := fits_sum HF.out 0
        have s3 := fits_sum HF.out (-1)
        have S1 := Lib.hid (fun w hr => implSum_any xs 1 HF.out A c w hr)
        have S2 := Lib.hid (fun w hr => implSum_any xs 0 HF.out A c w hr)
        have S3 := Lib.hid (fun w hr => implSum_any xs (-1) HF.out A c w hr)
        have HT2 := Lib.hid (HT.out.trans (by rw [show sumB xs 1 + sumB xs 0 + sumB xs (-1) = sumB xs 1 + sumB xs (-1) + sumB xs 0 by omega]))
        clear HT
        generalize sumB xs 1 = f at s1 S1 HT2
        generalize sumB xs 0 = g at s2 S2 HT2
        generalize sumB xs (-1) = k at s3 S3 HT2
        generalize quoT xs t p = q at HT2 ⊢
        go_enter Tryd.func15, Tryd.ntmps15
        go_wp2_with fail
        refine (implAre_any xs _ _ _ H.out.1 H.out.2.1 H.out.2.2).mono ?_; rw [HA.out]; rintro e w1 ⟨rfl, b1⟩
        have H1 := Lib.hid (H.out.below b1)
        have B1 := Lib.hid b1; clear b1
        go_wp2_with fail
        refine (within_any _ _ _ _).mono ?_; rw [HI.out]; rintro e w' ⟨rfl, rfl⟩
        go_wp2_with fail
        refine (within_any _ _ _ _).mono ?_; rw [HI2.out]; rintro e w' ⟨rfl, rfl⟩
        go_wp2_with fail
        refine (S1.out _ H1.out.1).mono ?_; rintro e w2 ⟨rfl, b2⟩
        have H2 := Lib.hid (H1.out.below b2)
        have B2 := Lib.hid (B1.out.trans (b2.mono B1.out.size)); clear b2
        go_wp2_with fail
        refine (S3.out _ H2.out.1).mono ?_; rintro e w3 ⟨rfl, b3⟩
        have H3 := Lib.hid (H2.out.below b3)
        have B3 := Lib.hid (B2.out.trans (b3.mono B2.out.size)); clear b3
        go_wp2_with fail
        refine (S2.out _ H3.out.1).mono ?_; rintro e w4 ⟨rfl, b4⟩
        have B4 := Lib.hid (B3.out.trans (b4.mono B3.out.size)); clear b4
        go_wp2_with fail
        go_ret2
        exact ⟨by rw [HT2.out]; rfl, B4.out⟩
end Go.Proofs.YtihhpmhigmegjaaDoor
