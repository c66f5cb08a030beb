/- cast, and the order of lists of members, of the program. -/
import Derived.Test.YtihhpmhigmegjaaDoorRows
import Derived.Test.YtihhpmhigmegjaaDoorL0
import Derived.Test.YtihhpmhigmegjaaDoorM0
import Derived.WalkKit
import Derived.ProofKit
import Derived.OpenShut
import Derived.BigQuiet
import Derived.Outline
import Derived.WalkSpells
import Derived.WalkLawsBesides
import Derived.Deep.DeepCutAuto
import Derived.Test.YtihhpmhigmegjaaDoorJ0
import Derived.Test.YtihhpmhigmegjaaDoorI1
import Derived.Test.YtihhpmhigmegjaaDoorI3
namespace Go.Proofs.YtihhpmhigmegjaaDoor
open Go.ChangeShapes Go.WideShapes Go.ChangeAt Go.RowKit Go.Sort

theorem cmpL_lex : ∀ {I J : List Nat}, I.length = J.length → (cmpL (ints I) (ints J) < 0 ↔ lexL I J = true)
  | [], [], _ => by simp [ints, cmpL, lexL]
  | [], _ :: _, h => by simp at h
  | _ :: _, [], h => by simp at h
  | a :: I, b :: J, h => by
    have ih := cmpL_lex (I := I) (J := J) (by simpa using h)
    simp only [ints, List.map_cons, cmpL, lexL] at ih ⊢
    unfold cmpI
    by_cases h1 : a < b
    · simp [h1]
    · by_cases h2 : b < a
      · have : a ≠ b := by omega
        simp [h1, h2, this]
      · obtain rfl : a = b := by omega
        simpa using ih
theorem or_lt (I J : List Nat) : decide (orI [cmpI I.length J.length, cmpL (ints I) (ints J)] < 0) = ltI I J := by
  rw [Bool.eq_iff_iff, decide_eq_true_eq]
  unfold ltI
  by_cases h1 : I.length < J.length
  · simp [orI, cmpI, h1]
  · by_cases h2 : J.length < I.length
    · have : I.length ≠ J.length := by omega
      simp [orI, cmpI, h1, h2, this]
    · have h : I.length = J.length := by omega
      have := cmpL_lex h
      rw [show cmpI (I.length : Int) J.length = 0 by simp [cmpI, h]]
      simp only [orI, if_true]
      simp [h]
      rw [← this]
      split <;> simp_all
theorem with_mid (P R : List Bal) (b : Bal) (ch : Int) : withB (P ++ b :: R) P.length ch = P ++ b.withC ch :: R := by
  unfold withB
  induction P with
  | nil => simp [Bal.withC]
  | cons x r ih => simpa using ih
theorem cast_prog {xs : List Bal} {I : List Nat} {k : Nat} (h : k < xs.length) :
    withB (castTo xs I k ++ xs.drop k) k (-1) = castTo xs I k ++ (xs[k].withC (-1) :: xs.drop (k + 1)) ∧
    withB (castTo xs I k ++ (xs[k].withC (-1) :: xs.drop (k + 1))) k 1 = castTo xs I k ++ (xs[k].withC 1 :: xs.drop (k + 1)) := by
  have hl := castTo_len xs I k (by omega)
  have a1 := with_mid (castTo xs I k) (xs.drop (k + 1)) xs[k] (-1)
  have a2 := with_mid (castTo xs I k) (xs.drop (k + 1)) (xs[k].withC (-1)) 1
  rw [hl] at a1 a2
  exact ⟨by rw [List.drop_eq_getElem_cons h]; exact a1, a2⟩
theorem cast_next {xs : List Bal} {I : List Nat} {k : Nat} (h : k < xs.length) : castTo xs I (k + 1) ++ xs.drop (k + 1) = castTo xs I k ++ (xs[k].withC (if k ∈ I then 1 else -1) :: xs.drop (k + 1)) := by
  rw [castTo_step h, List.append_assoc]; rfl
set_option maxRecDepth 100000 in
set_option maxHeartbeats 1000000 in
theorem cast_any (xs : List Bal) (I : List Nat) (hxs : xs.length ≤ 10) (hI : I.length ≤ 10) (A A' : Option Addr) (c c' : Nat) (hA : A = none → c = 0) (w : World) (hr : Reads w w.heap.size 3 A xs.length (baC xs)) (hr' : Reads w w.heap.size 1 A' I.length (inC (ints I))) :
    Calls Tryd.prog 56 #[.slice A xs.length c, .slice A' I.length c'] w fun e w' => ∃ v, e = .returned v ∧ w'.ownsRow w.heap.size 32 3 v xs.length (baC (castB xs I)) ∧ Below w.heap.size w w' := by
  have HR := Lib.hid hr; clear hr
  have HR' := Lib.hid hr'; clear hr'
  go_enter Tryd.func56, Tryd.ntmps56
  go_wp2_with fail
  refine (clone_bal A xs.length c (baC xs) w HR.out (baC_one xs) (by omega) hA).mono ?_; rintro e w1 ⟨v, rfl, own, b1⟩
  obtain ⟨OV, cap, rfl, _⟩ := own_shape own
  have HO := Lib.hid own; have B1 := Lib.hid b1; clear own b1
  go_wp2_with fail
  go_loopw [11] (fun v11 wr => ∃ k : Nat, k ≤ xs.length ∧ Hid (wr.ownsRow w.heap.size 32 3 (.slice OV xs.length cap) xs.length (baC (castTo xs I k ++ xs.drop k))) ∧ Hid (Below w.heap.size w wr) ∧ v11 = .int .i64 k) (fun i _ => xs.length - (intOf i).toNat)
  case atStart => exact ⟨0, by omega, HO.out, B1.out, rfl⟩
  case round =>
    obtain ⟨k, hk, HW, BW, rfl⟩ := hrel
    by_cases hlt : k < xs.length
    · obtain ⟨g, cap', hv, hbg, hgl⟩ := HW.out.form (by omega)
      simp only [Value.slice.injEq, true_and] at hv
      obtain ⟨rfl, rfl⟩ := hv
      have hlen : (castTo xs I k ++ xs.drop k).length = xs.length := by rw [List.length_append, castTo_len xs I k hk, List.length_drop]; omega
      have q0 := HW.out.cellAt (k * 3 + 1) (by omega)
      rw [List.getElem?_eq_getElem (by rw [baC_len]; omega)] at q0
      have f0 := HW.out.frozenAt (k * 3 + 1)
      have s1 := HW.out.stored (k * 3 + 1) (.int .i64 (-1))
      rw [← baC_with _ k (-1) (by omega), (cast_prog hlt).1] at s1
      have HS := Lib.hid s1.1
      have hl2 : (castTo xs I k ++ (xs[k].withC (-1) :: xs.drop (k + 1))).length = xs.length := by simp [castTo_len xs I k hk]; omega
      have q1 := s1.1.cellAt (k * 3 + 1) (by omega)
      rw [List.getElem?_eq_getElem (by rw [baC_len]; omega)] at q1
      have f1 := s1.1.frozenAt (k * 3 + 1)
      have s2 := s1.1.stored (k * 3 + 1) (.int .i64 1)
      rw [← baC_with _ k 1 (by omega), (cast_prog hlt).2] at s2
      have HS2 := Lib.hid s2.1
      generalize (baC (castTo xs I k ++ xs.drop k))[k * 3 + 1]'(by rw [baC_len]; omega) = u0 at q0
      generalize (baC (castTo xs I k ++ (xs[k].withC (-1) :: xs.drop (k + 1))))[k * 3 + 1]'(by rw [baC_len]; omega) = u1 at q1
      clear s1 s2
      have BS := Lib.hid (BW.out.setCell (p := ⟨g, k * 3 + 1, none⟩) hbg (.int .i64 (-1)))
      have HC := Lib.hid (containsI_any (ints I) k (by rw [ints_len]; omega) A' c' (wr.setCell ⟨g, k * 3 + 1, none⟩ (.int .i64 (-1))) (by rw [ints_len]; exact (HR'.out.below BS.out).more BS.out.size))
      rw [ints_len] at HC
      have HX := Lib.hid (cast_next (I := I) hlt)
      by_cases hin : k ∈ I
      · rw [decide_eq_true (ints_mem.2 hin)] at HC
        rw [if_pos hin] at HX
        clear hin
        go_wp2_with fail
        refine HC.out.mono ?_; rintro e w' ⟨rfl, rfl⟩
        go_wp2_with fail
        go_roundw
        case rel => exact ⟨k + 1, by omega, by rw [HX.out]; exact HS2.out, BS.out.setCell (p := ⟨g, k * 3 + 1, none⟩) hbg _, by go_num⟩
        case measure => simp [intOf]; omega
      · rw [decide_eq_false (fun h => hin (ints_mem.1 h))] at HC
        rw [if_neg hin] at HX
        clear hin
        go_wp2_with fail
        refine HC.out.mono ?_; rintro e w' ⟨rfl, rfl⟩
        go_wp2_with fail
        go_roundw
        case rel => exact ⟨k + 1, by omega, by rw [HX.out]; exact HS.out, BS.out, by go_num⟩
        case measure => simp [intOf]; omega
    · obtain rfl : k = xs.length := by omega
      have HX := Lib.hid (show castTo xs I xs.length ++ xs.drop xs.length = castB xs I by rw [List.drop_length, List.append_nil]; rfl)
      go_wp2_with fail
      go_ret
      exact ⟨_, rfl, by have := HW.out; rwa [HX.out] at this, BW.out⟩
end Go.Proofs.YtihhpmhigmegjaaDoor
