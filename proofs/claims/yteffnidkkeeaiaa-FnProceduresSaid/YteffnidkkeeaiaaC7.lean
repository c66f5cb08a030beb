/- The reference's earliest day: the walk. -/
import Derived.Test.YteffnidkkeeaiaaRows
import Derived.Test.YteffnidkkeeaiaaL0
import Derived.Test.YteffnidkkeeaiaaM0
import Derived.WalkKit
import Derived.ProofKit
import Derived.OpenShut
import Derived.BigQuiet
import Derived.Outline
import Derived.WalkSpells
import Derived.WalkLawsBesides
import Derived.Deep.DeepCutAuto
import Derived.Test.YteffnidkkeeaiaaP4
import Derived.Test.YteffnidkkeeaiaaC5
import Derived.Test.YteffnidkkeeaiaaB8
namespace Go.Proofs.Yteffnidkkeeaiaa
open Go.ChangeShapes Go.WideShapes Go.ChangeAt Go.RowKit

theorem with_at (xs : List Stp) (A : Option Addr) (c : Nat) {d t : Int} (kind : Int) (w : World) (hd : d = t) (hr : Reads w w.heap.size 2 A xs.length (stC xs)) (hn : xs.length ≤ 1048576) :
    Calls Try.prog 66 #[.slice A xs.length c, .agg #[.int .i64 d, .int .i64 kind]] w fun e w' => ∃ A2 c2, e = .returned (.slice A2 (xs ++ [(t, kind)]).length c2) ∧ Reads w' w'.heap.size 2 A2 (xs ++ [(t, kind)]).length (stC (xs ++ [(t, kind)])) ∧ Below w.heap.size w w' ∧ (xs ++ [(t, kind)]).length ≤ c2 := by
  subst hd
  refine (with_any xs A c d kind w hr hn).mono ?_
  rintro e w' ⟨v, rfl, own, b⟩
  obtain ⟨A2, c2, rfl, hc⟩ := own_shape own
  refine ⟨A2, c2, by simp, ?_, b, by simpa using hc⟩
  have := Reads.of_own own
  simpa using this

set_option maxRecDepth 100000 in
set_option maxHeartbeats 4000000 in
theorem early_any (xs : List Stp) (day kind : Int) (A : Option Addr) (c : Nat) (w : World) (hr : Reads w w.heap.size 2 A xs.length (stC xs)) (hp : isProc xs = true) (_hd : 0 ≤ day) (hd' : day ≤ 1000000000000) (hk : 0 ≤ kind ∧ kind ≤ 7) :
    Calls Try.prog 85 #[.slice A xs.length c, .int .i64 day, .int .i64 kind] w fun e w' => e = .returned (.int .i64 (earlyS day xs kind)) ∧ Below w.heap.size w w' := by
  have hlen := isProc_len hp
  have ok := runR_ok hp
  obtain ⟨s1, s2, f0, f1, f2, f3, f4, f5⟩ := ok
  have hst : (runR xs).stage = 0 ∨ (runR xs).stage = 1 ∨ (runR xs).stage = 2 ∨ (runR xs).stage = 3 ∨ (runR xs).stage = 4 ∨ (runR xs).stage = 5 := by omega
  have hkk : kind = 0 ∨ kind = 1 ∨ kind = 2 ∨ kind = 3 ∨ kind = 4 ∨ kind = 5 ∨ kind = 6 ∨ kind = 7 := by omega
  have HP := Lib.hid hp; clear hp
  have HR := Lib.hid hr; clear hr
  obtain ⟨t, hT⟩ : ∃ t, tryD day xs kind = t := ⟨_, rfl⟩
  have HE : earlyS day xs kind = if isProc (xs ++ [(t, kind)]) = true then t else -1 := by unfold earlyS; rw [hT]
  rw [HE]
  clear HE
  obtain ⟨zs, hZ⟩ : ∃ zs, xs ++ [(t, kind)] = zs := ⟨_, rfl⟩
  have hzl : zs.length ≤ 9223372036854775807 := by rw [← hZ]; simp; omega
  rw [hZ]
  obtain ⟨b, hq⟩ : ∃ b, isProc zs = b := ⟨_, rfl⟩
  rw [hq]
  have HQ := Lib.hid hq; clear hq
  have HZ := Lib.hid hZ; clear hZ
  unfold tryD at hT
  have HT := Lib.hid hT; clear hT
  have HL := Lib.hid (fun h => last_get HP.out h)
  have hcase : ((runR xs).stage = 1 ∧ kind = 2) ∨ ((runR xs).stage = 1 ∧ kind = 3) ∨ ((runR xs).stage = 1 ∧ kind ≠ 2 ∧ kind ≠ 3) ∨ ((runR xs).stage = 3 ∧ kind = 7) ∨ ((runR xs).stage = 3 ∧ kind ≠ 7) ∨ ((runR xs).stage ≠ 1 ∧ (runR xs).stage ≠ 3) := by omega
  clear hst hkk
  by_cases hn : 0 < xs.length
  · go_enter Try.func85, Try.ntmps85
    go_wp2_with fail
    refine (run_calls _ _ _ _ HR.out (by omega)).mono ?_; rintro e w1 ⟨rfl, b1⟩
    obtain ⟨ab, ao, rfl, hadb, hcell⟩ := (HR.out.below b1).2 hn
    obtain ⟨e0, e1⟩ := stC_get xs (xs.length - 1) (by omega)
    have c0 := hcell _ _ e0
    rw [← HL.out hn] at c0
    clear hcell e0 e1
    generalize runR xs = s at *
    have hi : ((xs.length : Int) - 1) = ((xs.length - 1 : Nat) : Int) := by omega
    have HT' := HT.out
    clear HT
    have hn' : (0 : Int) < (xs.length : Int) := by omega
    have R1 := Lib.hid ((HR.out.below b1).more b1.size)
    have B1 := Lib.hid b1
    clear b1
    rcases hcase with ⟨h, rfl⟩ | ⟨h, rfl⟩ | ⟨h, n1, n2⟩ | ⟨h, rfl⟩ | ⟨h, n1⟩ | ⟨n1, n2⟩
    · simp [h, hn] at HT'
      have HT2 := Lib.hid HT'; clear HT'
      go_wp2_with fail
      all_goals
        have HT3 := HT2.out
        refine (with_at xs _ c (t := t) _ w1 (by omega) R1.out (by omega)).mono ?_
        clear HT3
        rintro e w2 ⟨A2, c2, rfl, r2, b2, _⟩
        have B2 := Lib.hid (B1.out.trans (b2.mono B1.out.size))
        rw [HZ.out] at r2 ⊢
        have R2 := Lib.hid r2
        clear r2 b2
        go_wp2_with fail
        refine (specIs_any zs _ _ _ R2.out hzl).mono ?_
        rw [HQ.out]
        rintro e w3 ⟨rfl, b3⟩
        have B3 := Lib.hid (B2.out.trans (b3.mono B2.out.size))
        clear b3
        cases b
        all_goals
          go_wp2_with fail
          go_ret
          have HT3 := HT2.out
          exact ⟨ret_int (by first | rfl | (show _ = t; omega) | (show t = _; omega) | fail), B3.out⟩
    · simp [h, hn] at HT'
      have HT2 := Lib.hid HT'; clear HT'
      go_wp2_with fail
      all_goals
        have HT3 := HT2.out
        refine (with_at xs _ c (t := t) _ w1 (by omega) R1.out (by omega)).mono ?_
        clear HT3
        rintro e w2 ⟨A2, c2, rfl, r2, b2, _⟩
        have B2 := Lib.hid (B1.out.trans (b2.mono B1.out.size))
        rw [HZ.out] at r2 ⊢
        have R2 := Lib.hid r2
        clear r2 b2
        go_wp2_with fail
        refine (specIs_any zs _ _ _ R2.out hzl).mono ?_
        rw [HQ.out]
        rintro e w3 ⟨rfl, b3⟩
        have B3 := Lib.hid (B2.out.trans (b3.mono B2.out.size))
        clear b3
        cases b
        all_goals
          go_wp2_with fail
          go_ret
          have HT3 := HT2.out
          exact ⟨ret_int (by first | rfl | (show _ = t; omega) | (show t = _; omega) | fail), B3.out⟩
    · simp [h, n1, n2, hn] at HT'
      have m1 : (kind == 2) = false := by simpa using n1
      have m2 : (kind == 3) = false := by simpa using n2
      have HT2 := Lib.hid HT'; clear HT'
      go_wp2_with fail
      all_goals
        have HT3 := HT2.out
        refine (with_at xs _ c (t := t) _ w1 (by omega) R1.out (by omega)).mono ?_
        clear HT3
        rintro e w2 ⟨A2, c2, rfl, r2, b2, _⟩
        have B2 := Lib.hid (B1.out.trans (b2.mono B1.out.size))
        rw [HZ.out] at r2 ⊢
        have R2 := Lib.hid r2
        clear r2 b2
        go_wp2_with fail
        refine (specIs_any zs _ _ _ R2.out hzl).mono ?_
        rw [HQ.out]
        rintro e w3 ⟨rfl, b3⟩
        have B3 := Lib.hid (B2.out.trans (b3.mono B2.out.size))
        clear b3
        cases b
        all_goals
          go_wp2_with fail
          go_ret
          have HT3 := HT2.out
          exact ⟨ret_int (by first | rfl | (show _ = t; omega) | (show t = _; omega) | fail), B3.out⟩
    · simp [h, hn] at HT'
      have HT2 := Lib.hid HT'; clear HT'
      go_wp2_with fail
      all_goals
        have HT3 := HT2.out
        refine (with_at xs _ c (t := t) _ w1 (by omega) R1.out (by omega)).mono ?_
        clear HT3
        rintro e w2 ⟨A2, c2, rfl, r2, b2, _⟩
        have B2 := Lib.hid (B1.out.trans (b2.mono B1.out.size))
        rw [HZ.out] at r2 ⊢
        have R2 := Lib.hid r2
        clear r2 b2
        go_wp2_with fail
        refine (specIs_any zs _ _ _ R2.out hzl).mono ?_
        rw [HQ.out]
        rintro e w3 ⟨rfl, b3⟩
        have B3 := Lib.hid (B2.out.trans (b3.mono B2.out.size))
        clear b3
        cases b
        all_goals
          go_wp2_with fail
          go_ret
          have HT3 := HT2.out
          exact ⟨ret_int (by first | rfl | (show _ = t; omega) | (show t = _; omega) | fail), B3.out⟩
    · simp [h, n1, hn] at HT'
      have HT2 := Lib.hid HT'; clear HT'
      go_wp2_with fail
      all_goals
        have HT3 := HT2.out
        refine (with_at xs _ c (t := t) _ w1 (by omega) R1.out (by omega)).mono ?_
        clear HT3
        rintro e w2 ⟨A2, c2, rfl, r2, b2, _⟩
        have B2 := Lib.hid (B1.out.trans (b2.mono B1.out.size))
        rw [HZ.out] at r2 ⊢
        have R2 := Lib.hid r2
        clear r2 b2
        go_wp2_with fail
        refine (specIs_any zs _ _ _ R2.out hzl).mono ?_
        rw [HQ.out]
        rintro e w3 ⟨rfl, b3⟩
        have B3 := Lib.hid (B2.out.trans (b3.mono B2.out.size))
        clear b3
        cases b
        all_goals
          go_wp2_with fail
          go_ret
          have HT3 := HT2.out
          exact ⟨ret_int (by first | rfl | (show _ = t; omega) | (show t = _; omega) | fail), B3.out⟩
    · simp [n1, n2, hn] at HT'
      have HT2 := Lib.hid HT'; clear HT'
      go_wp2_with fail
      all_goals
        have HT3 := HT2.out
        refine (with_at xs _ c (t := t) _ w1 (by omega) R1.out (by omega)).mono ?_
        clear HT3
        rintro e w2 ⟨A2, c2, rfl, r2, b2, _⟩
        have B2 := Lib.hid (B1.out.trans (b2.mono B1.out.size))
        rw [HZ.out] at r2 ⊢
        have R2 := Lib.hid r2
        clear r2 b2
        go_wp2_with fail
        refine (specIs_any zs _ _ _ R2.out hzl).mono ?_
        rw [HQ.out]
        rintro e w3 ⟨rfl, b3⟩
        have B3 := Lib.hid (B2.out.trans (b3.mono B2.out.size))
        clear b3
        cases b
        all_goals
          go_wp2_with fail
          go_ret
          have HT3 := HT2.out
          exact ⟨ret_int (by first | rfl | (show _ = t; omega) | (show t = _; omega) | fail), B3.out⟩
  · go_enter Try.func85, Try.ntmps85
    go_wp2_with fail
    refine (run_calls _ _ _ _ HR.out (by omega)).mono ?_; rintro e w1 ⟨rfl, b1⟩
    generalize runR xs = s at *
    have HT' := HT.out
    clear HT
    have hn' : ¬ (0 : Int) < (xs.length : Int) := by omega
    have R1 := Lib.hid ((HR.out.below b1).more b1.size)
    have B1 := Lib.hid b1
    clear b1
    rcases hcase with ⟨h, rfl⟩ | ⟨h, rfl⟩ | ⟨h, n1, n2⟩ | ⟨h, rfl⟩ | ⟨h, n1⟩ | ⟨n1, n2⟩
    · simp [h, hn] at HT'
      have HT2 := Lib.hid HT'; clear HT'
      go_wp2_with fail
      all_goals
        have HT3 := HT2.out
        refine (with_at xs _ c (t := t) _ w1 (by omega) R1.out (by omega)).mono ?_
        clear HT3
        rintro e w2 ⟨A2, c2, rfl, r2, b2, _⟩
        have B2 := Lib.hid (B1.out.trans (b2.mono B1.out.size))
        rw [HZ.out] at r2 ⊢
        have R2 := Lib.hid r2
        clear r2 b2
        go_wp2_with fail
        refine (specIs_any zs _ _ _ R2.out hzl).mono ?_
        rw [HQ.out]
        rintro e w3 ⟨rfl, b3⟩
        have B3 := Lib.hid (B2.out.trans (b3.mono B2.out.size))
        clear b3
        cases b
        all_goals
          go_wp2_with fail
          go_ret
          have HT3 := HT2.out
          exact ⟨ret_int (by first | rfl | (show _ = t; omega) | (show t = _; omega) | fail), B3.out⟩
    · simp [h, hn] at HT'
      have HT2 := Lib.hid HT'; clear HT'
      go_wp2_with fail
      all_goals
        have HT3 := HT2.out
        refine (with_at xs _ c (t := t) _ w1 (by omega) R1.out (by omega)).mono ?_
        clear HT3
        rintro e w2 ⟨A2, c2, rfl, r2, b2, _⟩
        have B2 := Lib.hid (B1.out.trans (b2.mono B1.out.size))
        rw [HZ.out] at r2 ⊢
        have R2 := Lib.hid r2
        clear r2 b2
        go_wp2_with fail
        refine (specIs_any zs _ _ _ R2.out hzl).mono ?_
        rw [HQ.out]
        rintro e w3 ⟨rfl, b3⟩
        have B3 := Lib.hid (B2.out.trans (b3.mono B2.out.size))
        clear b3
        cases b
        all_goals
          go_wp2_with fail
          go_ret
          have HT3 := HT2.out
          exact ⟨ret_int (by first | rfl | (show _ = t; omega) | (show t = _; omega) | fail), B3.out⟩
    · simp [h, n1, n2, hn] at HT'
      have m1 : (kind == 2) = false := by simpa using n1
      have m2 : (kind == 3) = false := by simpa using n2
      have HT2 := Lib.hid HT'; clear HT'
      go_wp2_with fail
      all_goals
        have HT3 := HT2.out
        refine (with_at xs _ c (t := t) _ w1 (by omega) R1.out (by omega)).mono ?_
        clear HT3
        rintro e w2 ⟨A2, c2, rfl, r2, b2, _⟩
        have B2 := Lib.hid (B1.out.trans (b2.mono B1.out.size))
        rw [HZ.out] at r2 ⊢
        have R2 := Lib.hid r2
        clear r2 b2
        go_wp2_with fail
        refine (specIs_any zs _ _ _ R2.out hzl).mono ?_
        rw [HQ.out]
        rintro e w3 ⟨rfl, b3⟩
        have B3 := Lib.hid (B2.out.trans (b3.mono B2.out.size))
        clear b3
        cases b
        all_goals
          go_wp2_with fail
          go_ret
          have HT3 := HT2.out
          exact ⟨ret_int (by first | rfl | (show _ = t; omega) | (show t = _; omega) | fail), B3.out⟩
    · simp [h, hn] at HT'
      have HT2 := Lib.hid HT'; clear HT'
      go_wp2_with fail
      all_goals
        have HT3 := HT2.out
        refine (with_at xs _ c (t := t) _ w1 (by omega) R1.out (by omega)).mono ?_
        clear HT3
        rintro e w2 ⟨A2, c2, rfl, r2, b2, _⟩
        have B2 := Lib.hid (B1.out.trans (b2.mono B1.out.size))
        rw [HZ.out] at r2 ⊢
        have R2 := Lib.hid r2
        clear r2 b2
        go_wp2_with fail
        refine (specIs_any zs _ _ _ R2.out hzl).mono ?_
        rw [HQ.out]
        rintro e w3 ⟨rfl, b3⟩
        have B3 := Lib.hid (B2.out.trans (b3.mono B2.out.size))
        clear b3
        cases b
        all_goals
          go_wp2_with fail
          go_ret
          have HT3 := HT2.out
          exact ⟨ret_int (by first | rfl | (show _ = t; omega) | (show t = _; omega) | fail), B3.out⟩
    · simp [h, n1, hn] at HT'
      have HT2 := Lib.hid HT'; clear HT'
      go_wp2_with fail
      all_goals
        have HT3 := HT2.out
        refine (with_at xs _ c (t := t) _ w1 (by omega) R1.out (by omega)).mono ?_
        clear HT3
        rintro e w2 ⟨A2, c2, rfl, r2, b2, _⟩
        have B2 := Lib.hid (B1.out.trans (b2.mono B1.out.size))
        rw [HZ.out] at r2 ⊢
        have R2 := Lib.hid r2
        clear r2 b2
        go_wp2_with fail
        refine (specIs_any zs _ _ _ R2.out hzl).mono ?_
        rw [HQ.out]
        rintro e w3 ⟨rfl, b3⟩
        have B3 := Lib.hid (B2.out.trans (b3.mono B2.out.size))
        clear b3
        cases b
        all_goals
          go_wp2_with fail
          go_ret
          have HT3 := HT2.out
          exact ⟨ret_int (by first | rfl | (show _ = t; omega) | (show t = _; omega) | fail), B3.out⟩
    · simp [n1, n2, hn] at HT'
      have HT2 := Lib.hid HT'; clear HT'
      go_wp2_with fail
      all_goals
        have HT3 := HT2.out
        refine (with_at xs _ c (t := t) _ w1 (by omega) R1.out (by omega)).mono ?_
        clear HT3
        rintro e w2 ⟨A2, c2, rfl, r2, b2, _⟩
        have B2 := Lib.hid (B1.out.trans (b2.mono B1.out.size))
        rw [HZ.out] at r2 ⊢
        have R2 := Lib.hid r2
        clear r2 b2
        go_wp2_with fail
        refine (specIs_any zs _ _ _ R2.out hzl).mono ?_
        rw [HQ.out]
        rintro e w3 ⟨rfl, b3⟩
        have B3 := Lib.hid (B2.out.trans (b3.mono B2.out.size))
        clear b3
        cases b
        all_goals
          go_wp2_with fail
          go_ret
          have HT3 := HT2.out
          exact ⟨ret_int (by first | rfl | (show _ = t; omega) | (show t = _; omega) | fail), B3.out⟩
end Go.Proofs.Yteffnidkkeeaiaa
