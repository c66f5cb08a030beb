/- The program's AreBallots. -/
import Derived.Test.YtihhpmhigmegjaaDoorRows
import Derived.Test.YtihhpmhigmegjaaDoorL0
import Derived.Test.YtihhpmhigmegjaaDoorM0
import Derived.WalkKit
import Derived.ProofKit
import Derived.OpenShut
import Derived.BigQuiet
import Derived.Outline
import Derived.WalkSpells
import Derived.WalkLawsBesides
import Derived.Deep.DeepCutAuto
import Derived.Test.YtihhpmhigmegjaaDoorV1
import Derived.Lib.QuietBelow
import Derived.Deep.QuietTactic
import Derived.IntWalk
namespace Go.Proofs.YtihhpmhigmegjaaDoor
open Go.ChangeShapes Go.WideShapes Go.ChangeAt Go.RowKit Go.Sort

set_option maxRecDepth 100000 in
theorem isBal_any (b : Bal) (hs : b.name.size ≤ 9223372036854775807) (w : World) :
    Calls Tryd.prog 47 #[b.val] w fun e w' => e = .returned (.bool (balB b)) ∧ Below w.heap.size w w' := by
  obtain ⟨name, choice, weight⟩ := b
  unfold Bal.val
  dsimp only at hs ⊢
  cases q1 : wordB name
  · have HQ := Lib.hid q1; clear q1
    go_enter Tryd.func47, Tryd.ntmps47
    go_wp2_with fail
    refine (implWord_any name _ hs).mono ?_; rw [HQ.out]; rintro e w1 ⟨rfl, b1⟩
    go_wp2_with fail
    go_ret
    exact ⟨ret_bool (by rw [balB, HQ.out]; rfl), ((Below.refl _ _).alloc (Nat.le_refl _) _).trans (b1.mono (by simp))⟩
  · have HQ := Lib.hid q1; clear q1
    cases q2 : inB choice (-1) 1
    · have HQ2 := Lib.hid q2; clear q2
      go_enter Tryd.func47, Tryd.ntmps47
      go_wp2_with fail
      refine (implWord_any name _ hs).mono ?_; rw [HQ.out]; rintro e w1 ⟨rfl, b1⟩
      obtain ⟨h1, h2⟩ := bcell b1
      go_wp2_with fail
      refine (within_any _ _ _ _).mono ?_; rw [HQ2.out]; rintro e w' ⟨rfl, rfl⟩
      go_wp2_with fail
      go_ret
      exact ⟨ret_bool (by rw [balB, HQ.out]; dsimp only; rw [HQ2.out]; rfl), ((Below.refl _ _).alloc (Nat.le_refl _) _).trans (b1.mono (by simp))⟩
    · have HQ2 := Lib.hid q2; clear q2
      go_enter Tryd.func47, Tryd.ntmps47
      go_wp2_with fail
      refine (implWord_any name _ hs).mono ?_; rw [HQ.out]; rintro e w1 ⟨rfl, b1⟩
      obtain ⟨h1, h2⟩ := bcell b1
      go_wp2_with fail
      refine (within_any _ _ _ _).mono ?_; rw [HQ2.out]; rintro e w' ⟨rfl, rfl⟩
      go_wp2_with fail
      refine (within_any _ _ _ _).mono ?_; rintro e w' ⟨rfl, rfl⟩
      go_wp2_with fail
      go_ret
      exact ⟨ret_bool (by rw [balB, HQ.out]; dsimp only; rw [HQ2.out]; rfl), ((Below.refl _ _).alloc (Nat.le_refl _) _).trans (b1.mono (by simp))⟩

set_option maxRecDepth 100000 in
set_option maxHeartbeats 4000000 in
theorem implAre_any (xs : List Bal) (A : Option Addr) (c : Nat) (w : World) (hr : Reads w w.heap.size 3 A xs.length (baC xs)) (hm : xs.length ≤ 9223372036854775807) (hn : ∀ b ∈ xs, b.name.size ≤ 9223372036854775807) :
    Calls Tryd.prog 18 #[.slice A xs.length c] w fun e w' => e = .returned (.bool (areB xs)) ∧ Below w.heap.size w w' := by
  have HR := Lib.hid hr; clear hr
  have HN := Lib.hid hn; clear hn
  go_enter Tryd.func18, Tryd.ntmps18
  go_wp2_with fail
  go_loopw [7] (fun v7 wr => ∃ k : Nat, k ≤ xs.length ∧ Hid (areTo xs k = true) ∧ Hid (Below w.heap.size w wr) ∧ v7 = .int .i64 k) (fun i _ => xs.length - (intOf i).toNat)
  case atStart => exact ⟨0, by omega, rfl, Below.refl _ _, rfl⟩
  case round =>
    obtain ⟨k, hk, HT, BW, rfl⟩ := hrel
    by_cases hlt : k < xs.length
    · obtain ⟨ab, ao, rfl, hadb, hcell⟩ := (HR.out.below BW.out).2 (by omega)
      obtain ⟨e0, e1, e2⟩ := baC_get xs k hlt
      have c0 := hcell _ _ e0
      have c1 := hcell _ _ e1
      have c2 := hcell _ _ e2
      rw [← Nat.add_assoc] at c1 c2
      have HC := Lib.hid hcell
      clear hcell e0 e1 e2
      have hsz := HN.out xs[k] (List.getElem_mem hlt)
      have HG := Lib.hid (show goodAt xs k = (balB xs[k] && ordB xs k xs[k]) by rw [goodAt, List.getElem?_eq_getElem hlt])
      generalize xs[k] = b at c0 c1 c2 hsz HG
      have T3 := Lib.hid (three_new wr 32 (.string b.name) (.int .i64 b.choice) (.int .i64 b.weight))
      go_upto_region 4 with (fail)
      generalize hW : wr.alloc (.cells #[.string b.name, .int .i64 b.choice, .int .i64 b.weight] 32) = W0
      obtain ⟨hb, _, k0, k1, k2⟩ := T3.out W0 hW.symm
      clear hW c0 c1 c2
      have HB := Lib.hid hb; clear hb
      have r1 : ∀ d os, Calls Tryd.prog 47 #[.agg #[.string b.name, .int .i64 b.choice, .int .i64 b.weight]] (grow (redrawn W0 d) os) (fun e w'' => e = .returned (.bool (balB b)) ∧ ∃ p : Regrown, w'' = grow (redrawn W0 p.d) p.os) := fun d os => Calls.regrown_of (isBal_any b hsz _)
      cases q1 : balB b
      · have HF := Lib.hid (are_bad hlt (HG.out.trans (by rw [q1]; rfl)))
        rw [q1] at r1
        clear q1
        refine wp_region_quiet_below (by kernel_rfl) (by kernel_rfl) ?_; (repeat (first | go_big_quiet_step ((first | with_reducible exact r1 _ _)))); refine wpQuiet_nil ?_; intro _ hw'; obtain ⟨⟨dq, osq⟩, rfl⟩ := hw'
        go_wp2_with fail
        go_ret
        exact ⟨ret_bool HF.out.symm, BW.out.trans ((HB.out.trans ((below_regrown W0 dq osq).mono HB.out.size)).mono BW.out.size)⟩
      · have HBal := Lib.hid q1
        rw [q1] at r1
        clear q1
        by_cases hk0 : k = 0
        · subst hk0
          have HT1 := Lib.hid (show areTo xs (0 + 1) = true by rw [areTo, HG.out, HBal.out]; rfl)
          refine wp_region_quiet_below (by kernel_rfl) (by kernel_rfl) ?_; (repeat (first | go_big_quiet_step ((first | with_reducible exact r1 _ _)))); refine wpQuiet_nil ?_; intro _ hw'; obtain ⟨⟨dq, osq⟩, rfl⟩ := hw'
          go_wp2_with fail
          go_roundw
          case rel => exact ⟨0 + 1, by omega, HT1, BW.out.trans ((HB.out.trans ((below_regrown W0 dq osq).mono HB.out.size)).mono BW.out.size), by go_num⟩
          case measure => simp [intOf]; omega
        · obtain ⟨j, rfl⟩ : ∃ j, k = j + 1 := ⟨k - 1, by omega⟩
          have hj : j < xs.length := by omega
          obtain ⟨p, hp⟩ : ∃ p, xs[j] = p := ⟨_, rfl⟩
          have cp := cell_regrown ((HC.out _ _ (baC_get xs j hj).1 |> fun h => (Below.cell HB.out (p := ⟨ab, ao + j * 3, none⟩) (Nat.lt_of_lt_of_le hadb BW.out.size)).trans h))
          rw [hp] at cp
          have HO := Lib.hid (show ordB xs (j + 1) b = strLt p.name b.name by rw [ordB, List.getElem?_eq_getElem hj, hp])
          clear hp
          have z1 : (0 : Int) < (j : Int) + 1 := by omega
          have z2 : IntKind.i64.wrap ((j : Int) + 1 - 1) = (j : Int) := (IntWalk.i64_in _ (by omega)).trans (by omega)
          have z3 : IntKind.i64.wrap (j : Int) = (j : Int) := IntWalk.i64_in _ (by omega)
          have z4 : (0 : Int) ≤ (j : Int) := by omega
          have z5 : (j : Int) < (xs.length : Int) := by omega
          cases q4 : Op.bytesLess p.name.toList b.name.toList
          · have HF := Lib.hid (are_bad hlt (HG.out.trans (by rw [HO.out, strLt, q4, Bool.and_false])))
            refine wp_region_quiet_below (by kernel_rfl) (by kernel_rfl) ?_; (repeat (first | go_big_quiet_step ((first | with_reducible exact r1 _ _)))); refine wpQuiet_nil ?_; intro _ hw'; obtain ⟨⟨dq, osq⟩, rfl⟩ := hw'
            go_wp2_with fail
            go_ret
            exact ⟨ret_bool HF.out.symm, BW.out.trans ((HB.out.trans ((below_regrown W0 dq osq).mono HB.out.size)).mono BW.out.size)⟩
          · have HT1 := Lib.hid (show areTo xs (j + 1 + 1) = true by rw [areTo, HT.out, HG.out, HBal.out, HO.out, strLt, q4]; rfl)
            refine wp_region_quiet_below (by kernel_rfl) (by kernel_rfl) ?_; (repeat (first | go_big_quiet_step ((first | with_reducible exact r1 _ _)))); refine wpQuiet_nil ?_; intro _ hw'; obtain ⟨⟨dq, osq⟩, rfl⟩ := hw'
            go_wp2_with fail
            go_roundw
            case rel => exact ⟨j + 1 + 1, by omega, HT1, BW.out.trans ((HB.out.trans ((below_regrown W0 dq osq).mono HB.out.size)).mono BW.out.size), by go_num⟩
            case measure => simp [intOf]; omega
    · obtain rfl : k = xs.length := by omega
      have HE := Lib.hid (show areB xs = decide ((xs.length : Int) ≤ 10) by rw [areB, HT.out, Bool.true_and])
      go_wp2_with fail
      go_ret
      exact ⟨ret_bool HE.out.symm, BW.out⟩
end Go.Proofs.YtihhpmhigmegjaaDoor
