/- Marks written into a list of these. -/
import Derived.Test.YthlpclnfnfbeiaaGreatDoorRows
import Derived.Test.YthlpclnfnfbeiaaGreatDoorL0
import Derived.Test.YthlpclnfnfbeiaaGreatDoorM0
import Derived.WalkKit
import Derived.ProofKit
import Derived.OpenShut
import Derived.BigQuiet
import Derived.Outline
import Derived.WalkSpells
import Derived.WalkLawsBesides
import Derived.Deep.DeepCutAuto
import Derived.Test.YthlpclnfnfbeiaaGreatDoorFC0
import Derived.Test.YthlpclnfnfbeiaaGreatDoorT0
namespace Go.Proofs.YthlpclnfnfbeiaaGreatDoor
open Go.ChangeShapes Go.WideShapes Go.ChangeAt Go.RowKit
set_option maxRecDepth 100000 in
set_option maxHeartbeats 1000000 in
theorem markClm_any (cs : List Value) (base : Nat) (A : Option Addr) (n c k0 : Nat) (w : World) (hown : w.ownsRow base 66 7 (.slice A n c) n cs) (hn : n ≤ 1048576) (h0 : 1 ≤ k0) (h1 : k0 ≤ 1048576) :
    Calls Tryz.prog 33 #[.slice A n c, .int .i64 k0] w fun e w' => e = .returned (.int .i64 ((k0 + 7 * n : Nat) : Int)) ∧ w.grownBy w' (Value.ownBlock (.slice A n c)) := by
  rcases Nat.eq_zero_or_pos n with hz | hp
  · subst hz
    go_enter Tryz.func33, Tryz.ntmps33
    go_wp2_with fail
    refine wp_loop_rounds 1 ?_; rw [rounds_succ]
    go_wp2_with fail
    go_ret
    exact ⟨ret_int (by simp), World.grownBy.refl w _⟩
  · obtain ⟨g, cap, hv, hbg, hgl⟩ := hown.form hp
    simp only [Value.slice.injEq, true_and] at hv
    obtain ⟨rfl, rfl⟩ := hv
    have HO := Lib.hid hown; clear hown
    go_enter Tryz.func33, Tryz.ntmps33
    go_wp2_with fail
    go_loopw [1, 5] (fun v1 v5 wr => ∃ (k K : Nat) (cs' : List Value), k ≤ n ∧ 1 ≤ K ∧ K ≤ 8388608 ∧ Hid (K = k0 + 7 * k) ∧ Hid (wr.ownsRow base 66 7 (.slice (some ⟨g, 0, none⟩) n c) n cs') ∧ Hid (w.grownBy wr (some g)) ∧ v1 = .int .i64 K ∧ v5 = .int .i64 k) (fun _ i _ => n - (intOf i).toNat)
    case atStart => exact ⟨0, k0, cs, Nat.zero_le _, by omega, by omega, rfl, HO.out, World.grownBy.refl w _, rfl, rfl⟩
    case round =>
      obtain ⟨k, K, cs', hk, hK1, hK2, HK, HW, HG, rfl, rfl⟩ := hrel
      by_cases hlt : k < n
      · have hKn : K ≤ 1048576 + 7 * k := by have := HK.out; omega
        have MT1 := Lib.hid (fun W => markText_any K (by omega) (by omega) W)
        have MT2 := Lib.hid (fun W => markText_any (K + 2) (by omega) (by omega) W)
        have ek2 : ((K + 2 : Nat) : Int) = (K : Int) + 1 + 1 := by omega
        rw [ek2] at MT2
        have MT3 := Lib.hid (fun W => markText_any (K + 3) (by omega) (by omega) W)
        have ek3 : ((K + 3 : Nat) : Int) = (K : Int) + 1 + 1 + 1 := by omega
        rw [ek3] at MT3
        go_wp2_with fail
        refine (MT1.out _).mono ?_; rintro e w1 ⟨rfl, b1⟩
        have HW1 := Lib.hid (own_below HW.out b1)
        have HG1 := Lib.hid ((HG.out).trans (grown_of_below b1 (some g)))
        clear b1
        have q0 := HW1.out.cellAt (k * 7) (by have := HW1.out.1; omega)
        rw [List.getElem?_eq_getElem (by have := HW1.out.1; omega)] at q0
        have f0 := HW1.out.frozenAt (k * 7)
        have q1 := HW1.out.cellAt (k * 7 + 1) (by have := HW1.out.1; omega)
        rw [List.getElem?_eq_getElem (by have := HW1.out.1; omega)] at q1
        have f1 := HW1.out.frozenAt (k * 7 + 1)
        have s0 := HW1.out.stored (k * 7) (.string (mT K))
        have s1 := s0.1.stored (k * 7 + 1) (.int .i64 ((K : Int) + 1))
        have HS1 := Lib.hid s1.1; have HT1 := Lib.hid (((HG1.out).trans s0.2).trans s1.2)
        clear s0 s1
        go_wp2_with fail
        refine (MT2.out _).mono ?_; rintro e w2 ⟨rfl, b2⟩
        have HW2 := Lib.hid (own_below HS1.out b2)
        have HG2 := Lib.hid ((HT1.out).trans (grown_of_below b2 (some g)))
        clear b2
        have q2 := HW2.out.cellAt (k * 7 + 2) (by have := HW2.out.1; omega)
        rw [List.getElem?_eq_getElem (by have := HW2.out.1; omega)] at q2
        have f2 := HW2.out.frozenAt (k * 7 + 2)
        have s2 := HW2.out.stored (k * 7 + 2) (.string (mT (K + 2)))
        have HS2 := Lib.hid s2.1; have HT2 := Lib.hid ((HG2.out).trans s2.2)
        clear s2
        go_wp2_with fail
        refine (MT3.out _).mono ?_; rintro e w3 ⟨rfl, b3⟩
        have HW3 := Lib.hid (own_below HS2.out b3)
        have HG3 := Lib.hid ((HT2.out).trans (grown_of_below b3 (some g)))
        clear b3
        have q3 := HW3.out.cellAt (k * 7 + 3) (by have := HW3.out.1; omega)
        rw [List.getElem?_eq_getElem (by have := HW3.out.1; omega)] at q3
        have f3 := HW3.out.frozenAt (k * 7 + 3)
        have q4 := HW3.out.cellAt (k * 7 + 4) (by have := HW3.out.1; omega)
        rw [List.getElem?_eq_getElem (by have := HW3.out.1; omega)] at q4
        have f4 := HW3.out.frozenAt (k * 7 + 4)
        have q5 := HW3.out.cellAt (k * 7 + 5) (by have := HW3.out.1; omega)
        rw [List.getElem?_eq_getElem (by have := HW3.out.1; omega)] at q5
        have f5 := HW3.out.frozenAt (k * 7 + 5)
        have q6 := HW3.out.cellAt (k * 7 + 6) (by have := HW3.out.1; omega)
        rw [List.getElem?_eq_getElem (by have := HW3.out.1; omega)] at q6
        have f6 := HW3.out.frozenAt (k * 7 + 6)
        have s3 := HW3.out.stored (k * 7 + 3) (.string (mT (K + 3)))
        have s4 := s3.1.stored (k * 7 + 4) (.int .i64 ((K : Int) + 1 + 1 + 1 + 1))
        have s5 := s4.1.stored (k * 7 + 5) (.int .i64 ((K : Int) + 1 + 1 + 1 + 1 + 1))
        have s6 := s5.1.stored (k * 7 + 6) (.int .i64 ((K : Int) + 1 + 1 + 1 + 1 + 1 + 1))
        have HS3 := Lib.hid s6.1; have HT3 := Lib.hid (((((HG3.out).trans s3.2).trans s4.2).trans s5.2).trans s6.2)
        clear s3 s4 s5 s6
        go_wp2_with fail
        go_roundw
        case rel => exact ⟨k + 1, K + 7, _, by omega, by omega, by omega, by have := HK.out; simp [Hid]; omega, HS3.out, HT3.out, by go_num, by go_num⟩
        case measure => simp [intOf]; omega
      · obtain rfl : k = n := by omega
        go_wp2_with fail
        go_ret
        exact ⟨ret_int (by rw [HK.out]), HG.out⟩
end Go.Proofs.YthlpclnfnfbeiaaGreatDoor
