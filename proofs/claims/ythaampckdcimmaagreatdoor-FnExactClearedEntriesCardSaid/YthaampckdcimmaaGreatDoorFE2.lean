/- Marks written into a list of these. -/
import Derived.Test.YthaampckdcimmaaGreatDoorRows
import Derived.Test.YthaampckdcimmaaGreatDoorL0
import Derived.Test.YthaampckdcimmaaGreatDoorM0
import Derived.WalkKit
import Derived.ProofKit
import Derived.OpenShut
import Derived.BigQuiet
import Derived.Outline
import Derived.WalkSpells
import Derived.WalkLawsBesides
import Derived.Deep.DeepCutAuto
import Derived.Test.YthaampckdcimmaaGreatDoorFE0
import Derived.Test.YthaampckdcimmaaGreatDoorT0
namespace Go.Proofs.YthaampckdcimmaaGreatDoor
open Go.ChangeShapes Go.WideShapes Go.ChangeAt Go.RowKit
set_option maxRecDepth 100000 in
set_option maxHeartbeats 1000000 in
theorem markEnt_any (cs : List Value) (base : Nat) (A : Option Addr) (n c k0 : Nat) (w : World) (hown : w.ownsRow base 28 4 (.slice A n c) n cs) (hn : n ≤ 1048576) (h0 : 1 ≤ k0) (h1 : k0 ≤ 1048576) :
    Calls Tryz.prog 24 #[.slice A n c, .int .i64 k0] w fun e w' => e = .returned (.int .i64 ((k0 + 4 * n : Nat) : Int)) ∧ w.grownBy w' (Value.ownBlock (.slice A n c)) := by
  rcases Nat.eq_zero_or_pos n with hz | hp
  · subst hz
    go_enter Tryz.func24, Tryz.ntmps24
    go_wp2_with fail
    refine wp_loop_rounds 1 ?_; rw [rounds_succ]
    go_wp2_with fail
    go_ret
    exact ⟨ret_int (by simp), World.grownBy.refl w _⟩
  · obtain ⟨g, cap, hv, hbg, hgl⟩ := hown.form hp
    simp only [Value.slice.injEq, true_and] at hv
    obtain ⟨rfl, rfl⟩ := hv
    have HO := Lib.hid hown; clear hown
    go_enter Tryz.func24, Tryz.ntmps24
    go_wp2_with fail
    go_loopw [1, 5] (fun v1 v5 wr => ∃ (k K : Nat) (cs' : List Value), k ≤ n ∧ 1 ≤ K ∧ K ≤ 5242880 ∧ Hid (K = k0 + 4 * k) ∧ Hid (wr.ownsRow base 28 4 (.slice (some ⟨g, 0, none⟩) n c) n cs') ∧ Hid (w.grownBy wr (some g)) ∧ v1 = .int .i64 K ∧ v5 = .int .i64 k) (fun _ i _ => n - (intOf i).toNat)
    case atStart => exact ⟨0, k0, cs, Nat.zero_le _, by omega, by omega, rfl, HO.out, World.grownBy.refl w _, rfl, rfl⟩
    case round =>
      obtain ⟨k, K, cs', hk, hK1, hK2, HK, HW, HG, rfl, rfl⟩ := hrel
      by_cases hlt : k < n
      · have hKn : K ≤ 1048576 + 4 * k := by have := HK.out; omega
        have MT1 := Lib.hid (fun W => markText_any K (by omega) (by omega) W)
        go_wp2_with fail
        refine (MT1.out _).mono ?_; rintro e w1 ⟨rfl, b1⟩
        have HW1 := Lib.hid (own_below HW.out b1)
        have HG1 := Lib.hid ((HG.out).trans (grown_of_below b1 (some g)))
        clear b1
        have q0 := HW1.out.cellAt (k * 4) (by have := HW1.out.1; omega)
        rw [List.getElem?_eq_getElem (by have := HW1.out.1; omega)] at q0
        have f0 := HW1.out.frozenAt (k * 4)
        have q1 := HW1.out.cellAt (k * 4 + 1) (by have := HW1.out.1; omega)
        rw [List.getElem?_eq_getElem (by have := HW1.out.1; omega)] at q1
        have f1 := HW1.out.frozenAt (k * 4 + 1)
        have q2 := HW1.out.cellAt (k * 4 + 2) (by have := HW1.out.1; omega)
        rw [List.getElem?_eq_getElem (by have := HW1.out.1; omega)] at q2
        have f2 := HW1.out.frozenAt (k * 4 + 2)
        have q3 := HW1.out.cellAt (k * 4 + 3) (by have := HW1.out.1; omega)
        rw [List.getElem?_eq_getElem (by have := HW1.out.1; omega)] at q3
        have f3 := HW1.out.frozenAt (k * 4 + 3)
        have s0 := HW1.out.stored (k * 4) (.string (mT K))
        have s1 := s0.1.stored (k * 4 + 1) (.int .i64 ((K : Int) + 1))
        have s2 := s1.1.stored (k * 4 + 2) (.int .i64 ((K : Int) + 1 + 1))
        have s3 := s2.1.stored (k * 4 + 3) (.int .i64 ((K : Int) + 1 + 1 + 1))
        have HS1 := Lib.hid s3.1; have HT1 := Lib.hid (((((HG1.out).trans s0.2).trans s1.2).trans s2.2).trans s3.2)
        clear s0 s1 s2 s3
        go_wp2_with fail
        go_roundw
        case rel => exact ⟨k + 1, K + 4, _, by omega, by omega, by omega, by have := HK.out; simp [Hid]; omega, HS1.out, HT1.out, by go_num, by go_num⟩
        case measure => simp [intOf]; omega
      · obtain rfl : k = n := by omega
        go_wp2_with fail
        go_ret
        exact ⟨ret_int (by rw [HK.out]), HG.out⟩
end Go.Proofs.YthaampckdcimmaaGreatDoor
