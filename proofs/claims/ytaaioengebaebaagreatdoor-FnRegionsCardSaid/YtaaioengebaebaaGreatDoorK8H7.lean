/- Directions, of the reference and of the program. -/
import Derived.Test.YtaaioengebaebaaGreatDoorRows
import Derived.Test.YtaaioengebaebaaGreatDoorK8GA
import Derived.WalkKit
import Derived.ProofKit
import Derived.OpenShut
import Derived.BigQuiet
import Derived.Outline
import Derived.WalkSpells
import Derived.WalkLawsBesides
import Derived.Deep.DeepCutAuto
import Derived.Test.YtaaioengebaebaaGreatDoorK8H3
namespace Go.Proofs.YtaaioengebaebaaGreatDoor
open Go.ChangeShapes Go.WideShapes Go.ChangeAt Go.RowKit Go.Sort

def dirV (x y : Int) : Int := if 2 * absI x < absI y then (if 0 < y then 0 else 4) else if 2 * absI y < absI x then (if 0 < x then 2 else 6) else if 0 < x then (if 0 < y then 1 else 3) else if y < 0 then 5 else 7
theorem absI_bd {x : Int} (h1 : -6000 ≤ x) (h2 : x ≤ 6000) : 0 ≤ absI x ∧ absI x ≤ 6000 := by unfold absI; split <;> omega
theorem dirV_bd (x y : Int) : 0 ≤ dirV x y ∧ dirV x y ≤ 7 := by unfold dirV; (repeat' split) <;> omega
theorem two_regrown {W0 : World} {g : Nat} {t : TypeId} {a b : Value} (h : Blk W0 g t #[a, b]) :
    (∀ x os, (grow (redrawn W0 x) os).cell? ⟨g, 0, none⟩ = some a) ∧ (∀ x os, (grow (redrawn W0 x) os).cell? ⟨g, 1, none⟩ = some b) := by
  obtain ⟨h0, h1⟩ := cells_2 h
  exact ⟨cell_regrown h0, cell_regrown h1⟩
set_option maxRecDepth 100000 in
set_option maxHeartbeats 2000000 in
theorem specDir_any (a b c d : Int) (ha : Co a) (hb : Co b) (hc : Co c) (hd : Co d) (w : World) :
    Calls Tryz.prog 110 #[.agg #[.int .i64 a, .int .i64 b], .agg #[.int .i64 c, .int .i64 d]] w fun e w' => e = .returned (.int .i64 (dirV (c - a) (d - b))) ∧ Below w.heap.size w w' := by
  obtain ⟨a1, a2⟩ := ha; obtain ⟨b1, b2⟩ := hb; obtain ⟨c1, c2⟩ := hc; obtain ⟨d1, d2⟩ := hd
  have e1 : IntKind.i64.wrap (c - a) = c - a := IntWalk.i64_in _ (by omega)
  have e2 : IntKind.i64.wrap (d - b) = d - b := IntWalk.i64_in _ (by omega)
  have A1 := Lib.hid (specAbs_any (c - a) (by omega) (by omega))
  have A2 := Lib.hid (specAbs_any (d - b) (by omega) (by omega))
  obtain ⟨p1, p2⟩ := absI_bd (x := c - a) (by omega) (by omega)
  obtain ⟨q1, q2⟩ := absI_bd (x := d - b) (by omega) (by omega)
  have KN := Lib.hid (blks_two w 32 32 #[.int .i64 a, .int .i64 b] #[.int .i64 c, .int .i64 d])
  have HX := Lib.hid (show dirV (c - a) (d - b) = if 2 * absI (c - a) < absI (d - b) then (if 0 < d - b then 0 else 4) else if 2 * absI (d - b) < absI (c - a) then (if 0 < c - a then 2 else 6) else if 0 < c - a then (if 0 < d - b then 1 else 3) else if d - b < 0 then 5 else 7 from rfl)
  generalize dirV (c - a) (d - b) = r at HX ⊢
  generalize absI (c - a) = p at *
  generalize absI (d - b) = q at *
  go_enter Tryz.func110, Tryz.ntmps110
  go_upto_region 1 with (fail)
  generalize hW : (w.alloc (.cells #[.int .i64 a, .int .i64 b] 32)).alloc (.cells #[.int .i64 c, .int .i64 d] 32) = W
  obtain ⟨ka, kb, bw, hsz⟩ := KN.out W hW.symm
  clear hW hsz
  obtain ⟨x0, x1⟩ := two_regrown ka
  obtain ⟨y0, y1⟩ := two_regrown kb
  refine wp_region_quiet_below (by kernel_rfl) (by kernel_rfl) ?_; (repeat (first | go_big_quiet_step (fail))); refine wpQuiet_nil ?_; intro _ hw'; obtain ⟨⟨dq, osq⟩, rfl⟩ := hw'
  have B2 := Lib.hid (bw.trans ((below_regrown W dq osq).mono bw.size))
  generalize grow (redrawn W dq) osq = w2 at B2 ⊢
  clear x0 x1 y0 y1 ka kb bw e1 e2
  obtain ⟨x, hx⟩ : ∃ x, c - a = x := ⟨_, rfl⟩
  obtain ⟨y, hy⟩ : ∃ y, d - b = y := ⟨_, rfl⟩
  rw [hx] at A1 HX ⊢
  rw [hy] at A2 HX ⊢
  clear hx hy
  by_cases k1 : 2 * p < q
  · rw [if_pos k1] at HX
    by_cases k2 : 0 < y
    · rw [if_pos k2] at HX
      go_wp2_with (first | (with_reducible refine (A1.out _).mono ?_; rintro e w' ⟨rfl, rfl⟩) | (with_reducible refine (A2.out _).mono ?_; rintro e w' ⟨rfl, rfl⟩) | fail)
      go_ret
      exact ⟨ret_int HX.out.symm, B2.out⟩
    · rw [if_neg k2] at HX
      go_wp2_with (first | (with_reducible refine (A1.out _).mono ?_; rintro e w' ⟨rfl, rfl⟩) | (with_reducible refine (A2.out _).mono ?_; rintro e w' ⟨rfl, rfl⟩) | fail)
      go_ret
      exact ⟨ret_int HX.out.symm, B2.out⟩
  · rw [if_neg k1] at HX
    by_cases k3 : 2 * q < p
    · rw [if_pos k3] at HX
      by_cases k4 : 0 < x
      · rw [if_pos k4] at HX
        go_wp2_with (first | (with_reducible refine (A1.out _).mono ?_; rintro e w' ⟨rfl, rfl⟩) | (with_reducible refine (A2.out _).mono ?_; rintro e w' ⟨rfl, rfl⟩) | fail)
        go_ret
        exact ⟨ret_int HX.out.symm, B2.out⟩
      · rw [if_neg k4] at HX
        go_wp2_with (first | (with_reducible refine (A1.out _).mono ?_; rintro e w' ⟨rfl, rfl⟩) | (with_reducible refine (A2.out _).mono ?_; rintro e w' ⟨rfl, rfl⟩) | fail)
        go_ret
        exact ⟨ret_int HX.out.symm, B2.out⟩
    · rw [if_neg k3] at HX
      by_cases k4 : 0 < x
      · rw [if_pos k4] at HX
        by_cases k2 : 0 < y
        · rw [if_pos k2] at HX
          go_wp2_with (first | (with_reducible refine (A1.out _).mono ?_; rintro e w' ⟨rfl, rfl⟩) | (with_reducible refine (A2.out _).mono ?_; rintro e w' ⟨rfl, rfl⟩) | fail)
          go_ret
          exact ⟨ret_int HX.out.symm, B2.out⟩
        · rw [if_neg k2] at HX
          go_wp2_with (first | (with_reducible refine (A1.out _).mono ?_; rintro e w' ⟨rfl, rfl⟩) | (with_reducible refine (A2.out _).mono ?_; rintro e w' ⟨rfl, rfl⟩) | fail)
          go_ret
          exact ⟨ret_int HX.out.symm, B2.out⟩
      · rw [if_neg k4] at HX
        by_cases k5 : y < 0
        · rw [if_pos k5] at HX
          go_wp2_with (first | (with_reducible refine (A1.out _).mono ?_; rintro e w' ⟨rfl, rfl⟩) | (with_reducible refine (A2.out _).mono ?_; rintro e w' ⟨rfl, rfl⟩) | fail)
          go_ret
          exact ⟨ret_int HX.out.symm, B2.out⟩
        · rw [if_neg k5] at HX
          go_wp2_with (first | (with_reducible refine (A1.out _).mono ?_; rintro e w' ⟨rfl, rfl⟩) | (with_reducible refine (A2.out _).mono ?_; rintro e w' ⟨rfl, rfl⟩) | fail)
          go_ret
          exact ⟨ret_int HX.out.symm, B2.out⟩
end Go.Proofs.YtaaioengebaebaaGreatDoor
