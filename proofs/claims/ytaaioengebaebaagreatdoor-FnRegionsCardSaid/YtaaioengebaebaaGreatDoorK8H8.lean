/- Directions, of the program. -/
import Derived.Test.YtaaioengebaebaaGreatDoorRows
import Derived.Test.YtaaioengebaebaaGreatDoorK8GA
import Derived.WalkKit
import Derived.ProofKit
import Derived.OpenShut
import Derived.BigQuiet
import Derived.Outline
import Derived.WalkSpells
import Derived.WalkLawsBesides
import Derived.Deep.DeepCutAuto
import Derived.Test.YtaaioengebaebaaGreatDoorK8H7
namespace Go.Proofs.YtaaioengebaebaaGreatDoor
open Go.ChangeShapes Go.WideShapes Go.ChangeAt Go.RowKit Go.Sort

theorem sign_pos (x : Int) (h : 0 < x) (w : World) : Calls Tryz.prog 134 #[.int .i64 x] w fun e w' => e = .returned (.int .i64 1) ∧ Below w.heap.size w w' :=
  (implSign_any x w).mono fun _ _ ⟨h1, h2⟩ => ⟨by rw [h1, if_neg (by omega), if_pos h], h2 ▸ Below.refl _ _⟩
theorem sign_neg (x : Int) (h : x < 0) (w : World) : Calls Tryz.prog 134 #[.int .i64 x] w fun e w' => e = .returned (.int .i64 (-1)) ∧ Below w.heap.size w w' :=
  (implSign_any x w).mono fun _ _ ⟨h1, h2⟩ => ⟨by rw [h1, if_pos h], h2 ▸ Below.refl _ _⟩
theorem sign_zero (w : World) : Calls Tryz.prog 134 #[.int .i64 0] w fun e w' => e = .returned (.int .i64 0) ∧ Below w.heap.size w w' :=
  (implSign_any 0 w).mono fun _ _ ⟨h1, h2⟩ => ⟨by rw [h1]; rfl, h2 ▸ Below.refl _ _⟩
theorem tab_regrown {W0 : World} {g : Nat} {t : TypeId} {cs : Array Value} (h : Blk W0 g t cs) (j : Nat) (v : Value) (hj : cs[j]? = some v) : ∀ x os, (grow (redrawn W0 x) os).cell? ⟨g, j, none⟩ = some v := cell_regrown (by rw [h.cell]; exact hj)
set_option maxRecDepth 100000 in
set_option maxHeartbeats 4000000 in
theorem implDir_any (a b c d : Int) (ha : Co a) (hb : Co b) (hc : Co c) (hd : Co d) (hne : ¬ (a = c ∧ b = d)) (w : World) :
    Calls Tryz.prog 127 #[.agg #[.int .i64 a, .int .i64 b], .agg #[.int .i64 c, .int .i64 d]] w fun e w' => e = .returned (.int .i64 (dirV (c - a) (d - b))) ∧ Below w.heap.size w w' := by
  obtain ⟨a1, a2⟩ := ha; obtain ⟨b1, b2⟩ := hb; obtain ⟨c1, c2⟩ := hc; obtain ⟨d1, d2⟩ := hd
  have e1 : IntKind.i64.wrap (c - a) = c - a := IntWalk.i64_in _ (by omega)
  have e2 : IntKind.i64.wrap (d - b) = d - b := IntWalk.i64_in _ (by omega)
  have A1 := Lib.hid (implAbs_any (c - a) (by omega) (by omega))
  have A2 := Lib.hid (implAbs_any (d - b) (by omega) (by omega))
  obtain ⟨p1, p2⟩ := absI_bd (x := c - a) (by omega) (by omega)
  obtain ⟨q1, q2⟩ := absI_bd (x := d - b) (by omega) (by omega)
  have P1 := Lib.hid (show absI (c - a) = if c - a < 0 then -(c - a) else c - a from rfl)
  have P2 := Lib.hid (show absI (d - b) = if d - b < 0 then -(d - b) else d - b from rfl)
  have KN := Lib.hid (blks_two w 32 32 #[.int .i64 a, .int .i64 b] #[.int .i64 c, .int .i64 d])
  have HX := Lib.hid (show dirV (c - a) (d - b) = if 2 * absI (c - a) < absI (d - b) then (if 0 < d - b then 0 else 4) else if 2 * absI (d - b) < absI (c - a) then (if 0 < c - a then 2 else 6) else if 0 < c - a then (if 0 < d - b then 1 else 3) else if d - b < 0 then 5 else 7 from rfl)
  have hne2 : ¬ (c - a = 0 ∧ d - b = 0) := by omega
  generalize dirV (c - a) (d - b) = r at HX ⊢
  generalize absI (c - a) = p at *
  generalize absI (d - b) = q at *
  go_enter Tryz.func127, Tryz.ntmps127
  go_upto_region 1 with (fail)
  generalize hW : (w.alloc (.cells #[.int .i64 a, .int .i64 b] 32)).alloc (.cells #[.int .i64 c, .int .i64 d] 32) = W
  obtain ⟨ka, kb, bw, hsz⟩ := KN.out W hW.symm
  clear hW hsz
  obtain ⟨x0, x1⟩ := two_regrown ka
  obtain ⟨y0, y1⟩ := two_regrown kb
  refine wp_region_quiet_below (by kernel_rfl) (by kernel_rfl) ?_; (repeat (first | go_big_quiet_step (fail))); refine wpQuiet_nil ?_; intro _ hw'; obtain ⟨⟨dq, osq⟩, rfl⟩ := hw'
  have B2 := Lib.hid (bw.trans ((below_regrown W dq osq).mono bw.size))
  generalize grow (redrawn W dq) osq = w2 at B2 ⊢
  clear x0 x1 y0 y1 ka kb bw e1 e2 hne
  have TN := Lib.hid (blks_one w2 148 #[.int .i64 5, .int .i64 4, .int .i64 3, .int .i64 6, .int .i64 0, .int .i64 2, .int .i64 7, .int .i64 0, .int .i64 1])
  obtain ⟨x, hx⟩ : ∃ x, c - a = x := ⟨_, rfl⟩
  obtain ⟨y, hy⟩ : ∃ y, d - b = y := ⟨_, rfl⟩
  rw [hx] at A1 HX P1 hne2 ⊢
  rw [hy] at A2 HX P2 hne2 ⊢
  clear hx hy
  have z0 : IntKind.i64.wrap (0 + 1) = 1 := by decide
  have z1 : IntKind.i64.wrap (1 + 1) = 2 := by decide
  have z2 : IntKind.i64.wrap (-1 + 1) = 0 := by decide
  by_cases k1 : 2 * p < q
  · rw [if_pos k1] at HX
    have hy : y < 0 ∨ 0 < y := by have := P2.out; split at this <;> omega
    by_cases k2 : 0 < y
    · rw [if_pos k2] at HX
      go_upto_region 7 with (first | (with_reducible refine (A1.out _).mono ?_; rintro e w' ⟨rfl, rfl⟩) | (with_reducible refine (A2.out _).mono ?_; rintro e w' ⟨rfl, rfl⟩) | fail)
      generalize hW : w2.alloc (.cells #[.int .i64 5, .int .i64 4, .int .i64 3, .int .i64 6, .int .i64 0, .int .i64 2, .int .i64 7, .int .i64 0, .int .i64 1] 148) = W3
      obtain ⟨kt, bt, hsz⟩ := TN.out W3 hW.symm
      clear hW hsz
      have t0 := tab_regrown kt 7 (.int .i64 0) rfl
      have r1 : ∀ e os, Calls Tryz.prog 134 #[.int .i64 y] (grow (redrawn W3 e) os) (fun e w'' => e = .returned (.int .i64 1) ∧ ∃ p : Regrown, w'' = grow (redrawn W3 p.d) p.os) := fun e os => Calls.regrown_of (sign_pos y (by omega) _)
      have r2 : ∀ e os, Calls Tryz.prog 134 #[.int .i64 0] (grow (redrawn W3 e) os) (fun e w'' => e = .returned (.int .i64 0) ∧ ∃ p : Regrown, w'' = grow (redrawn W3 p.d) p.os) := fun e os => Calls.regrown_of (sign_zero _)
      refine wp_region_quiet_below (by kernel_rfl) (by kernel_rfl) ?_; (repeat (first | go_big_quiet_step ((first | with_reducible exact r1 _ _ | with_reducible exact r2 _ _)))); refine wpQuiet_nil ?_; intro _ hw'; obtain ⟨⟨dq, osq⟩, rfl⟩ := hw'
      go_wp2_with fail
      go_ret
      exact ⟨ret_int HX.out.symm, B2.out.trans ((bt.trans ((below_regrown W3 dq osq).mono bt.size)).mono B2.out.size)⟩
    · rw [if_neg k2] at HX
      go_upto_region 7 with (first | (with_reducible refine (A1.out _).mono ?_; rintro e w' ⟨rfl, rfl⟩) | (with_reducible refine (A2.out _).mono ?_; rintro e w' ⟨rfl, rfl⟩) | fail)
      generalize hW : w2.alloc (.cells #[.int .i64 5, .int .i64 4, .int .i64 3, .int .i64 6, .int .i64 0, .int .i64 2, .int .i64 7, .int .i64 0, .int .i64 1] 148) = W3
      obtain ⟨kt, bt, hsz⟩ := TN.out W3 hW.symm
      clear hW hsz
      have t0 := tab_regrown kt 1 (.int .i64 4) rfl
      have r1 : ∀ e os, Calls Tryz.prog 134 #[.int .i64 y] (grow (redrawn W3 e) os) (fun e w'' => e = .returned (.int .i64 (-1)) ∧ ∃ p : Regrown, w'' = grow (redrawn W3 p.d) p.os) := fun e os => Calls.regrown_of (sign_neg y (by omega) _)
      have r2 : ∀ e os, Calls Tryz.prog 134 #[.int .i64 0] (grow (redrawn W3 e) os) (fun e w'' => e = .returned (.int .i64 0) ∧ ∃ p : Regrown, w'' = grow (redrawn W3 p.d) p.os) := fun e os => Calls.regrown_of (sign_zero _)
      refine wp_region_quiet_below (by kernel_rfl) (by kernel_rfl) ?_; (repeat (first | go_big_quiet_step ((first | with_reducible exact r1 _ _ | with_reducible exact r2 _ _)))); refine wpQuiet_nil ?_; intro _ hw'; obtain ⟨⟨dq, osq⟩, rfl⟩ := hw'
      go_wp2_with fail
      go_ret
      exact ⟨ret_int HX.out.symm, B2.out.trans ((bt.trans ((below_regrown W3 dq osq).mono bt.size)).mono B2.out.size)⟩
  · rw [if_neg k1] at HX
    by_cases k3 : 2 * q < p
    · rw [if_pos k3] at HX
      have hx : x < 0 ∨ 0 < x := by have := P1.out; split at this <;> omega
      by_cases k4 : 0 < x
      · rw [if_pos k4] at HX
        go_upto_region 7 with (first | (with_reducible refine (A1.out _).mono ?_; rintro e w' ⟨rfl, rfl⟩) | (with_reducible refine (A2.out _).mono ?_; rintro e w' ⟨rfl, rfl⟩) | fail)
        generalize hW : w2.alloc (.cells #[.int .i64 5, .int .i64 4, .int .i64 3, .int .i64 6, .int .i64 0, .int .i64 2, .int .i64 7, .int .i64 0, .int .i64 1] 148) = W3
        obtain ⟨kt, bt, hsz⟩ := TN.out W3 hW.symm
        clear hW hsz
        have t0 := tab_regrown kt 5 (.int .i64 2) rfl
        have r1 : ∀ e os, Calls Tryz.prog 134 #[.int .i64 0] (grow (redrawn W3 e) os) (fun e w'' => e = .returned (.int .i64 0) ∧ ∃ p : Regrown, w'' = grow (redrawn W3 p.d) p.os) := fun e os => Calls.regrown_of (sign_zero _)
        have r2 : ∀ e os, Calls Tryz.prog 134 #[.int .i64 x] (grow (redrawn W3 e) os) (fun e w'' => e = .returned (.int .i64 1) ∧ ∃ p : Regrown, w'' = grow (redrawn W3 p.d) p.os) := fun e os => Calls.regrown_of (sign_pos x (by omega) _)
        refine wp_region_quiet_below (by kernel_rfl) (by kernel_rfl) ?_; (repeat (first | go_big_quiet_step ((first | with_reducible exact r1 _ _ | with_reducible exact r2 _ _)))); refine wpQuiet_nil ?_; intro _ hw'; obtain ⟨⟨dq, osq⟩, rfl⟩ := hw'
        go_wp2_with fail
        go_ret
        exact ⟨ret_int HX.out.symm, B2.out.trans ((bt.trans ((below_regrown W3 dq osq).mono bt.size)).mono B2.out.size)⟩
      · rw [if_neg k4] at HX
        go_upto_region 7 with (first | (with_reducible refine (A1.out _).mono ?_; rintro e w' ⟨rfl, rfl⟩) | (with_reducible refine (A2.out _).mono ?_; rintro e w' ⟨rfl, rfl⟩) | fail)
        generalize hW : w2.alloc (.cells #[.int .i64 5, .int .i64 4, .int .i64 3, .int .i64 6, .int .i64 0, .int .i64 2, .int .i64 7, .int .i64 0, .int .i64 1] 148) = W3
        obtain ⟨kt, bt, hsz⟩ := TN.out W3 hW.symm
        clear hW hsz
        have t0 := tab_regrown kt 3 (.int .i64 6) rfl
        have r1 : ∀ e os, Calls Tryz.prog 134 #[.int .i64 0] (grow (redrawn W3 e) os) (fun e w'' => e = .returned (.int .i64 0) ∧ ∃ p : Regrown, w'' = grow (redrawn W3 p.d) p.os) := fun e os => Calls.regrown_of (sign_zero _)
        have r2 : ∀ e os, Calls Tryz.prog 134 #[.int .i64 x] (grow (redrawn W3 e) os) (fun e w'' => e = .returned (.int .i64 (-1)) ∧ ∃ p : Regrown, w'' = grow (redrawn W3 p.d) p.os) := fun e os => Calls.regrown_of (sign_neg x (by omega) _)
        refine wp_region_quiet_below (by kernel_rfl) (by kernel_rfl) ?_; (repeat (first | go_big_quiet_step ((first | with_reducible exact r1 _ _ | with_reducible exact r2 _ _)))); refine wpQuiet_nil ?_; intro _ hw'; obtain ⟨⟨dq, osq⟩, rfl⟩ := hw'
        go_wp2_with fail
        go_ret
        exact ⟨ret_int HX.out.symm, B2.out.trans ((bt.trans ((below_regrown W3 dq osq).mono bt.size)).mono B2.out.size)⟩
    · rw [if_neg k3] at HX
      have hxy : (x < 0 ∨ 0 < x) ∧ (y < 0 ∨ 0 < y) := by
        have h1 := P1.out
        have h2 := P2.out
        split at h1 <;> split at h2 <;> omega
      by_cases k4 : 0 < x
      · rw [if_pos k4] at HX
        by_cases k2 : 0 < y
        · rw [if_pos k2] at HX
          go_upto_region 7 with (first | (with_reducible refine (A1.out _).mono ?_; rintro e w' ⟨rfl, rfl⟩) | (with_reducible refine (A2.out _).mono ?_; rintro e w' ⟨rfl, rfl⟩) | fail)
          generalize hW : w2.alloc (.cells #[.int .i64 5, .int .i64 4, .int .i64 3, .int .i64 6, .int .i64 0, .int .i64 2, .int .i64 7, .int .i64 0, .int .i64 1] 148) = W3
          obtain ⟨kt, bt, hsz⟩ := TN.out W3 hW.symm
          clear hW hsz
          have t0 := tab_regrown kt 8 (.int .i64 1) rfl
          have r1 : ∀ e os, Calls Tryz.prog 134 #[.int .i64 y] (grow (redrawn W3 e) os) (fun e w'' => e = .returned (.int .i64 1) ∧ ∃ p : Regrown, w'' = grow (redrawn W3 p.d) p.os) := fun e os => Calls.regrown_of (sign_pos y (by omega) _)
          have r2 : ∀ e os, Calls Tryz.prog 134 #[.int .i64 x] (grow (redrawn W3 e) os) (fun e w'' => e = .returned (.int .i64 1) ∧ ∃ p : Regrown, w'' = grow (redrawn W3 p.d) p.os) := fun e os => Calls.regrown_of (sign_pos x (by omega) _)
          refine wp_region_quiet_below (by kernel_rfl) (by kernel_rfl) ?_; (repeat (first | go_big_quiet_step ((first | with_reducible exact r1 _ _ | with_reducible exact r2 _ _)))); refine wpQuiet_nil ?_; intro _ hw'; obtain ⟨⟨dq, osq⟩, rfl⟩ := hw'
          go_wp2_with fail
          go_ret
          exact ⟨ret_int HX.out.symm, B2.out.trans ((bt.trans ((below_regrown W3 dq osq).mono bt.size)).mono B2.out.size)⟩
        · rw [if_neg k2] at HX
          go_upto_region 7 with (first | (with_reducible refine (A1.out _).mono ?_; rintro e w' ⟨rfl, rfl⟩) | (with_reducible refine (A2.out _).mono ?_; rintro e w' ⟨rfl, rfl⟩) | fail)
          generalize hW : w2.alloc (.cells #[.int .i64 5, .int .i64 4, .int .i64 3, .int .i64 6, .int .i64 0, .int .i64 2, .int .i64 7, .int .i64 0, .int .i64 1] 148) = W3
          obtain ⟨kt, bt, hsz⟩ := TN.out W3 hW.symm
          clear hW hsz
          have t0 := tab_regrown kt 2 (.int .i64 3) rfl
          have r1 : ∀ e os, Calls Tryz.prog 134 #[.int .i64 y] (grow (redrawn W3 e) os) (fun e w'' => e = .returned (.int .i64 (-1)) ∧ ∃ p : Regrown, w'' = grow (redrawn W3 p.d) p.os) := fun e os => Calls.regrown_of (sign_neg y (by omega) _)
          have r2 : ∀ e os, Calls Tryz.prog 134 #[.int .i64 x] (grow (redrawn W3 e) os) (fun e w'' => e = .returned (.int .i64 1) ∧ ∃ p : Regrown, w'' = grow (redrawn W3 p.d) p.os) := fun e os => Calls.regrown_of (sign_pos x (by omega) _)
          refine wp_region_quiet_below (by kernel_rfl) (by kernel_rfl) ?_; (repeat (first | go_big_quiet_step ((first | with_reducible exact r1 _ _ | with_reducible exact r2 _ _)))); refine wpQuiet_nil ?_; intro _ hw'; obtain ⟨⟨dq, osq⟩, rfl⟩ := hw'
          go_wp2_with fail
          go_ret
          exact ⟨ret_int HX.out.symm, B2.out.trans ((bt.trans ((below_regrown W3 dq osq).mono bt.size)).mono B2.out.size)⟩
      · rw [if_neg k4] at HX
        by_cases k5 : y < 0
        · rw [if_pos k5] at HX
          go_upto_region 7 with (first | (with_reducible refine (A1.out _).mono ?_; rintro e w' ⟨rfl, rfl⟩) | (with_reducible refine (A2.out _).mono ?_; rintro e w' ⟨rfl, rfl⟩) | fail)
          generalize hW : w2.alloc (.cells #[.int .i64 5, .int .i64 4, .int .i64 3, .int .i64 6, .int .i64 0, .int .i64 2, .int .i64 7, .int .i64 0, .int .i64 1] 148) = W3
          obtain ⟨kt, bt, hsz⟩ := TN.out W3 hW.symm
          clear hW hsz
          have t0 := tab_regrown kt 0 (.int .i64 5) rfl
          have r1 : ∀ e os, Calls Tryz.prog 134 #[.int .i64 y] (grow (redrawn W3 e) os) (fun e w'' => e = .returned (.int .i64 (-1)) ∧ ∃ p : Regrown, w'' = grow (redrawn W3 p.d) p.os) := fun e os => Calls.regrown_of (sign_neg y (by omega) _)
          have r2 : ∀ e os, Calls Tryz.prog 134 #[.int .i64 x] (grow (redrawn W3 e) os) (fun e w'' => e = .returned (.int .i64 (-1)) ∧ ∃ p : Regrown, w'' = grow (redrawn W3 p.d) p.os) := fun e os => Calls.regrown_of (sign_neg x (by omega) _)
          refine wp_region_quiet_below (by kernel_rfl) (by kernel_rfl) ?_; (repeat (first | go_big_quiet_step ((first | with_reducible exact r1 _ _ | with_reducible exact r2 _ _)))); refine wpQuiet_nil ?_; intro _ hw'; obtain ⟨⟨dq, osq⟩, rfl⟩ := hw'
          go_wp2_with fail
          go_ret
          exact ⟨ret_int HX.out.symm, B2.out.trans ((bt.trans ((below_regrown W3 dq osq).mono bt.size)).mono B2.out.size)⟩
        · rw [if_neg k5] at HX
          go_upto_region 7 with (first | (with_reducible refine (A1.out _).mono ?_; rintro e w' ⟨rfl, rfl⟩) | (with_reducible refine (A2.out _).mono ?_; rintro e w' ⟨rfl, rfl⟩) | fail)
          generalize hW : w2.alloc (.cells #[.int .i64 5, .int .i64 4, .int .i64 3, .int .i64 6, .int .i64 0, .int .i64 2, .int .i64 7, .int .i64 0, .int .i64 1] 148) = W3
          obtain ⟨kt, bt, hsz⟩ := TN.out W3 hW.symm
          clear hW hsz
          have t0 := tab_regrown kt 6 (.int .i64 7) rfl
          have r1 : ∀ e os, Calls Tryz.prog 134 #[.int .i64 y] (grow (redrawn W3 e) os) (fun e w'' => e = .returned (.int .i64 1) ∧ ∃ p : Regrown, w'' = grow (redrawn W3 p.d) p.os) := fun e os => Calls.regrown_of (sign_pos y (by omega) _)
          have r2 : ∀ e os, Calls Tryz.prog 134 #[.int .i64 x] (grow (redrawn W3 e) os) (fun e w'' => e = .returned (.int .i64 (-1)) ∧ ∃ p : Regrown, w'' = grow (redrawn W3 p.d) p.os) := fun e os => Calls.regrown_of (sign_neg x (by omega) _)
          refine wp_region_quiet_below (by kernel_rfl) (by kernel_rfl) ?_; (repeat (first | go_big_quiet_step ((first | with_reducible exact r1 _ _ | with_reducible exact r2 _ _)))); refine wpQuiet_nil ?_; intro _ hw'; obtain ⟨⟨dq, osq⟩, rfl⟩ := hw'
          go_wp2_with fail
          go_ret
          exact ⟨ret_int HX.out.symm, B2.out.trans ((bt.trans ((below_regrown W3 dq osq).mono bt.size)).mono B2.out.size)⟩
end Go.Proofs.YtaaioengebaebaaGreatDoor
