/- Merged: Directions, of the reference and of the program. Directions, of the program. At the length and in the direction of a description; between two points: of the program and of the reference. Between two points: of the program and of the reference.  The order of strings: general words. Sites in order: their names; the closure of findSite and the search. Sites by their codes: l29Find of the reference, findSite of the program. PlacesUsed of both. The code of sites and descriptions, by the reference. slices.ContainsFunc over a list of these, at a closure. The code of sites and descriptions, by the program. Whether a point satisfies a description whose places are sites: of the program. Whether a point satisfies a description whose places are sites: of the reference. Whether a point satisfies a description: DoesSatisfy of both. Whether a point satisfies a description: DoesSatisfy of the program. H -/
import Derived.Test.YtnbpbidflacoiaaDoorRows
import Derived.Test.YtnbpbidflacoiaaDoorL0
import Derived.Test.YtnbpbidflacoiaaDoorM0
import Derived.WalkKit
import Derived.ProofKit
import Derived.OpenShut
import Derived.BigQuiet
import Derived.Outline
import Derived.WalkSpells
import Derived.WalkLawsBesides
import Derived.Deep.DeepCutAuto
import Derived.Test.YtnbpbidflacoiaaDoorH3
import Derived.Test.YtnbpbidflacoiaaDoorFA
import Derived.Test.YtnbpbidflacoiaaDoorQ6
import Derived.Test.YtnbpbidflacoiaaDoorR2
import Derived.Ground.NamesProg
import Derived.Shelf.Small.Strs
import Derived.Test.YtnbpbidflacoiaaDoorI6
import Derived.Sort.Walk0
import Derived.Test.YtnbpbidflacoiaaDoorR1
import Derived.Lib.QuietBelow
import Derived.Deep.QuietTactic
import Derived.StillTailTactics
import Derived.IntWalk
import Derived.Test.YtnbpbidflacoiaaDoorR4
import Derived.Test.YtnbpbidflacoiaaDoorQ7
import Derived.Lib.Hide
import Derived.Test.YtnbpbidflacoiaaDoorFD0
import Derived.Test.YtnbpbidflacoiaaDoorQ5
import Derived.Deep.RegionHeld3
import Derived.Deep.AppendLies
import Derived.Test.YtnbpbidflacoiaaDoorZJ
namespace Go.Proofs.YtnbpbidflacoiaaDoor
open Go.ChangeShapes Go.WideShapes Go.ChangeAt Go.RowKit Go.Sort

def dirV (x y : Int) : Int := if 2 * absI x < absI y then (if 0 < y then 0 else 4) else if 2 * absI y < absI x then (if 0 < x then 2 else 6) else if 0 < x then (if 0 < y then 1 else 3) else if y < 0 then 5 else 7
theorem absI_bd {x : Int} (h1 : -6000 ≤ x) (h2 : x ≤ 6000) : 0 ≤ absI x ∧ absI x ≤ 6000 := by unfold absI; split <;> omega
theorem dirV_bd (x y : Int) : 0 ≤ dirV x y ∧ dirV x y ≤ 7 := by unfold dirV; (repeat' split) <;> omega
theorem two_regrown {W0 : World} {g : Nat} {t : TypeId} {a b : Value} (h : Blk W0 g t #[a, b]) :
    (∀ x os, (grow (redrawn W0 x) os).cell? ⟨g, 0, none⟩ = some a) ∧ (∀ x os, (grow (redrawn W0 x) os).cell? ⟨g, 1, none⟩ = some b) := by
  obtain ⟨h0, h1⟩ := cells_2 h
  exact ⟨cell_regrown h0, cell_regrown h1⟩
set_option maxRecDepth 100000 in
set_option maxHeartbeats 2000000 in
theorem specDir_any (a b c d : Int) (ha : Co a) (hb : Co b) (hc : Co c) (hd : Co d) (w : World) :
    Calls Tryd.prog 94 #[.agg #[.int .i64 a, .int .i64 b], .agg #[.int .i64 c, .int .i64 d]] w fun e w' => e = .returned (.int .i64 (dirV (c - a) (d - b))) ∧ Below w.heap.size w w' := by
  obtain ⟨a1, a2⟩ := ha; obtain ⟨b1, b2⟩ := hb; obtain ⟨c1, c2⟩ := hc; obtain ⟨d1, d2⟩ := hd
  have e1 : IntKind.i64.wrap (c - a) = c - a := IntWalk.i64_in _ (by omega)
  have e2 : IntKind.i64.wrap (d - b) = d - b := IntWalk.i64_in _ (by omega)
  have A1 := Lib.hid (specAbs_any (c - a) (by omega) (by omega))
  have A2 := Lib.hid (specAbs_any (d - b) (by omega) (by omega))
  obtain ⟨p1, p2⟩ := absI_bd (x := c - a) (by omega) (by omega)
  obtain ⟨q1, q2⟩ := absI_bd (x := d - b) (by omega) (by omega)
  have KN := Lib.hid (blks_two w 52 52 #[.int .i64 a, .int .i64 b] #[.int .i64 c, .int .i64 d])
  have HX := Lib.hid (show dirV (c - a) (d - b) = if 2 * absI (c - a) < absI (d - b) then (if 0 < d - b then 0 else 4) else if 2 * absI (d - b) < absI (c - a) then (if 0 < c - a then 2 else 6) else if 0 < c - a then (if 0 < d - b then 1 else 3) else if d - b < 0 then 5 else 7 from rfl)
  generalize dirV (c - a) (d - b) = r at HX ⊢
  generalize absI (c - a) = p at *
  generalize absI (d - b) = q at *
  go_enter Tryd.func94, Tryd.ntmps94
  go_upto_region 1 with (fail)
  generalize hW : (w.alloc (.cells #[.int .i64 a, .int .i64 b] 52)).alloc (.cells #[.int .i64 c, .int .i64 d] 52) = W
  obtain ⟨ka, kb, bw, hsz⟩ := KN.out W hW.symm
  clear hW hsz
  obtain ⟨x0, x1⟩ := two_regrown ka
  obtain ⟨y0, y1⟩ := two_regrown kb
  refine wp_region_quiet_below (by kernel_rfl) (by kernel_rfl) ?_; (repeat (first | go_big_quiet_step (fail))); refine wpQuiet_nil ?_; intro _ hw'; obtain ⟨⟨dq, osq⟩, rfl⟩ := hw'
  have B2 := Lib.hid (bw.trans ((below_regrown W dq osq).mono bw.size))
  generalize grow (redrawn W dq) osq = w2 at B2 ⊢
  clear x0 x1 y0 y1 ka kb bw e1 e2
  obtain ⟨x, hx⟩ : ∃ x, c - a = x := ⟨_, rfl⟩
  obtain ⟨y, hy⟩ : ∃ y, d - b = y := ⟨_, rfl⟩
  rw [hx] at A1 HX ⊢
  rw [hy] at A2 HX ⊢
  clear hx hy
  by_cases k1 : 2 * p < q
  · rw [if_pos k1] at HX
    by_cases k2 : 0 < y
    · rw [if_pos k2] at HX
      go_wp2_with (first | (with_reducible refine (A1.out _).mono ?_; rintro e w' ⟨rfl, rfl⟩) | (with_reducible refine (A2.out _).mono ?_; rintro e w' ⟨rfl, rfl⟩) | fail)
      go_ret
      exact ⟨ret_int HX.out.symm, B2.out⟩
    · rw [if_neg k2] at HX
      go_wp2_with (first | (with_reducible refine (A1.out _).mono ?_; rintro e w' ⟨rfl, rfl⟩) | (with_reducible refine (A2.out _).mono ?_; rintro e w' ⟨rfl, rfl⟩) | fail)
      go_ret
      exact ⟨ret_int HX.out.symm, B2.out⟩
  · rw [if_neg k1] at HX
    by_cases k3 : 2 * q < p
    · rw [if_pos k3] at HX
      by_cases k4 : 0 < x
      · rw [if_pos k4] at HX
        go_wp2_with (first | (with_reducible refine (A1.out _).mono ?_; rintro e w' ⟨rfl, rfl⟩) | (with_reducible refine (A2.out _).mono ?_; rintro e w' ⟨rfl, rfl⟩) | fail)
        go_ret
        exact ⟨ret_int HX.out.symm, B2.out⟩
      · rw [if_neg k4] at HX
        go_wp2_with (first | (with_reducible refine (A1.out _).mono ?_; rintro e w' ⟨rfl, rfl⟩) | (with_reducible refine (A2.out _).mono ?_; rintro e w' ⟨rfl, rfl⟩) | fail)
        go_ret
        exact ⟨ret_int HX.out.symm, B2.out⟩
    · rw [if_neg k3] at HX
      by_cases k4 : 0 < x
      · rw [if_pos k4] at HX
        by_cases k2 : 0 < y
        · rw [if_pos k2] at HX
          go_wp2_with (first | (with_reducible refine (A1.out _).mono ?_; rintro e w' ⟨rfl, rfl⟩) | (with_reducible refine (A2.out _).mono ?_; rintro e w' ⟨rfl, rfl⟩) | fail)
          go_ret
          exact ⟨ret_int HX.out.symm, B2.out⟩
        · rw [if_neg k2] at HX
          go_wp2_with (first | (with_reducible refine (A1.out _).mono ?_; rintro e w' ⟨rfl, rfl⟩) | (with_reducible refine (A2.out _).mono ?_; rintro e w' ⟨rfl, rfl⟩) | fail)
          go_ret
          exact ⟨ret_int HX.out.symm, B2.out⟩
      · rw [if_neg k4] at HX
        by_cases k5 : y < 0
        · rw [if_pos k5] at HX
          go_wp2_with (first | (with_reducible refine (A1.out _).mono ?_; rintro e w' ⟨rfl, rfl⟩) | (with_reducible refine (A2.out _).mono ?_; rintro e w' ⟨rfl, rfl⟩) | fail)
          go_ret
          exact ⟨ret_int HX.out.symm, B2.out⟩
        · rw [if_neg k5] at HX
          go_wp2_with (first | (with_reducible refine (A1.out _).mono ?_; rintro e w' ⟨rfl, rfl⟩) | (with_reducible refine (A2.out _).mono ?_; rintro e w' ⟨rfl, rfl⟩) | fail)
          go_ret
          exact ⟨ret_int HX.out.symm, B2.out⟩
end Go.Proofs.YtnbpbidflacoiaaDoor
namespace Go.Proofs.YtnbpbidflacoiaaDoor
open Go.ChangeShapes Go.WideShapes Go.ChangeAt Go.RowKit Go.Sort

theorem sign_pos (x : Int) (h : 0 < x) (w : World) : Calls Tryd.prog 118 #[.int .i64 x] w fun e w' => e = .returned (.int .i64 1) ∧ Below w.heap.size w w' :=
  (implSign_any x w).mono fun _ _ ⟨h1, h2⟩ => ⟨by rw [h1, if_neg (by omega), if_pos h], h2 ▸ Below.refl _ _⟩
theorem sign_neg (x : Int) (h : x < 0) (w : World) : Calls Tryd.prog 118 #[.int .i64 x] w fun e w' => e = .returned (.int .i64 (-1)) ∧ Below w.heap.size w w' :=
  (implSign_any x w).mono fun _ _ ⟨h1, h2⟩ => ⟨by rw [h1, if_pos h], h2 ▸ Below.refl _ _⟩
theorem sign_zero (w : World) : Calls Tryd.prog 118 #[.int .i64 0] w fun e w' => e = .returned (.int .i64 0) ∧ Below w.heap.size w w' :=
  (implSign_any 0 w).mono fun _ _ ⟨h1, h2⟩ => ⟨by rw [h1]; rfl, h2 ▸ Below.refl _ _⟩
theorem tab_regrown {W0 : World} {g : Nat} {t : TypeId} {cs : Array Value} (h : Blk W0 g t cs) (j : Nat) (v : Value) (hj : cs[j]? = some v) : ∀ x os, (grow (redrawn W0 x) os).cell? ⟨g, j, none⟩ = some v := cell_regrown (by rw [h.cell]; exact hj)
set_option maxRecDepth 100000 in
set_option maxHeartbeats 4000000 in
theorem implDir_any (a b c d : Int) (ha : Co a) (hb : Co b) (hc : Co c) (hd : Co d) (hne : ¬ (a = c ∧ b = d)) (w : World) :
    Calls Tryd.prog 106 #[.agg #[.int .i64 a, .int .i64 b], .agg #[.int .i64 c, .int .i64 d]] w fun e w' => e = .returned (.int .i64 (dirV (c - a) (d - b))) ∧ Below w.heap.size w w' := by
  obtain ⟨a1, a2⟩ := ha; obtain ⟨b1, b2⟩ := hb; obtain ⟨c1, c2⟩ := hc; obtain ⟨d1, d2⟩ := hd
  have e1 : IntKind.i64.wrap (c - a) = c - a := IntWalk.i64_in _ (by omega)
  have e2 : IntKind.i64.wrap (d - b) = d - b := IntWalk.i64_in _ (by omega)
  have A1 := Lib.hid (implAbs_any (c - a) (by omega) (by omega))
  have A2 := Lib.hid (implAbs_any (d - b) (by omega) (by omega))
  obtain ⟨p1, p2⟩ := absI_bd (x := c - a) (by omega) (by omega)
  obtain ⟨q1, q2⟩ := absI_bd (x := d - b) (by omega) (by omega)
  have P1 := Lib.hid (show absI (c - a) = if c - a < 0 then -(c - a) else c - a from rfl)
  have P2 := Lib.hid (show absI (d - b) = if d - b < 0 then -(d - b) else d - b from rfl)
  have KN := Lib.hid (blks_two w 52 52 #[.int .i64 a, .int .i64 b] #[.int .i64 c, .int .i64 d])
  have HX := Lib.hid (show dirV (c - a) (d - b) = if 2 * absI (c - a) < absI (d - b) then (if 0 < d - b then 0 else 4) else if 2 * absI (d - b) < absI (c - a) then (if 0 < c - a then 2 else 6) else if 0 < c - a then (if 0 < d - b then 1 else 3) else if d - b < 0 then 5 else 7 from rfl)
  have hne2 : ¬ (c - a = 0 ∧ d - b = 0) := by omega
  generalize dirV (c - a) (d - b) = r at HX ⊢
  generalize absI (c - a) = p at *
  generalize absI (d - b) = q at *
  go_enter Tryd.func106, Tryd.ntmps106
  go_upto_region 1 with (fail)
  generalize hW : (w.alloc (.cells #[.int .i64 a, .int .i64 b] 52)).alloc (.cells #[.int .i64 c, .int .i64 d] 52) = W
  obtain ⟨ka, kb, bw, hsz⟩ := KN.out W hW.symm
  clear hW hsz
  obtain ⟨x0, x1⟩ := two_regrown ka
  obtain ⟨y0, y1⟩ := two_regrown kb
  refine wp_region_quiet_below (by kernel_rfl) (by kernel_rfl) ?_; (repeat (first | go_big_quiet_step (fail))); refine wpQuiet_nil ?_; intro _ hw'; obtain ⟨⟨dq, osq⟩, rfl⟩ := hw'
  have B2 := Lib.hid (bw.trans ((below_regrown W dq osq).mono bw.size))
  generalize grow (redrawn W dq) osq = w2 at B2 ⊢
  clear x0 x1 y0 y1 ka kb bw e1 e2 hne
  have TN := Lib.hid (blks_one w2 126 #[.int .i64 5, .int .i64 4, .int .i64 3, .int .i64 6, .int .i64 0, .int .i64 2, .int .i64 7, .int .i64 0, .int .i64 1])
  obtain ⟨x, hx⟩ : ∃ x, c - a = x := ⟨_, rfl⟩
  obtain ⟨y, hy⟩ : ∃ y, d - b = y := ⟨_, rfl⟩
  rw [hx] at A1 HX P1 hne2 ⊢
  rw [hy] at A2 HX P2 hne2 ⊢
  clear hx hy
  have z0 : IntKind.i64.wrap (0 + 1) = 1 := by decide
  have z1 : IntKind.i64.wrap (1 + 1) = 2 := by decide
  have z2 : IntKind.i64.wrap (-1 + 1) = 0 := by decide
  by_cases k1 : 2 * p < q
  · rw [if_pos k1] at HX
    have hy : y < 0 ∨ 0 < y := by have := P2.out; split at this <;> omega
    by_cases k2 : 0 < y
    · rw [if_pos k2] at HX
      go_upto_region 7 with (first | (with_reducible refine (A1.out _).mono ?_; rintro e w' ⟨rfl, rfl⟩) | (with_reducible refine (A2.out _).mono ?_; rintro e w' ⟨rfl, rfl⟩) | fail)
      generalize hW : w2.alloc (.cells #[.int .i64 5, .int .i64 4, .int .i64 3, .int .i64 6, .int .i64 0, .int .i64 2, .int .i64 7, .int .i64 0, .int .i64 1] 126) = W3
      obtain ⟨kt, bt, hsz⟩ := TN.out W3 hW.symm
      clear hW hsz
      have t0 := tab_regrown kt 7 (.int .i64 0) rfl
      have r1 : ∀ e os, Calls Tryd.prog 118 #[.int .i64 y] (grow (redrawn W3 e) os) (fun e w'' => e = .returned (.int .i64 1) ∧ ∃ p : Regrown, w'' = grow (redrawn W3 p.d) p.os) := fun e os => Calls.regrown_of (sign_pos y (by omega) _)
      have r2 : ∀ e os, Calls Tryd.prog 118 #[.int .i64 0] (grow (redrawn W3 e) os) (fun e w'' => e = .returned (.int .i64 0) ∧ ∃ p : Regrown, w'' = grow (redrawn W3 p.d) p.os) := fun e os => Calls.regrown_of (sign_zero _)
      refine wp_region_quiet_below (by kernel_rfl) (by kernel_rfl) ?_; (repeat (first | go_big_quiet_step ((first | with_reducible exact r1 _ _ | with_reducible exact r2 _ _)))); refine wpQuiet_nil ?_; intro _ hw'; obtain ⟨⟨dq, osq⟩, rfl⟩ := hw'
      go_wp2_with fail
      go_ret
      exact ⟨ret_int HX.out.symm, B2.out.trans ((bt.trans ((below_regrown W3 dq osq).mono bt.size)).mono B2.out.size)⟩
    · rw [if_neg k2] at HX
      go_upto_region 7 with (first | (with_reducible refine (A1.out _).mono ?_; rintro e w' ⟨rfl, rfl⟩) | (with_reducible refine (A2.out _).mono ?_; rintro e w' ⟨rfl, rfl⟩) | fail)
      generalize hW : w2.alloc (.cells #[.int .i64 5, .int .i64 4, .int .i64 3, .int .i64 6, .int .i64 0, .int .i64 2, .int .i64 7, .int .i64 0, .int .i64 1] 126) = W3
      obtain ⟨kt, bt, hsz⟩ := TN.out W3 hW.symm
      clear hW hsz
      have t0 := tab_regrown kt 1 (.int .i64 4) rfl
      have r1 : ∀ e os, Calls Tryd.prog 118 #[.int .i64 y] (grow (redrawn W3 e) os) (fun e w'' => e = .returned (.int .i64 (-1)) ∧ ∃ p : Regrown, w'' = grow (redrawn W3 p.d) p.os) := fun e os => Calls.regrown_of (sign_neg y (by omega) _)
      have r2 : ∀ e os, Calls Tryd.prog 118 #[.int .i64 0] (grow (redrawn W3 e) os) (fun e w'' => e = .returned (.int .i64 0) ∧ ∃ p : Regrown, w'' = grow (redrawn W3 p.d) p.os) := fun e os => Calls.regrown_of (sign_zero _)
      refine wp_region_quiet_below (by kernel_rfl) (by kernel_rfl) ?_; (repeat (first | go_big_quiet_step ((first | with_reducible exact r1 _ _ | with_reducible exact r2 _ _)))); refine wpQuiet_nil ?_; intro _ hw'; obtain ⟨⟨dq, osq⟩, rfl⟩ := hw'
      go_wp2_with fail
      go_ret
      exact ⟨ret_int HX.out.symm, B2.out.trans ((bt.trans ((below_regrown W3 dq osq).mono bt.size)).mono B2.out.size)⟩
  · rw [if_neg k1] at HX
    by_cases k3 : 2 * q < p
    · rw [if_pos k3] at HX
      have hx : x < 0 ∨ 0 < x := by have := P1.out; split at this <;> omega
      by_cases k4 : 0 < x
      · rw [if_pos k4] at HX
        go_upto_region 7 with (first | (with_reducible refine (A1.out _).mono ?_; rintro e w' ⟨rfl, rfl⟩) | (with_reducible refine (A2.out _).mono ?_; rintro e w' ⟨rfl, rfl⟩) | fail)
        generalize hW : w2.alloc (.cells #[.int .i64 5, .int .i64 4, .int .i64 3, .int .i64 6, .int .i64 0, .int .i64 2, .int .i64 7, .int .i64 0, .int .i64 1] 126) = W3
        obtain ⟨kt, bt, hsz⟩ := TN.out W3 hW.symm
        clear hW hsz
        have t0 := tab_regrown kt 5 (.int .i64 2) rfl
        have r1 : ∀ e os, Calls Tryd.prog 118 #[.int .i64 0] (grow (redrawn W3 e) os) (fun e w'' => e = .returned (.int .i64 0) ∧ ∃ p : Regrown, w'' = grow (redrawn W3 p.d) p.os) := fun e os => Calls.regrown_of (sign_zero _)
        have r2 : ∀ e os, Calls Tryd.prog 118 #[.int .i64 x] (grow (redrawn W3 e) os) (fun e w'' => e = .returned (.int .i64 1) ∧ ∃ p : Regrown, w'' = grow (redrawn W3 p.d) p.os) := fun e os => Calls.regrown_of (sign_pos x (by omega) _)
        refine wp_region_quiet_below (by kernel_rfl) (by kernel_rfl) ?_; (repeat (first | go_big_quiet_step ((first | with_reducible exact r1 _ _ | with_reducible exact r2 _ _)))); refine wpQuiet_nil ?_; intro _ hw'; obtain ⟨⟨dq, osq⟩, rfl⟩ := hw'
        go_wp2_with fail
        go_ret
        exact ⟨ret_int HX.out.symm, B2.out.trans ((bt.trans ((below_regrown W3 dq osq).mono bt.size)).mono B2.out.size)⟩
      · rw [if_neg k4] at HX
        go_upto_region 7 with (first | (with_reducible refine (A1.out _).mono ?_; rintro e w' ⟨rfl, rfl⟩) | (with_reducible refine (A2.out _).mono ?_; rintro e w' ⟨rfl, rfl⟩) | fail)
        generalize hW : w2.alloc (.cells #[.int .i64 5, .int .i64 4, .int .i64 3, .int .i64 6, .int .i64 0, .int .i64 2, .int .i64 7, .int .i64 0, .int .i64 1] 126) = W3
        obtain ⟨kt, bt, hsz⟩ := TN.out W3 hW.symm
        clear hW hsz
        have t0 := tab_regrown kt 3 (.int .i64 6) rfl
        have r1 : ∀ e os, Calls Tryd.prog 118 #[.int .i64 0] (grow (redrawn W3 e) os) (fun e w'' => e = .returned (.int .i64 0) ∧ ∃ p : Regrown, w'' = grow (redrawn W3 p.d) p.os) := fun e os => Calls.regrown_of (sign_zero _)
        have r2 : ∀ e os, Calls Tryd.prog 118 #[.int .i64 x] (grow (redrawn W3 e) os) (fun e w'' => e = .returned (.int .i64 (-1)) ∧ ∃ p : Regrown, w'' = grow (redrawn W3 p.d) p.os) := fun e os => Calls.regrown_of (sign_neg x (by omega) _)
        refine wp_region_quiet_below (by kernel_rfl) (by kernel_rfl) ?_; (repeat (first | go_big_quiet_step ((first | with_reducible exact r1 _ _ | with_reducible exact r2 _ _)))); refine wpQuiet_nil ?_; intro _ hw'; obtain ⟨⟨dq, osq⟩, rfl⟩ := hw'
        go_wp2_with fail
        go_ret
        exact ⟨ret_int HX.out.symm, B2.out.trans ((bt.trans ((below_regrown W3 dq osq).mono bt.size)).mono B2.out.size)⟩
    · rw [if_neg k3] at HX
      have hxy : (x < 0 ∨ 0 < x) ∧ (y < 0 ∨ 0 < y) := by
        have h1 := P1.out
        have h2 := P2.out
        split at h1 <;> split at h2 <;> omega
      by_cases k4 : 0 < x
      · rw [if_pos k4] at HX
        by_cases k2 : 0 < y
        · rw [if_pos k2] at HX
          go_upto_region 7 with (first | (with_reducible refine (A1.out _).mono ?_; rintro e w' ⟨rfl, rfl⟩) | (with_reducible refine (A2.out _).mono ?_; rintro e w' ⟨rfl, rfl⟩) | fail)
          generalize hW : w2.alloc (.cells #[.int .i64 5, .int .i64 4, .int .i64 3, .int .i64 6, .int .i64 0, .int .i64 2, .int .i64 7, .int .i64 0, .int .i64 1] 126) = W3
          obtain ⟨kt, bt, hsz⟩ := TN.out W3 hW.symm
          clear hW hsz
          have t0 := tab_regrown kt 8 (.int .i64 1) rfl
          have r1 : ∀ e os, Calls Tryd.prog 118 #[.int .i64 y] (grow (redrawn W3 e) os) (fun e w'' => e = .returned (.int .i64 1) ∧ ∃ p : Regrown, w'' = grow (redrawn W3 p.d) p.os) := fun e os => Calls.regrown_of (sign_pos y (by omega) _)
          have r2 : ∀ e os, Calls Tryd.prog 118 #[.int .i64 x] (grow (redrawn W3 e) os) (fun e w'' => e = .returned (.int .i64 1) ∧ ∃ p : Regrown, w'' = grow (redrawn W3 p.d) p.os) := fun e os => Calls.regrown_of (sign_pos x (by omega) _)
          refine wp_region_quiet_below (by kernel_rfl) (by kernel_rfl) ?_; (repeat (first | go_big_quiet_step ((first | with_reducible exact r1 _ _ | with_reducible exact r2 _ _)))); refine wpQuiet_nil ?_; intro _ hw'; obtain ⟨⟨dq, osq⟩, rfl⟩ := hw'
          go_wp2_with fail
          go_ret
          exact ⟨ret_int HX.out.symm, B2.out.trans ((bt.trans ((below_regrown W3 dq osq).mono bt.size)).mono B2.out.size)⟩
        · rw [if_neg k2] at HX
          go_upto_region 7 with (first | (with_reducible refine (A1.out _).mono ?_; rintro e w' ⟨rfl, rfl⟩) | (with_reducible refine (A2.out _).mono ?_; rintro e w' ⟨rfl, rfl⟩) | fail)
          generalize hW : w2.alloc (.cells #[.int .i64 5, .int .i64 4, .int .i64 3, .int .i64 6, .int .i64 0, .int .i64 2, .int .i64 7, .int .i64 0, .int .i64 1] 126) = W3
          obtain ⟨kt, bt, hsz⟩ := TN.out W3 hW.symm
          clear hW hsz
          have t0 := tab_regrown kt 2 (.int .i64 3) rfl
          have r1 : ∀ e os, Calls Tryd.prog 118 #[.int .i64 y] (grow (redrawn W3 e) os) (fun e w'' => e = .returned (.int .i64 (-1)) ∧ ∃ p : Regrown, w'' = grow (redrawn W3 p.d) p.os) := fun e os => Calls.regrown_of (sign_neg y (by omega) _)
          have r2 : ∀ e os, Calls Tryd.prog 118 #[.int .i64 x] (grow (redrawn W3 e) os) (fun e w'' => e = .returned (.int .i64 1) ∧ ∃ p : Regrown, w'' = grow (redrawn W3 p.d) p.os) := fun e os => Calls.regrown_of (sign_pos x (by omega) _)
          refine wp_region_quiet_below (by kernel_rfl) (by kernel_rfl) ?_; (repeat (first | go_big_quiet_step ((first | with_reducible exact r1 _ _ | with_reducible exact r2 _ _)))); refine wpQuiet_nil ?_; intro _ hw'; obtain ⟨⟨dq, osq⟩, rfl⟩ := hw'
          go_wp2_with fail
          go_ret
          exact ⟨ret_int HX.out.symm, B2.out.trans ((bt.trans ((below_regrown W3 dq osq).mono bt.size)).mono B2.out.size)⟩
      · rw [if_neg k4] at HX
        by_cases k5 : y < 0
        · rw [if_pos k5] at HX
          go_upto_region 7 with (first | (with_reducible refine (A1.out _).mono ?_; rintro e w' ⟨rfl, rfl⟩) | (with_reducible refine (A2.out _).mono ?_; rintro e w' ⟨rfl, rfl⟩) | fail)
          generalize hW : w2.alloc (.cells #[.int .i64 5, .int .i64 4, .int .i64 3, .int .i64 6, .int .i64 0, .int .i64 2, .int .i64 7, .int .i64 0, .int .i64 1] 126) = W3
          obtain ⟨kt, bt, hsz⟩ := TN.out W3 hW.symm
          clear hW hsz
          have t0 := tab_regrown kt 0 (.int .i64 5) rfl
          have r1 : ∀ e os, Calls Tryd.prog 118 #[.int .i64 y] (grow (redrawn W3 e) os) (fun e w'' => e = .returned (.int .i64 (-1)) ∧ ∃ p : Regrown, w'' = grow (redrawn W3 p.d) p.os) := fun e os => Calls.regrown_of (sign_neg y (by omega) _)
          have r2 : ∀ e os, Calls Tryd.prog 118 #[.int .i64 x] (grow (redrawn W3 e) os) (fun e w'' => e = .returned (.int .i64 (-1)) ∧ ∃ p : Regrown, w'' = grow (redrawn W3 p.d) p.os) := fun e os => Calls.regrown_of (sign_neg x (by omega) _)
          refine wp_region_quiet_below (by kernel_rfl) (by kernel_rfl) ?_; (repeat (first | go_big_quiet_step ((first | with_reducible exact r1 _ _ | with_reducible exact r2 _ _)))); refine wpQuiet_nil ?_; intro _ hw'; obtain ⟨⟨dq, osq⟩, rfl⟩ := hw'
          go_wp2_with fail
          go_ret
          exact ⟨ret_int HX.out.symm, B2.out.trans ((bt.trans ((below_regrown W3 dq osq).mono bt.size)).mono B2.out.size)⟩
        · rw [if_neg k5] at HX
          go_upto_region 7 with (first | (with_reducible refine (A1.out _).mono ?_; rintro e w' ⟨rfl, rfl⟩) | (with_reducible refine (A2.out _).mono ?_; rintro e w' ⟨rfl, rfl⟩) | fail)
          generalize hW : w2.alloc (.cells #[.int .i64 5, .int .i64 4, .int .i64 3, .int .i64 6, .int .i64 0, .int .i64 2, .int .i64 7, .int .i64 0, .int .i64 1] 126) = W3
          obtain ⟨kt, bt, hsz⟩ := TN.out W3 hW.symm
          clear hW hsz
          have t0 := tab_regrown kt 6 (.int .i64 7) rfl
          have r1 : ∀ e os, Calls Tryd.prog 118 #[.int .i64 y] (grow (redrawn W3 e) os) (fun e w'' => e = .returned (.int .i64 1) ∧ ∃ p : Regrown, w'' = grow (redrawn W3 p.d) p.os) := fun e os => Calls.regrown_of (sign_pos y (by omega) _)
          have r2 : ∀ e os, Calls Tryd.prog 118 #[.int .i64 x] (grow (redrawn W3 e) os) (fun e w'' => e = .returned (.int .i64 (-1)) ∧ ∃ p : Regrown, w'' = grow (redrawn W3 p.d) p.os) := fun e os => Calls.regrown_of (sign_neg x (by omega) _)
          refine wp_region_quiet_below (by kernel_rfl) (by kernel_rfl) ?_; (repeat (first | go_big_quiet_step ((first | with_reducible exact r1 _ _ | with_reducible exact r2 _ _)))); refine wpQuiet_nil ?_; intro _ hw'; obtain ⟨⟨dq, osq⟩, rfl⟩ := hw'
          go_wp2_with fail
          go_ret
          exact ⟨ret_int HX.out.symm, B2.out.trans ((bt.trans ((below_regrown W3 dq osq).mono bt.size)).mono B2.out.size)⟩
end Go.Proofs.YtnbpbidflacoiaaDoor
namespace Go.Proofs.YtnbpbidflacoiaaDoor
open Go.ChangeShapes Go.WideShapes Go.ChangeAt Go.RowKit Go.Sort

theorem nn_bd {u v : Int} (h1 : 0 ≤ u) (h2 : u ≤ 100000) (h3 : 0 ≤ v) (h4 : v ≤ 100000) : 0 ≤ u * v ∧ u * v ≤ 10000000000 := by
  refine ⟨Int.mul_nonneg h1 h3, ?_⟩
  have h : u * v ≤ 100000 * 100000 := Int.mul_le_mul h2 h4 h3 (by omega)
  omega
def offB (o : Int) : Bool := decide (o = 0) || (decide (o = 1) || decide (o = 7))
/-- The length of a description. -/
def lenD (d : Dsc) : Int := d.count * unitD d.unit d.count
def fromV (d : Dsc) (ax ay px py : Int) : Bool := (!(decide (px = ax) && decide (py = ay)) && inB (16 * sq ax ay px py) (9 * lenD d * lenD d) (25 * lenD d * lenD d)) && offB ((dirV (px - ax) (py - ay) - d.dir + 8) % 8)
theorem unitD_bd (u : ByteArray) (c : Int) : 0 ≤ unitD u c ∧ unitD u c ≤ 12 := by
  by_cases h : c = 1
  · subst h; rw [unit1]; (repeat' split) <;> omega
  · rw [unitN h]; (repeat' split) <;> omega
theorem lenD_bd {d : Dsc} (h : isD d = true) (hk : d.kind = 2) : 0 ≤ lenD d ∧ lenD d ≤ 1188 := by
  obtain ⟨⟨c1, c2⟩, _⟩ := isD_from h hk
  obtain ⟨u1, u2⟩ := unitD_bd d.unit d.count
  unfold lenD
  refine ⟨Int.mul_nonneg (by omega) u1, ?_⟩
  have h : d.count * unitD d.unit d.count ≤ 99 * 12 := Int.mul_le_mul c2 u2 u1 (by omega)
  omega
set_option maxRecDepth 100000 in
set_option maxHeartbeats 4000000 in
theorem isFrom_any (d : Dsc) (hd : d.Ok) (hi : isD d = true) (hk : d.kind = 2) (ax ay px py : Int) (ha : Co ax) (hb : Co ay) (hc : Co px) (hdd : Co py) (w : World) :
    Calls Tryd.prog 90 #[d.val, .agg #[.int .i64 ax, .int .i64 ay], .agg #[.int .i64 px, .int .i64 py]] w fun e w' => e = .returned (.bool (fromV d ax ay px py)) ∧ Below w.heap.size w w' := by
  obtain ⟨hcn, hun, ⟨g1, g2⟩, hdb⟩ := isD_from hi hk
  clear hdb
  obtain ⟨n1, n2⟩ := lenD_bd hi hk
  have HS := Lib.hid (show ∀ w, Calls Tryd.prog 49 #[d.val] w (fun e w' => e = .returned (.int .i64 (lenD d)) ∧ Below w.heap.size w w') from steps_any d hd hcn hun)
  have HQ := Lib.hid (implSq ax ay px py ha hb hc hdd)
  obtain ⟨s1, s2⟩ := sq_all ha hb hc hdd
  have HDv := Lib.hid (fun h => implDir_any ax ay px py ha hb hc hdd h)
  obtain ⟨v1, v2⟩ := dirV_bd (px - ax) (py - ay)
  have HX := Lib.hid (show fromV d ax ay px py = ((!(decide (px = ax) && decide (py = ay)) && inB (16 * sq ax ay px py) (9 * lenD d * lenD d) (25 * lenD d * lenD d)) && offB ((dirV (px - ax) (py - ay) - d.dir + 8) % 8)) from rfl)
  have HO := Lib.hid (show ∀ o, offB o = (decide (o = 0) || (decide (o = 1) || decide (o = 7))) from fun _ => rfl)
  clear hi hd hk hcn hun ha hb hc hdd
  unfold Dsc.val at HS ⊢
  generalize fromV d ax ay px py = r at HX ⊢
  generalize sq ax ay px py = s at *
  generalize dirV (px - ax) (py - ay) = dv at *
  generalize lenD d = n at *
  have KN := Lib.hid (blks_three w 25 52 52 #[.int .i64 d.kind, .int .i64 d.count, .string d.unit, .int .i64 d.dir, .string d.a, .string d.b] #[.int .i64 ax, .int .i64 ay] #[.int .i64 px, .int .i64 py])
  obtain ⟨m1, m2⟩ := nn_bd (u := 9 * n) (v := n) (by omega) (by omega) (by omega) (by omega)
  obtain ⟨m3, m4⟩ := nn_bd (u := 25 * n) (v := n) (by omega) (by omega) (by omega) (by omega)
  have HI := Lib.hid (within_any (16 * s) (9 * n * n) (25 * n * n))
  generalize hq : inB (16 * s) (9 * n * n) (25 * n * n) = q at HI HX
  clear hq
  obtain ⟨cx, hcx⟩ : ∃ b, decide (px = ax) = b := ⟨_, rfl⟩
  obtain ⟨cy, hcy⟩ : ∃ b, decide (py = ay) = b := ⟨_, rfl⟩
  have hx : (px == ax) = cx := by rw [← hcx]; by_cases h : px = ax <;> simp [h]
  have hy : (py == ay) = cy := by rw [← hcy]; by_cases h : py = ay <;> simp [h]
  have HN : Hid (cx = true → cy = true → False) ∨ (cx = true ∧ cy = true) := by
    cases cx <;> cases cy <;> simp [Hid]
  have HNe := Lib.hid (show (cx && cy) = false → ¬ (ax = px ∧ ay = py) from fun h h2 => by
    rw [← hcx, ← hcy, decide_eq_true h2.1.symm, decide_eq_true h2.2.symm] at h; cases h)
  rw [hcx, hcy] at HX
  clear hcx hcy HN
  cases hxy : (cx && cy)
  · have HD2 := Lib.hid (HDv.out (HNe.out hxy))
    rw [hxy] at HX
    cases q
    · cases cx <;> cases cy <;> first | (cases hxy; done) | skip
      all_goals
        clear hxy
        go_enter Tryd.func90, Tryd.ntmps90
        go_upto_region 1 with (fail)
        generalize hW : ((w.alloc (.cells #[.int .i64 d.kind, .int .i64 d.count, .string d.unit, .int .i64 d.dir, .string d.a, .string d.b] 25)).alloc (.cells #[.int .i64 ax, .int .i64 ay] 52)).alloc (.cells #[.int .i64 px, .int .i64 py] 52) = W
        obtain ⟨kd, ka, kp, bw, hsz⟩ := KN.out W hW.symm
        clear hW hsz
        obtain ⟨x0, x1, x2, x3, x4, x5⟩ := cells_6 kd
        have y0 := cell_regrown x0; have y1 := cell_regrown x1; have y2 := cell_regrown x2; have y3 := cell_regrown x3; have y4 := cell_regrown x4; have y5 := cell_regrown x5
        obtain ⟨a0, a1⟩ := two_regrown ka
        obtain ⟨p0, p1⟩ := two_regrown kp
        clear x0 x1 x2 x3 x4 x5
        have r1 : ∀ e os, Calls Tryd.prog 49 #[.agg #[.int .i64 d.kind, .int .i64 d.count, .string d.unit, .int .i64 d.dir, .string d.a, .string d.b]] (grow (redrawn W e) os) (fun e w'' => e = .returned (.int .i64 n) ∧ ∃ p : Regrown, w'' = grow (redrawn W p.d) p.os) := fun e os => Calls.regrown_of (HS.out _)
        have r2 : ∀ e os, Calls Tryd.prog 89 #[.agg #[.int .i64 ax, .int .i64 ay], .agg #[.int .i64 px, .int .i64 py]] (grow (redrawn W e) os) (fun e w'' => e = .returned (.int .i64 s) ∧ ∃ p : Regrown, w'' = grow (redrawn W p.d) p.os) := fun e os => Calls.regrown_of (HQ.out _)
        refine wp_region_quiet_below (by kernel_rfl) (by kernel_rfl) ?_; (repeat (first | go_big_quiet_step ((first | with_reducible exact r1 _ _ | with_reducible exact r2 _ _)))); refine wpQuiet_nil ?_; intro _ hw'; obtain ⟨⟨dq, osq⟩, rfl⟩ := hw'
        have KA := Lib.hid (ka.below (below_regrown W dq osq) ka.lt); have KP := Lib.hid (kp.below (below_regrown W dq osq) kp.lt); have B2 := Lib.hid (bw.trans ((below_regrown W dq osq).mono bw.size))
        generalize grow (redrawn W dq) osq = w2 at KA KP B2 ⊢
        clear r1 r2 y0 y1 y2 y3 y4 y5 a0 a1 p0 p1 kd ka kp bw
        obtain ⟨a0, a1⟩ := cells_2 KA.out
        obtain ⟨p0, p1⟩ := cells_2 KP.out
        go_wp2_with fail
        refine (HI.out _).mono ?_; rintro e w' ⟨rfl, rfl⟩
        go_wp2_with fail
        go_ret
        exact ⟨ret_bool (by rw [HX.out]; rfl), B2.out⟩
    · have e1 : IntKind.i64.wrap (dv - d.dir) = dv - d.dir := IntWalk.i64_in _ (by omega)
      have e2 : IntKind.i64.wrap (dv - d.dir + 8) = dv - d.dir + 8 := IntWalk.i64_in _ (by omega)
      have e3 : (dv - d.dir + 8).tmod 8 = (dv - d.dir + 8) % 8 := Int.tmod_eq_emod_of_nonneg (by omega)
      have e4 : IntKind.i64.wrap ((dv - d.dir + 8) % 8) = (dv - d.dir + 8) % 8 := IntWalk.i64_in _ (by omega)
      have HOf := Lib.hid (HO.out ((dv - d.dir + 8) % 8))
      generalize offB ((dv - d.dir + 8) % 8) = ob at HX HOf
      generalize ho : (dv - d.dir + 8) % 8 = o at *
      clear ho
      rcases (show o = 0 ∨ o = 1 ∨ o = 7 ∨ (o ≠ 0 ∧ o ≠ 1 ∧ o ≠ 7) by omega) with h | h | h | ⟨h, h', h''⟩
      all_goals
        have HOb := HOf.out
        simp only [h] at HOb
        cases cx <;> cases cy <;> first | (cases hxy; done) | skip
      all_goals
        clear hxy
        go_enter Tryd.func90, Tryd.ntmps90
        go_upto_region 1 with (fail)
        generalize hW : ((w.alloc (.cells #[.int .i64 d.kind, .int .i64 d.count, .string d.unit, .int .i64 d.dir, .string d.a, .string d.b] 25)).alloc (.cells #[.int .i64 ax, .int .i64 ay] 52)).alloc (.cells #[.int .i64 px, .int .i64 py] 52) = W
        obtain ⟨kd, ka, kp, bw, hsz⟩ := KN.out W hW.symm
        clear hW hsz
        obtain ⟨x0, x1, x2, x3, x4, x5⟩ := cells_6 kd
        have y0 := cell_regrown x0; have y1 := cell_regrown x1; have y2 := cell_regrown x2; have y3 := cell_regrown x3; have y4 := cell_regrown x4; have y5 := cell_regrown x5
        obtain ⟨a0, a1⟩ := two_regrown ka
        obtain ⟨p0, p1⟩ := two_regrown kp
        clear x0 x1 x2 x3 x4 x5
        have r1 : ∀ e os, Calls Tryd.prog 49 #[.agg #[.int .i64 d.kind, .int .i64 d.count, .string d.unit, .int .i64 d.dir, .string d.a, .string d.b]] (grow (redrawn W e) os) (fun e w'' => e = .returned (.int .i64 n) ∧ ∃ p : Regrown, w'' = grow (redrawn W p.d) p.os) := fun e os => Calls.regrown_of (HS.out _)
        have r2 : ∀ e os, Calls Tryd.prog 89 #[.agg #[.int .i64 ax, .int .i64 ay], .agg #[.int .i64 px, .int .i64 py]] (grow (redrawn W e) os) (fun e w'' => e = .returned (.int .i64 s) ∧ ∃ p : Regrown, w'' = grow (redrawn W p.d) p.os) := fun e os => Calls.regrown_of (HQ.out _)
        refine wp_region_quiet_below (by kernel_rfl) (by kernel_rfl) ?_; (repeat (first | go_big_quiet_step ((first | with_reducible exact r1 _ _ | with_reducible exact r2 _ _)))); refine wpQuiet_nil ?_; intro _ hw'; obtain ⟨⟨dq, osq⟩, rfl⟩ := hw'
        have KA := Lib.hid (ka.below (below_regrown W dq osq) ka.lt); have KP := Lib.hid (kp.below (below_regrown W dq osq) kp.lt); have KD := Lib.hid (kd.below (below_regrown W dq osq) kd.lt); have B2 := Lib.hid (bw.trans ((below_regrown W dq osq).mono bw.size))
        generalize grow (redrawn W dq) osq = w2 at KA KP KD B2 ⊢
        clear r1 r2 y0 y1 y2 y3 y4 y5 a0 a1 p0 p1 kd ka kp bw
        obtain ⟨a0, a1⟩ := cells_2 KA.out
        obtain ⟨p0, p1⟩ := cells_2 KP.out
        go_wp2_with fail
        refine (HI.out _).mono ?_; rintro e w' ⟨rfl, rfl⟩
        go_upto_region 4 with (fail)
        clear a0 a1 p0 p1
        obtain ⟨x0, x1, x2, x3, x4, x5⟩ := cells_6 KD.out
        have y3 := cell_regrown x3
        obtain ⟨a0, a1⟩ := two_regrown KA.out
        obtain ⟨p0, p1⟩ := two_regrown KP.out
        clear x0 x1 x2 x3 x4 x5
        have r1 : ∀ e os, Calls Tryd.prog 106 #[.agg #[.int .i64 ax, .int .i64 ay], .agg #[.int .i64 px, .int .i64 py]] (grow (redrawn w2 e) os) (fun e w'' => e = .returned (.int .i64 dv) ∧ ∃ p : Regrown, w'' = grow (redrawn w2 p.d) p.os) := fun e os => Calls.regrown_of (HD2.out _)
        refine wp_region_quiet_below (by kernel_rfl) (by kernel_rfl) ?_; (repeat (first | go_big_quiet_step ((first | with_reducible exact r1 _ _)))); refine wpQuiet_nil ?_; intro _ hw'; obtain ⟨⟨dq, osq⟩, rfl⟩ := hw'
        have B3 := Lib.hid (B2.out.trans ((below_regrown w2 dq osq).mono B2.out.size))
        generalize grow (redrawn w2 dq) osq = w3 at B3 ⊢
        clear r1 y3 a0 a1 p0 p1
        go_wp2_with fail
        go_ret
        exact ⟨ret_bool (by rw [HX.out, HOb]; simp_all), B3.out⟩
  · rw [hxy] at HX
    have hcx : cx = true := by cases cx; cases hxy; rfl
    have hcy : cy = true := by cases cy; (cases cx <;> cases hxy); rfl
    subst hcx hcy
    clear hxy
    go_enter Tryd.func90, Tryd.ntmps90
    go_upto_region 1 with (fail)
    generalize hW : ((w.alloc (.cells #[.int .i64 d.kind, .int .i64 d.count, .string d.unit, .int .i64 d.dir, .string d.a, .string d.b] 25)).alloc (.cells #[.int .i64 ax, .int .i64 ay] 52)).alloc (.cells #[.int .i64 px, .int .i64 py] 52) = W
    obtain ⟨kd, ka, kp, bw, hsz⟩ := KN.out W hW.symm
    clear hW hsz
    obtain ⟨x0, x1, x2, x3, x4, x5⟩ := cells_6 kd
    have y0 := cell_regrown x0; have y1 := cell_regrown x1; have y2 := cell_regrown x2; have y3 := cell_regrown x3; have y4 := cell_regrown x4; have y5 := cell_regrown x5
    obtain ⟨a0, a1⟩ := two_regrown ka
    obtain ⟨p0, p1⟩ := two_regrown kp
    clear x0 x1 x2 x3 x4 x5
    have r1 : ∀ e os, Calls Tryd.prog 49 #[.agg #[.int .i64 d.kind, .int .i64 d.count, .string d.unit, .int .i64 d.dir, .string d.a, .string d.b]] (grow (redrawn W e) os) (fun e w'' => e = .returned (.int .i64 n) ∧ ∃ p : Regrown, w'' = grow (redrawn W p.d) p.os) := fun e os => Calls.regrown_of (HS.out _)
    have r2 : ∀ e os, Calls Tryd.prog 89 #[.agg #[.int .i64 ax, .int .i64 ay], .agg #[.int .i64 px, .int .i64 py]] (grow (redrawn W e) os) (fun e w'' => e = .returned (.int .i64 s) ∧ ∃ p : Regrown, w'' = grow (redrawn W p.d) p.os) := fun e os => Calls.regrown_of (HQ.out _)
    refine wp_region_quiet_below (by kernel_rfl) (by kernel_rfl) ?_; (repeat (first | go_big_quiet_step ((first | with_reducible exact r1 _ _ | with_reducible exact r2 _ _)))); refine wpQuiet_nil ?_; intro _ hw'; obtain ⟨⟨dq, osq⟩, rfl⟩ := hw'
    have KA := Lib.hid (ka.below (below_regrown W dq osq) ka.lt); have KP := Lib.hid (kp.below (below_regrown W dq osq) kp.lt); have B2 := Lib.hid (bw.trans ((below_regrown W dq osq).mono bw.size))
    generalize grow (redrawn W dq) osq = w2 at KA KP B2 ⊢
    clear r1 r2 y0 y1 y2 y3 y4 y5 a0 a1 p0 p1 kd ka kp bw
    obtain ⟨a0, a1⟩ := cells_2 KA.out
    obtain ⟨p0, p1⟩ := cells_2 KP.out
    go_wp2_with fail
    go_ret
    exact ⟨ret_bool (by rw [HX.out]; rfl), B2.out⟩
end Go.Proofs.YtnbpbidflacoiaaDoor
namespace Go.Proofs.YtnbpbidflacoiaaDoor
open Go.ChangeShapes Go.WideShapes Go.ChangeAt Go.RowKit Go.Sort

def alongV (ax ay bx bY px py : Int) : Int := (px - ax) * (bx - ax) + (py - ay) * (bY - ay)
def betwV (ax ay bx bY px py : Int) : Bool := if (decide (ax = bx) && decide (ay = bY)) = true then (decide (px = ax) && decide (py = ay)) else (inB (alongV ax ay bx bY px py) 0 (sq ax ay bx bY) && decide (4 * absI (trn ax ay bx bY px py) ≤ sq ax ay bx bY))
theorem sq_le {u v : Int} (hu : 0 ≤ u) (hv : 0 ≤ v) : u * u ≤ v * v ↔ u ≤ v := by
  constructor
  · intro h
    rcases Int.lt_or_le v u with h1 | h1
    · have h2 : v * v < u * u := Int.lt_of_le_of_lt (Int.mul_le_mul_of_nonneg_left (Int.le_of_lt h1) hv) (Int.mul_lt_mul_of_pos_right h1 (by omega))
      omega
    · exact h1
  · intro h
    exact Int.mul_le_mul h h hu hv
theorem turn_iff {t v : Int} (hv : 0 ≤ v) : 16 * t * t ≤ v * v ↔ 4 * absI t ≤ v := by
  have e : 16 * t * t = (4 * absI t) * (4 * absI t) := by
    unfold absI
    split
    · rw [show 4 * -t = -(4 * t) by omega, Int.neg_mul_neg, Int.mul_assoc, Int.mul_assoc, Int.mul_left_comm t 4 t, ← Int.mul_assoc 4 4]
      rfl
    · rw [Int.mul_assoc, Int.mul_assoc, Int.mul_left_comm t 4 t, ← Int.mul_assoc 4 4]
      rfl
  rw [e]
  exact sq_le (by unfold absI; split <;> omega) hv
theorem big_bd {u v : Int} (h1 : -2000000000 ≤ u) (h2 : u ≤ 2000000000) (h3 : -100000000 ≤ v) (h4 : v ≤ 100000000) : -200000000000000000 ≤ u * v ∧ u * v ≤ 200000000000000000 := by
  have ha : ∀ {x y : Int}, 0 ≤ x → x ≤ 2000000000 → 0 ≤ y → y ≤ 100000000 → 0 ≤ x * y ∧ x * y ≤ 200000000000000000 := fun {x y} a b c d => by
    refine ⟨Int.mul_nonneg a c, ?_⟩
    have : x * y ≤ 2000000000 * 100000000 := Int.mul_le_mul b d c (by omega)
    omega
  rcases Int.le_total 0 u with p | p <;> rcases Int.le_total 0 v with q | q
  · have := ha p h2 q h4; omega
  · have := ha p h2 (show 0 ≤ -v by omega) (by omega); rw [Int.mul_neg] at this; omega
  · have := ha (show 0 ≤ -u by omega) (by omega) q h4; rw [Int.neg_mul] at this; omega
  · have := ha (show 0 ≤ -u by omega) (by omega) (show 0 ≤ -v by omega) (by omega); rw [Int.neg_mul_neg] at this; omega
theorem trn_bd {a b c d p q : Int} (ha : Co a) (hb : Co b) (hc : Co c) (hd : Co d) (hp : Co p) (hq : Co q) : -72000000 ≤ trn a b c d p q ∧ trn a b c d p q ≤ 72000000 := by
  obtain ⟨a1, a2⟩ := ha; obtain ⟨b1, b2⟩ := hb; obtain ⟨c1, c2⟩ := hc; obtain ⟨d1, d2⟩ := hd; obtain ⟨e1, e2⟩ := hp; obtain ⟨f1, f2⟩ := hq
  obtain ⟨p1, p2⟩ := mul_bd (u := c - a) (v := q - b) (by omega) (by omega) (by omega) (by omega)
  obtain ⟨p3, p4⟩ := mul_bd (u := d - b) (v := p - a) (by omega) (by omega) (by omega) (by omega)
  unfold trn
  omega
theorem beq_dec (x y : Int) : (x == y) = decide (x = y) := by by_cases h : x = y <;> simp [h]
set_option maxRecDepth 100000 in
set_option maxHeartbeats 4000000 in
theorem specBetw_any (ax ay bx bY px py : Int) (ha : Co ax) (hb : Co ay) (hc : Co bx) (hd : Co bY) (hp : Co px) (hq : Co py) (w : World) :
    Calls Tryd.prog 95 #[.agg #[.int .i64 ax, .int .i64 ay], .agg #[.int .i64 bx, .int .i64 bY], .agg #[.int .i64 px, .int .i64 py]] w fun e w' => e = .returned (.bool (betwV ax ay bx bY px py)) ∧ Below w.heap.size w w' := by
  have HS := Lib.hid (specSq ax ay bx bY ha hb hc hd)
  have HT := Lib.hid (specTurn_any ax ay bx bY px py ha hb hc hd hp hq)
  obtain ⟨s1, s2⟩ := sq_all ha hb hc hd
  obtain ⟨t1, t2⟩ := trn_bd ha hb hc hd hp hq
  obtain ⟨a1, a2⟩ := ha; obtain ⟨b1, b2⟩ := hb; obtain ⟨c1, c2⟩ := hc; obtain ⟨d1, d2⟩ := hd; obtain ⟨p1, p2⟩ := hp; obtain ⟨q1, q2⟩ := hq
  obtain ⟨m1, m2⟩ := mul_bd (u := px - ax) (v := bx - ax) (by omega) (by omega) (by omega) (by omega)
  obtain ⟨m3, m4⟩ := mul_bd (u := py - ay) (v := bY - ay) (by omega) (by omega) (by omega) (by omega)
  have HX := Lib.hid (show betwV ax ay bx bY px py = if (decide (ax = bx) && decide (ay = bY)) = true then (decide (px = ax) && decide (py = ay)) else (inB ((px - ax) * (bx - ax) + (py - ay) * (bY - ay)) 0 (sq ax ay bx bY) && decide (4 * absI (trn ax ay bx bY px py) ≤ sq ax ay bx bY)) from rfl)
  have KN := Lib.hid (blks_three w 52 52 52 #[.int .i64 ax, .int .i64 ay] #[.int .i64 bx, .int .i64 bY] #[.int .i64 px, .int .i64 py])
  have HI := Lib.hid (specIn_any ((px - ax) * (bx - ax) + (py - ay) * (bY - ay)) 0 (sq ax ay bx bY))
  have HQ := Lib.hid (turn_iff (t := trn ax ay bx bY px py) s1)
  generalize betwV ax ay bx bY px py = r at HX ⊢
  generalize hiq : inB ((px - ax) * (bx - ax) + (py - ay) * (bY - ay)) 0 (sq ax ay bx bY) = q at HI HX
  clear hiq
  generalize sq ax ay bx bY = s at *
  generalize trn ax ay bx bY px py = t at *
  have f1 := beq_dec ax bx
  have f2 := beq_dec ay bY
  have f3 := beq_dec px ax
  have f4 := beq_dec py ay
  obtain ⟨cx, hcx⟩ : ∃ b, decide (ax = bx) = b := ⟨_, rfl⟩
  obtain ⟨cy, hcy⟩ : ∃ b, decide (ay = bY) = b := ⟨_, rfl⟩
  obtain ⟨ex, hex⟩ : ∃ b, decide (px = ax) = b := ⟨_, rfl⟩
  obtain ⟨ey, hey⟩ : ∃ b, decide (py = ay) = b := ⟨_, rfl⟩
  rw [hcx] at f1 HX; rw [hcy] at f2 HX; rw [hex] at f3 HX; rw [hey] at f4 HX
  clear hcx hcy hex hey
  obtain ⟨n1, n2⟩ := big_bd (u := 16 * t) (v := t) (by omega) (by omega) (by omega) (by omega)
  obtain ⟨n3, n4⟩ := big_bd (u := s) (v := s) (by omega) (by omega) (by omega) (by omega)
  cases hxy : (cx && cy)
  · rw [hxy, if_neg (by decide)] at HX
    by_cases hle : 16 * t * t ≤ s * s
    all_goals
      have HV := Lib.hid (show r = (q && decide (16 * t * t ≤ s * s)) by rw [HX.out]; congr 1; exact decide_eq_decide.2 HQ.out.symm)
      cases q <;> cases cx <;> cases cy <;> first | (cases hxy; done) | skip
    all_goals
      clear hxy HQ HX
      go_enter Tryd.func95, Tryd.ntmps95
      go_upto_region 3 with (fail)
      generalize hW : ((w.alloc (.cells #[.int .i64 ax, .int .i64 ay] 52)).alloc (.cells #[.int .i64 bx, .int .i64 bY] 52)).alloc (.cells #[.int .i64 px, .int .i64 py] 52) = W
      obtain ⟨ka, kb, kp, bw, hsz⟩ := KN.out W hW.symm
      clear hW hsz
      obtain ⟨x0, x1⟩ := cells_2 ka
      obtain ⟨y0, y1⟩ := cells_2 kb
      go_wp2_with fail
      refine (HS.out W).mono ?_; rintro e w1 ⟨rfl, b1⟩
      have KA := Lib.hid (ka.below b1 ka.lt); have KB := Lib.hid (kb.below b1 kb.lt); have KP := Lib.hid (kp.below b1 kp.lt); have B1 := Lib.hid (bw.trans (b1.mono bw.size))
      clear ka kb kp bw b1 x0 x1 y0 y1
      obtain ⟨x0, x1⟩ := cells_2 KA.out
      obtain ⟨y0, y1⟩ := cells_2 KB.out
      obtain ⟨z0, z1⟩ := cells_2 KP.out
      go_wp2_with fail
      refine (HT.out w1).mono ?_; rintro e w2 ⟨rfl, b2⟩
      go_wp2_with fail
      refine (HI.out _).mono ?_; rintro e w' ⟨rfl, rfl⟩
      go_wp2_with fail
      go_ret
      exact ⟨ret_bool (by rw [HV.out]; simp [hle]), B1.out.trans (b2.mono B1.out.size)⟩
  · rw [hxy, if_pos rfl] at HX
    have hcx : cx = true := by cases cx; cases hxy; rfl
    have hcy : cy = true := by cases cy; (cases cx <;> cases hxy); rfl
    subst hcx hcy
    clear hxy
    cases ex <;> cases ey
    all_goals
      go_enter Tryd.func95, Tryd.ntmps95
      go_wp2_with fail
      go_ret
      exact ⟨ret_bool (by rw [HX.out]; first | rfl | simp), by (repeat (first | exact Below.refl _ _ | assumption | refine Below.drew ?_ | refine below_drewN' ?_ _ | refine Below.alloc ?_ (by (try simp); (try omega)) _ | refine Below.setCell ?_ (by (try simp); (try omega)) _))⟩
set_option maxRecDepth 100000 in
set_option maxHeartbeats 4000000 in
theorem implBetw_any (ax ay bx bY px py : Int) (ha : Co ax) (hb : Co ay) (hc : Co bx) (hd : Co bY) (hp : Co px) (hq : Co py) (w : World) :
    Calls Tryd.prog 91 #[.agg #[.int .i64 ax, .int .i64 ay], .agg #[.int .i64 bx, .int .i64 bY], .agg #[.int .i64 px, .int .i64 py]] w fun e w' => e = .returned (.bool (betwV ax ay bx bY px py)) ∧ Below w.heap.size w w' := by
  have HS := Lib.hid (implSq ax ay bx bY ha hb hc hd)
  have HT := Lib.hid (implTurn_any ax ay bx bY px py ha hb hc hd hp hq)
  obtain ⟨s1, s2⟩ := sq_all ha hb hc hd
  obtain ⟨t1, t2⟩ := trn_bd ha hb hc hd hp hq
  obtain ⟨a1, a2⟩ := ha; obtain ⟨b1, b2⟩ := hb; obtain ⟨c1, c2⟩ := hc; obtain ⟨d1, d2⟩ := hd; obtain ⟨p1, p2⟩ := hp; obtain ⟨q1, q2⟩ := hq
  obtain ⟨m1, m2⟩ := mul_bd (u := px - ax) (v := bx - ax) (by omega) (by omega) (by omega) (by omega)
  obtain ⟨m3, m4⟩ := mul_bd (u := py - ay) (v := bY - ay) (by omega) (by omega) (by omega) (by omega)
  have HX := Lib.hid (show betwV ax ay bx bY px py = if (decide (ax = bx) && decide (ay = bY)) = true then (decide (px = ax) && decide (py = ay)) else (inB ((px - ax) * (bx - ax) + (py - ay) * (bY - ay)) 0 (sq ax ay bx bY) && decide (4 * absI (trn ax ay bx bY px py) ≤ sq ax ay bx bY)) from rfl)
  have KN := Lib.hid (blks_three w 52 52 52 #[.int .i64 ax, .int .i64 ay] #[.int .i64 bx, .int .i64 bY] #[.int .i64 px, .int .i64 py])
  have HI := Lib.hid (fun w => same_below (within_any ((px - ax) * (bx - ax) + (py - ay) * (bY - ay)) 0 (sq ax ay bx bY) w))
  have HA := Lib.hid (fun w => same_below (implAbs_any (trn ax ay bx bY px py) (by omega) (by omega) w))
  have hab : 0 ≤ absI (trn ax ay bx bY px py) ∧ absI (trn ax ay bx bY px py) ≤ 72000000 := by unfold absI; split <;> omega
  obtain ⟨u1, u2⟩ := hab
  generalize betwV ax ay bx bY px py = r at HX ⊢
  generalize hiq : inB ((px - ax) * (bx - ax) + (py - ay) * (bY - ay)) 0 (sq ax ay bx bY) = q at HI HX
  clear hiq
  generalize sq ax ay bx bY = s at *
  generalize absI (trn ax ay bx bY px py) = u at *
  generalize trn ax ay bx bY px py = t at *
  have f1 := beq_dec ax bx
  have f2 := beq_dec ay bY
  have f3 := beq_dec px ax
  have f4 := beq_dec py ay
  obtain ⟨cx, hcx⟩ : ∃ b, decide (ax = bx) = b := ⟨_, rfl⟩
  obtain ⟨cy, hcy⟩ : ∃ b, decide (ay = bY) = b := ⟨_, rfl⟩
  obtain ⟨ex, hex⟩ : ∃ b, decide (px = ax) = b := ⟨_, rfl⟩
  obtain ⟨ey, hey⟩ : ∃ b, decide (py = ay) = b := ⟨_, rfl⟩
  rw [hcx] at f1 HX; rw [hcy] at f2 HX; rw [hex] at f3 HX; rw [hey] at f4 HX
  clear hcx hcy hex hey
  have e1 : IntKind.i64.wrap (4 * u) = 4 * u := IntWalk.i64_in _ (by omega)
  cases hxy : (cx && cy)
  · rw [hxy, if_neg (by decide)] at HX
    by_cases hle : 4 * u ≤ s
    all_goals
      cases q <;> cases cx <;> cases cy <;> first | (cases hxy; done) | skip
    all_goals
      clear hxy
      go_enter Tryd.func91, Tryd.ntmps91
      go_upto_region 3 with (fail)
      generalize hW : ((w.alloc (.cells #[.int .i64 ax, .int .i64 ay] 52)).alloc (.cells #[.int .i64 bx, .int .i64 bY] 52)).alloc (.cells #[.int .i64 px, .int .i64 py] 52) = W
      obtain ⟨ka, kb, kp, bw, hsz⟩ := KN.out W hW.symm
      clear hW hsz
      obtain ⟨x0, x1⟩ := cells_2 ka
      obtain ⟨y0, y1⟩ := cells_2 kb
      obtain ⟨z0, z1⟩ := cells_2 kp
      go_upto_region 4 with (fail)
      clear x0 x1 y0 y1 z0 z1
      obtain ⟨x0, x1⟩ := two_regrown ka
      obtain ⟨y0, y1⟩ := two_regrown kb
      obtain ⟨z0, z1⟩ := two_regrown kp
      have r1 : ∀ e os, Calls Tryd.prog 89 #[.agg #[.int .i64 ax, .int .i64 ay], .agg #[.int .i64 bx, .int .i64 bY]] (grow (redrawn W e) os) (fun e w'' => e = .returned (.int .i64 s) ∧ ∃ p : Regrown, w'' = grow (redrawn W p.d) p.os) := fun e os => Calls.regrown_of (HS.out _)
      have r2 : ∀ e os, Calls Tryd.prog 51 #[.int .i64 ((px - ax) * (bx - ax) + (py - ay) * (bY - ay)), .int .i64 0, .int .i64 s] (grow (redrawn W e) os) (fun e w'' => e = .returned (.bool _) ∧ ∃ p : Regrown, w'' = grow (redrawn W p.d) p.os) := fun e os => Calls.regrown_of (HI.out _)
      have r3 : ∀ e os, Calls Tryd.prog 108 #[.agg #[.int .i64 ax, .int .i64 ay], .agg #[.int .i64 bx, .int .i64 bY], .agg #[.int .i64 px, .int .i64 py]] (grow (redrawn W e) os) (fun e w'' => e = .returned (.int .i64 t) ∧ ∃ p : Regrown, w'' = grow (redrawn W p.d) p.os) := fun e os => Calls.regrown_of (HT.out _)
      have r4 : ∀ e os, Calls Tryd.prog 107 #[.int .i64 t] (grow (redrawn W e) os) (fun e w'' => e = .returned (.int .i64 u) ∧ ∃ p : Regrown, w'' = grow (redrawn W p.d) p.os) := fun e os => Calls.regrown_of (HA.out _)
      refine wp_region_quiet_below (by kernel_rfl) (by kernel_rfl) ?_; (repeat (first | go_big_quiet_step ((first | with_reducible exact r1 _ _ | with_reducible exact r2 _ _ | with_reducible exact r3 _ _ | with_reducible exact r4 _ _)))); refine wpQuiet_nil ?_; intro _ hw'; obtain ⟨⟨dq, osq⟩, rfl⟩ := hw'
      go_wp2_with fail
      go_ret
      exact ⟨ret_bool (by rw [HX.out]; simp [hle]), bw.trans ((below_regrown W dq osq).mono bw.size)⟩
  · rw [hxy, if_pos rfl] at HX
    have hcx : cx = true := by cases cx; cases hxy; rfl
    have hcy : cy = true := by cases cy; (cases cx <;> cases hxy); rfl
    subst hcx hcy
    clear hxy
    cases ex <;> cases ey
    all_goals
      go_enter Tryd.func91, Tryd.ntmps91
      go_wp2_with fail
      go_ret
      exact ⟨ret_bool (by rw [HX.out]; first | rfl | simp), by (repeat (first | exact Below.refl _ _ | assumption | refine Below.drew ?_ | refine below_drewN' ?_ _ | refine Below.alloc ?_ (by (try simp); (try omega)) _ | refine Below.setCell ?_ (by (try simp); (try omega)) _))⟩
end Go.Proofs.YtnbpbidflacoiaaDoor
namespace Go.Proofs
open Go.Shelf
def Tryd.lays106_ren : Go.Shelf.Ren := ⟨fun | 106 => 104 | 213 => 117 | 265 => 136 | n => n, fun | 9 => 9 | 3 => 3 | n => n, fun | n => n⟩
theorem Tryd.lays106 : Go.Proofs.Lays.n106 Tryd.prog Tryd.lays106_ren := {
  mixed := by kernel_rfl
  f106 := Tryd.func104.trans (congrArg some (by kernel_rfl))
  f213 := Tryd.func117.trans (congrArg some (by kernel_rfl))
  f265 := Tryd.func136.trans (congrArg some (by kernel_rfl))
  t3 := Tryd.underlying3
  a3 := Tryd.isAgg3
  z3 := Tryd.sizeOf3
  v3 := Tryd.zeroValue3
  t9 := Tryd.underlying9
  a9 := Tryd.isAgg9
  z9 := Tryd.sizeOf9
  v9 := Tryd.zeroValue9 }
end Go.Proofs
namespace Go.Proofs.YtnbpbidflacoiaaDoor
open Go.ChangeShapes Go.WideShapes Go.ChangeAt Go.RowKit Go.Sort

theorem strLt_trans {a b c : ByteArray} (h1 : strLt a b = true) (h2 : strLt b c = true) : strLt a c = true := by
  unfold strLt at *
  rw [bytesLess_eq, decide_eq_true_eq] at *
  exact List.lt_trans h1 h2
theorem strLt_self (a : ByteArray) : strLt a a = false := by
  unfold strLt
  rw [bytesLess_eq, decide_eq_false_iff_not]
  exact List.lt_irrefl _
def cmpS (a b : ByteArray) : Int := Lib.compareBytes a.data.toList b.data.toList
theorem compare_less : ∀ x y : List UInt8, (Lib.compareBytes x y < 0 ↔ Op.bytesLess x y = true) ∧ (Lib.compareBytes x y = 0 ↔ x = y)
  | [], [] => by simp [Lib.compareBytes, Op.bytesLess]
  | [], _ :: _ => by simp [Lib.compareBytes, Op.bytesLess]
  | _ :: _, [] => by simp [Lib.compareBytes, Op.bytesLess]
  | a :: x, b :: y => by
    have ih := compare_less x y
    simp only [bytesLess_eq, decide_eq_true_eq] at ih ⊢
    rw [Lib.compareBytes]
    simp only [List.cons_lt_cons_iff, List.cons.injEq]
    by_cases h1 : a < b
    · have : a ≠ b := fun h => by subst h; exact absurd h1 (UInt8.lt_irrefl a)
      simp [h1, this]
    · by_cases h2 : b < a
      · have : a ≠ b := fun h => by subst h; exact absurd h2 (UInt8.lt_irrefl a)
        simp [h1, h2, this]
      · have h3 : a = b := by
          apply UInt8.toNat.inj
          rw [UInt8.lt_iff_toNat_lt] at h1 h2
          omega
        subst h3
        simp [h1, ih]
theorem cmpS_lt (a b : ByteArray) : (cmpS a b < 0) ↔ strLt a b = true := by
  unfold cmpS strLt
  rw [ByteArray.toList_eq, ByteArray.toList_eq]
  exact (compare_less _ _).1
theorem cmpS_eq (a b : ByteArray) : (cmpS a b = 0) ↔ a = b := by
  unfold cmpS
  rw [(compare_less _ _).2]
  exact ⟨fun h => str_inj (by rw [ByteArray.toList_eq, ByteArray.toList_eq]; exact h), fun h => by rw [h]⟩
theorem compareS_any (a b : ByteArray) (w : World) : Calls Tryd.prog 104 #[.string a, .string b] w fun e w' => e = .returned (.int .i64 (cmpS a b)) ∧ w = w' :=
  (Any.strings_Compare Tryd.lays106 a b w).mono fun _ _ h => ⟨h.1, h.2.symm⟩
end Go.Proofs.YtnbpbidflacoiaaDoor
namespace Go.Proofs.YtnbpbidflacoiaaDoor
open Go.ChangeShapes Go.WideShapes Go.ChangeAt Go.RowKit Go.Sort

def nsAt (xs : List Sit) (k : Nat) : ByteArray := match xs[k]? with | some b => b.name | none => ByteArray.empty
theorem nsAt_eq {xs : List Sit} {k : Nat} (h : k < xs.length) : nsAt xs k = xs[k].name := by simp [nsAt, h]
theorem sites_lt {xs : List Sit} (h : areS xs = true) : ∀ d i, i + 1 + d < xs.length → strLt (nsAt xs i) (nsAt xs (i + 1 + d)) = true := by
  rw [areS, Bool.and_eq_true] at h
  have one : ∀ i, i + 1 < xs.length → strLt (nsAt xs i) (nsAt xs (i + 1)) = true := fun i hi => by
    have := areSTo_le (k := i + 1 + 1) hi h.1
    rw [areSTo, Bool.and_eq_true, goodS, List.getElem?_eq_getElem hi] at this
    have := this.2
    simp only [Bool.and_eq_true] at this
    have := this.2
    rw [ordS, List.getElem?_eq_getElem (by omega)] at this
    rw [nsAt_eq (by omega), nsAt_eq hi]
    exact this
  intro d
  induction d with
  | zero => intro i hi; exact one i hi
  | succ d ih =>
    intro i hi
    exact strLt_trans (ih i (by omega)) (one (i + 1 + d) (by omega))
theorem sites_inj {xs : List Sit} (h : areS xs = true) {i j : Nat} (hi : i < xs.length) (hj : j < xs.length) (e : nsAt xs i = nsAt xs j) : i = j := by
  rcases Nat.lt_trichotomy i j with hl | hl | hl
  · have := sites_lt h (j - i - 1) i (by omega)
    rw [show i + 1 + (j - i - 1) = j by omega, e, strLt_self] at this
    cases this
  · exact hl
  · have := sites_lt h (i - j - 1) j (by omega)
    rw [show j + 1 + (i - j - 1) = i by omega, e, strLt_self] at this
    cases this
set_option maxRecDepth 100000 in
theorem find1_any (x : Sit) (s : ByteArray) (w : World) : Calls Tryd.prog 103 #[x.val, .string s] w fun e w' => e = .returned (.int .i64 (cmpS x.name s)) ∧ Below w.heap.size w w' := by
  have HC := Lib.hid (compareS_any x.name s)
  obtain ⟨n, c, wt⟩ := x
  unfold Sit.val
  dsimp only at HC ⊢
  generalize cmpS n s = r at HC ⊢
  go_enter Tryd.func103, Tryd.ntmps103
  go_wp2_with fail
  refine (HC.out _).mono ?_; rintro e w' ⟨rfl, rfl⟩
  go_wp2_with fail
  go_ret
  exact ⟨rfl, by (repeat (first | exact Below.refl _ _ | assumption | refine Below.drew ?_ | refine below_drewN' ?_ _ | refine Below.alloc ?_ (by (try simp); (try omega)) _ | refine Below.setCell ?_ (by (try simp); (try omega)) _))⟩
/-- The first place whose code is not before s. -/
def posT (xs : List Sit) (s : ByteArray) : Nat := (xs.takeWhile fun b => strLt b.name s).length
def fndT (xs : List Sit) (s : ByteArray) : Bool := decide (posT xs s < xs.length) && decide (nsAt xs (posT xs s) = s)
theorem take_while_spec {p : Sit → Bool} : ∀ (l : List Sit), (∀ k (h : k < l.length), k < (l.takeWhile p).length → p l[k] = true) ∧ (∀ h : (l.takeWhile p).length < l.length, p l[(l.takeWhile p).length] = false)
  | [] => ⟨fun k h => by simp at h, fun h => by simp at h⟩
  | a :: l => by
    have ih := take_while_spec (p := p) l
    by_cases ha : p a = true
    · simp only [List.takeWhile_cons, ha, if_true, List.length_cons]
      refine ⟨fun k h hk => ?_, fun h => ?_⟩
      · cases k with
        | zero => exact ha
        | succ k => simpa using ih.1 k (by simpa using h) (by omega)
      · simpa using ih.2 (by omega)
    · simp only [List.takeWhile_cons, ha]
      refine ⟨fun k _ hk => by simp at hk, fun _ => by simpa using ha⟩
theorem posT_is {xs : List Sit} {s : ByteArray} {lo : Nat} (hlo : lo ≤ xs.length) (h1 : ∀ j, j < lo → strLt (nsAt xs j) s = true) (h2 : ∀ j, lo ≤ j → j < xs.length → strLt (nsAt xs j) s = false) : posT xs s = lo := by
  have hs := take_while_spec (p := fun b => strLt b.name s) xs
  have hp : posT xs s ≤ xs.length := by unfold posT; exact List.Sublist.length_le (List.takeWhile_sublist _)
  rcases Nat.lt_trichotomy (posT xs s) lo with h | h | h
  · have a := h1 _ h
    have b := hs.2 (by unfold posT at h; omega)
    rw [nsAt_eq (by omega)] at a
    exact absurd (a.symm.trans b) (by decide)
  · exact h
  · have a := h2 lo (Nat.le_refl _) (by omega)
    have b := hs.1 lo (by omega) (by unfold posT at h; exact h)
    rw [nsAt_eq (by omega)] at a
    exact absurd (b.symm.trans a) (by decide)
theorem sit_up {xs : List Sit} (ha : areS xs = true) {s : ByteArray} {i j : Nat} (hij : i ≤ j) (hj : j < xs.length) (h : strLt (nsAt xs j) s = true) : strLt (nsAt xs i) s = true := by
  by_cases e : i = j
  · rw [e]; exact h
  · have := sites_lt ha (j - i - 1) i (by omega)
    rw [show i + 1 + (j - i - 1) = j by omega] at this
    exact strLt_trans this h
/-- The index of the site with a code, -1 if there is none. -/
def sitIx (s : ByteArray) (xs : List Sit) : Int := ixS s (xs.map Sit.name)
theorem pos_le (xs : List Sit) (s : ByteArray) : posT xs s ≤ xs.length := by unfold posT; exact List.Sublist.length_le (List.takeWhile_sublist _)
theorem ixS_at {s : ByteArray} : ∀ {L : List ByteArray} {k : Nat} (h : k < L.length), L[k] = s → (∀ j (hj : j < k), L[j] ≠ s) → ixS s L = k
  | [], _, h, _, _ => by simp at h
  | a :: r, 0, _, e, _ => by rw [ixS, if_pos (by simpa using e.symm)]; rfl
  | a :: r, k + 1, h, e, hn => by
    have ih := ixS_at (s := s) (L := r) (k := k) (by simpa using h) (by simpa using e) (fun j hj => by simpa using hn (j + 1) (by omega))
    rw [ixS, if_neg (fun h0 => hn 0 (by omega) (by simpa using h0.symm)), ih, if_neg (by omega)]
    push_cast; rfl
theorem ixS_none {s : ByteArray} {L : List ByteArray} (h : s ∉ L) : ixS s L = -1 := by
  have h1 := ixS_ge s L
  have h2 : ¬ 0 ≤ ixS s L := fun h0 => h ((ixS_mem s L).1 h0)
  omega
theorem fnd_ix {xs : List Sit} (ha : areS xs = true) (s : ByteArray) : (fndT xs s = true → sitIx s xs = (posT xs s : Int) ∧ posT xs s < xs.length) ∧ (fndT xs s = false → sitIx s xs = -1) := by
  have hs := take_while_spec (p := fun b => strLt b.name s) xs
  have hp := pos_le xs s
  constructor
  · intro h
    simp only [fndT, Bool.and_eq_true, decide_eq_true_eq] at h
    obtain ⟨h1, h2⟩ := h
    refine ⟨ixS_at (by simpa using h1) (by rw [List.getElem_map, ← nsAt_eq h1]; exact h2) (fun j hj => ?_), h1⟩
    rw [List.getElem_map]
    intro e
    have := hs.1 j (by omega) (by unfold posT at hj; exact hj)
    rw [e, strLt_self] at this
    cases this
  · intro h
    refine ixS_none (fun hm => ?_)
    obtain ⟨b, hb, e⟩ := List.mem_map.1 hm
    obtain ⟨j, hj, rfl⟩ := List.getElem_of_mem hb
    have e' : nsAt xs j = s := by rw [nsAt_eq hj]; exact e
    have hge : posT xs s ≤ j := by
      rcases Nat.lt_or_ge j (posT xs s) with hlt | hge
      · have := hs.1 j hj (by unfold posT at hlt; exact hlt)
        rw [e, strLt_self] at this
        cases this
      · exact hge
    have hlt : posT xs s < xs.length := by omega
    have h2 := hs.2 (by unfold posT at hlt; exact hlt)
    have h3 : strLt (nsAt xs (posT xs s)) s = false := by rw [nsAt_eq hlt]; exact h2
    rcases Nat.lt_or_ge (posT xs s) j with hl | hl
    · have := sites_lt ha (j - posT xs s - 1) (posT xs s) (by omega)
      rw [show posT xs s + 1 + (j - posT xs s - 1) = j by omega, e', h3] at this
      cases this
    · have hj2 : j = posT xs s := by omega
      rw [fndT, decide_eq_true hlt, decide_eq_true (by rw [← hj2]; exact e')] at h
      cases h
set_option maxRecDepth 100000 in
set_option maxHeartbeats 2000000 in
theorem searchT_any (xs : List Sit) (ha : areS xs = true) (n : ByteArray) (A : Option Addr) (c : Nat) (w : World) (hr : Reads w w.heap.size 3 A xs.length (siC xs)) :
    Calls Tryd.prog 102 #[.slice A xs.length c, .string n, .func (.func 103) #[] #[]] w fun e w' => e = .returned (.tuple #[.int .i64 (posT xs n), .bool (fndT xs n)]) ∧ Below w.heap.size w w' := by
  have hm : xs.length ≤ 10 := by rw [areS, Bool.and_eq_true, decide_eq_true_eq] at ha; omega
  have HR := Lib.hid hr; clear hr
  have HA := Lib.hid ha; clear ha
  have C1 := Lib.hid (fun x => find1_any x n)
  have HP := Lib.hid (fun lo => posT_is (xs := xs) (s := n) (lo := lo))
  have HFd := Lib.hid (show fndT xs n = (decide (posT xs n < xs.length) && decide (nsAt xs (posT xs n) = n)) from rfl)
  generalize fndT xs n = fd at HFd ⊢
  generalize posT xs n = ps at HP HFd ⊢
  unfold Sit.val at C1
  go_enter Tryd.func102, Tryd.ntmps102
  go_wp2_with fail
  go_loopw [9, 10] (fun v9 v10 wr => ∃ lo hi : Nat, lo ≤ hi ∧ hi ≤ xs.length ∧ Hid (∀ j, j < lo → strLt (nsAt xs j) n = true) ∧ Hid (∀ j, hi ≤ j → j < xs.length → strLt (nsAt xs j) n = false) ∧ Hid (Below w.heap.size w wr) ∧ v9 = .int .i64 lo ∧ v10 = .int .i64 hi) (fun a b _ => (intOf b).toNat - (intOf a).toNat)
  case atStart => exact ⟨0, xs.length, by omega, by omega, fun j h => by omega, fun j a b => by omega, Below.refl _ _, rfl, rfl⟩
  case round =>
    obtain ⟨lo, hi, hlh, hhn, HL, HH, BW, rfl, rfl⟩ := hrel
    by_cases hlt : lo < hi
    · obtain ⟨ab, ao, rfl, hadb, hcell⟩ := (HR.out.below BW.out).2 (by omega)
      obtain ⟨md, hmd⟩ : ∃ md, (lo + hi) / 2 = md := ⟨_, rfl⟩
      have hmlt : md < xs.length := by omega
      obtain ⟨e0, e1, e2⟩ := siC_get xs md hmlt
      have c0 := hcell _ _ e0
      have c1 := hcell _ _ e1
      have c2 := hcell _ _ e2
      rw [← Nat.add_assoc] at c1 c2
      clear hcell e0 e1 e2
      go_upto_region 5 with (fail)
      have hb : xs[md].name = nsAt xs md := (nsAt_eq hmlt).symm
      have HUp := Lib.hid (fun (i : Nat) (h1 : i ≤ md) (h2 : strLt (nsAt xs md) n = true) => sit_up HA.out h1 hmlt h2)
      have HDn := Lib.hid (fun (j : Nat) (h1 : md ≤ j) (h2 : j < xs.length) (h3 : strLt (nsAt xs md) n = false) => (show strLt (nsAt xs j) n = false by
        cases hq : strLt (nsAt xs j) n with
        | false => rfl
        | true => rw [sit_up HA.out h1 h2 hq] at h3; cases h3))
      have HCm := Lib.hid (show (cmpS xs[md].name n < 0) ↔ strLt (nsAt xs md) n = true by rw [hb]; exact cmpS_lt _ _)
      have CX := Lib.hid (C1.out xs[md])
      generalize xs[md] = b at c0 c1 c2 HCm CX
      obtain ⟨bn, bc, bw⟩ := b
      dsimp only at c0 c1 c2 HCm CX
      generalize cmpS bn n = r at HCm CX
      rw [show ((lo : Int) + (hi : Int)) / 2 = (md : Int) by omega]
      by_cases hr : r < 0
      · have HS := Lib.hid (HCm.out.1 hr)
        go_wp2_with fail
        refine (CX.out _).mono ?_; rintro e w2 ⟨rfl, b2⟩
        have B2 := Lib.hid (BW.out.trans (b2.mono BW.out.size))
        go_wp2_with fail
        go_roundw
        case rel => exact ⟨md + 1, hi, by omega, by omega, fun j hj => HUp.out j (by omega) HS.out, HH.out, B2.out, by go_num, rfl⟩
        case measure => simp [intOf]; omega
      · have HS := Lib.hid (show strLt (nsAt xs md) n = false by
          cases hq : strLt (nsAt xs md) n with
          | false => rfl
          | true => exact absurd (HCm.out.2 hq) hr)
        go_wp2_with fail
        refine (CX.out _).mono ?_; rintro e w2 ⟨rfl, b2⟩
        have B2 := Lib.hid (BW.out.trans (b2.mono BW.out.size))
        go_wp2_with fail
        go_roundw
        case rel => exact ⟨lo, md, by omega, by omega, HL.out, fun j h1 h2 => HDn.out j h1 h2 HS.out, B2.out, rfl, rfl⟩
        case measure => simp [intOf]; omega
    · obtain rfl : lo = hi := by omega
      have HPs := Lib.hid (HP.out lo hhn HL.out HH.out)
      by_cases hln : lo < xs.length
      · have HFd2 := Lib.hid (show fd = decide (nsAt xs lo = n) by rw [HFd.out, HPs.out, decide_eq_true hln, Bool.true_and])
        obtain ⟨ab, ao, rfl, hadb, hcell⟩ := (HR.out.below BW.out).2 (by omega)
        obtain ⟨e0, e1, e2⟩ := siC_get xs lo hln
        have c0 := hcell _ _ e0
        have c1 := hcell _ _ e1
        have c2 := hcell _ _ e2
        rw [← Nat.add_assoc] at c1 c2
        clear hcell e0 e1 e2
        have HE := Lib.hid (show (cmpS xs[lo].name n = 0) ↔ nsAt xs lo = n by rw [nsAt_eq hln]; exact cmpS_eq _ _)
        have CX := Lib.hid (C1.out xs[lo])
        generalize xs[lo] = b at c0 c1 c2 HE CX
        obtain ⟨bn, bc, bw⟩ := b
        dsimp only at c0 c1 c2 HE CX
        generalize cmpS bn n = r at HE CX
        have z1 : (lo : Int) < (xs.length : Int) := by omega
        have z0 : (0 : Int) ≤ (lo : Int) := by omega
        by_cases hr : r = 0
        · have HV := Lib.hid (show fd = true by rw [HFd2.out, decide_eq_true (HE.out.1 hr)])
          have hr2 : (r == 0) = true := by simpa using hr
          clear hr
          go_wp2_with fail
          refine (CX.out _).mono ?_; rintro e w2 ⟨rfl, b2⟩
          go_wp2_with fail
          go_ret2
          exact ⟨by rw [HPs.out, HV.out]; first | done | rfl, BW.out.trans (b2.mono BW.out.size)⟩
        · have HV := Lib.hid (show fd = false by rw [HFd2.out, decide_eq_false (fun h => hr (HE.out.2 h))])
          have hr2 : (r == 0) = false := by simpa using hr
          clear hr
          go_wp2_with fail
          refine (CX.out _).mono ?_; rintro e w2 ⟨rfl, b2⟩
          go_wp2_with fail
          go_ret2
          exact ⟨by rw [HPs.out, HV.out]; first | done | rfl, BW.out.trans (b2.mono BW.out.size)⟩
      · have HV := Lib.hid (show fd = false by rw [HFd.out, HPs.out, decide_eq_false hln, Bool.false_and])
        have z1 : ¬ (lo : Int) < (xs.length : Int) := by omega
        go_wp2_with fail
        go_ret2
        exact ⟨by rw [HPs.out, HV.out]; first | done | rfl, BW.out⟩
end Go.Proofs.YtnbpbidflacoiaaDoor
namespace Go.Proofs.YtnbpbidflacoiaaDoor
open Go.ChangeShapes Go.WideShapes Go.ChangeAt Go.RowKit Go.Sort

/-- Where the site with a code lies. -/
def pAt (xs : List Sit) (s : ByteArray) : Int × Int := if 0 ≤ sitIx s xs then (match xs[(sitIx s xs).toNat]? with | some b => (b.x, b.y) | none => (0, 0)) else (0, 0)
set_option maxRecDepth 100000 in
theorem specFind_any (xs : List Sit) (s : ByteArray) (A : Option Addr) (c : Nat) (w : World) (h : HasSit w xs A) :
    Calls Tryd.prog 87 #[.slice A xs.length c, .string s] w fun e w' => e = .returned (.int .i64 (sitIx s xs)) ∧ w = w' := by
  have HR := Lib.hid h.1
  have hm := h.2.1
  clear h
  have HX := Lib.hid (show sitIx s xs = ixS s (xs.map Sit.name) from rfl)
  have H0 := Lib.hid (ixT_zero s (xs.map Sit.name))
  generalize sitIx s xs = r at HX ⊢
  go_enter Tryd.func87, Tryd.ntmps87
  go_wp2_with fail
  go_loop [5] (fun v5 => ∃ k : Nat, k ≤ xs.length ∧ Hid (ixS s (xs.map Sit.name) = ixT s (xs.map Sit.name) k) ∧ v5 = .int .i64 k) (fun i => xs.length - (intOf i).toNat)
  case atStart => exact ⟨0, by omega, H0.out.symm, rfl⟩
  case round =>
    obtain ⟨k, hk, HK, rfl⟩ := hrel
    by_cases hlt : k < xs.length
    · have hl' : k < (xs.map Sit.name).length := by simpa using hlt
      have hat : (xs.map Sit.name)[k] = xs[k].name := by simp
      obtain ⟨ab, ao, rfl, hadb, hcell⟩ := HR.out.2 (by omega)
      have c0 := hcell _ _ (siC_get xs k hlt).1
      clear hcell
      have HH := Lib.hid (fun e => ixT_hit (x := s) hl' e)
      have HM := Lib.hid (fun e => ixT_miss (x := s) hl' e)
      rw [hat] at HH HM
      clear hat
      generalize xs[k].name = a at c0 HH HM
      have hc := str_eq a s
      by_cases he : a = s
      · have HV := Lib.hid (HX.out.trans (HK.out.trans (HH.out he.symm)))
        rw [decide_eq_true he] at hc
        clear he
        go_wp2_with fail
        go_ret
        exact ⟨ret_int HV.out.symm, rfl⟩
      · have HV := Lib.hid (HK.out.trans (HM.out (fun h => he h.symm)))
        rw [decide_eq_false he] at hc
        clear he
        go_wp2_with fail
        go_round
        case rel => exact ⟨k + 1, by omega, HV.out, by go_num⟩
        case measure => simp [intOf]; omega
    · obtain rfl : k = xs.length := by omega
      have HV := Lib.hid (show r = -1 by
        have := ixT_end (x := s) (L := xs.map Sit.name)
        rw [List.length_map] at this
        rw [HX.out, HK.out, this])
      go_wp2_with fail
      go_ret
      exact ⟨ret_int HV.out.symm, rfl⟩
set_option maxRecDepth 100000 in
set_option maxHeartbeats 1000000 in
theorem implFind_any (xs : List Sit) (ha : areS xs = true) (s : ByteArray) (A : Option Addr) (c : Nat) (w : World) (h : HasSit w xs A) :
    Calls Tryd.prog 85 #[.slice A xs.length c, .string s] w fun e w' => e = .returned (.tuple #[.agg #[.int .i64 (pAt xs s).1, .int .i64 (pAt xs s).2], .bool (decide (0 ≤ sitIx s xs))]) ∧ Below w.heap.size w w' := by
  have HS := Lib.hid (fun W (hb : Below w.heap.size w W) => searchT_any xs ha s A c W (h.below hb).1)
  have HF := Lib.hid (fnd_ix ha s)
  have HP := Lib.hid (show pAt xs s = if 0 ≤ sitIx s xs then (match xs[(sitIx s xs).toNat]? with | some b => (b.x, b.y) | none => (0, 0)) else (0, 0) from rfl)
  have HR := Lib.hid (fun W (hb : Below w.heap.size w W) => (h.below hb).1)
  have hm := h.2.1
  have KN := Lib.hid (blks_one w 52 #[.int .i64 0, .int .i64 0])
  clear h ha
  generalize pAt xs s = pp at HP ⊢
  generalize sitIx s xs = ix at HF HP ⊢
  cases hf : fndT xs s
  · have HI := Lib.hid (HF.out.2 hf)
    have HP2 := Lib.hid (show pp = (0, 0) by rw [HP.out, if_neg (by rw [HI.out]; decide)])
    rw [hf] at HS
    clear hf HF HP
    go_enter Tryd.func85, Tryd.ntmps85
    go_wp2_with fail
    generalize hW : w.alloc (.cells #[.int .i64 0, .int .i64 0] 52) = W
    obtain ⟨kb, bw, hsz⟩ := KN.out W hW.symm
    clear hW hsz
    refine (HS.out W bw).mono ?_; rintro e w1 ⟨rfl, b1⟩
    have KB := Lib.hid (kb.below b1 kb.lt); have B1 := Lib.hid (bw.trans (b1.mono bw.size)); clear kb bw b1
    obtain ⟨g0, g1, g2, g3, g4, g5⟩ := facts_2 KB.out
    go_wp2_with fail
    refine bodyPost_ret (v := .tuple #[.agg #[.int .i64 pp.1, .int .i64 pp.2], .bool (decide (0 ≤ ix))]) (by rw [HP2.out, HI.out]; simp [results, Tryd.results85, go_sem, g4, g5]) rfl ⟨rfl, ?_⟩
    exact (B1.out.setCell (by dsimp only; omega) _).setCell (by dsimp only; omega) _
  · obtain ⟨hi, hlt⟩ := HF.out.1 hf
    have HI := Lib.hid hi; clear hi
    have HP2 := Lib.hid (show pp = (xs[posT xs s].x, xs[posT xs s].y) by
      rw [HP.out, HI.out, if_pos (by omega), Int.toNat_natCast, List.getElem?_eq_getElem hlt])
    rw [hf] at HS
    clear hf HF HP
    generalize posT xs s = ps at *
    go_enter Tryd.func85, Tryd.ntmps85
    go_wp2_with fail
    generalize hW : w.alloc (.cells #[.int .i64 0, .int .i64 0] 52) = W
    obtain ⟨kb, bw, hsz⟩ := KN.out W hW.symm
    clear hW hsz
    refine (HS.out W bw).mono ?_; rintro e w1 ⟨rfl, b1⟩
    have KB := Lib.hid (kb.below b1 kb.lt); have B1 := Lib.hid (bw.trans (b1.mono bw.size)); clear kb bw b1
    obtain ⟨g0, g1, g2, g3, g4, g5⟩ := facts_2 KB.out
    obtain ⟨ab, ao, rfl, hadb, hcell⟩ := (HR.out w1 B1.out).2 (by omega)
    obtain ⟨_, e1, e2⟩ := siC_get xs ps hlt
    have c1 := hcell _ _ e1
    have c2 := hcell _ _ e2
    rw [← Nat.add_assoc] at c1 c2
    clear hcell e1 e2
    generalize xs[ps] = b at c1 c2 HP2
    go_wp2_with fail
    refine bodyPost_ret (v := .tuple #[.agg #[.int .i64 pp.1, .int .i64 pp.2], .bool (decide (0 ≤ ix))]) (by rw [HP2.out, HI.out]; simp [results, Tryd.results85, go_sem, g4, g5]) rfl ⟨rfl, ?_⟩
    exact (B1.out.setCell (by dsimp only; omega) _).setCell (by dsimp only; omega) _
end Go.Proofs.YtnbpbidflacoiaaDoor
namespace Go.Proofs.YtnbpbidflacoiaaDoor
open Go.ChangeShapes Go.WideShapes Go.ChangeAt Go.RowKit Go.Sort

def placesD (d : Dsc) : List ByteArray := if d.kind = 3 then [d.a, d.b] else [d.a]
def placesR (d : Dsc) : List ByteArray := if isD d = true then placesD d else []
def placesC (d : Dsc) : Int := if isD d = true then 0 else 1
theorem new_own2 {w : World} {base : Nat} (hb : base ≤ w.heap.size) (a b : ByteArray) : (w.alloc (.cells #[.string a, .string b] 9)).ownsRow base 9 1 (.slice (some ⟨w.heap.size, 0, none⟩) 2 2) 2 (txC [a, b]) :=
  own_blk (Blk.new w 9 (txC [a, b]).toArray) rfl hb (by decide)
theorem new_own1 {w : World} {base : Nat} (hb : base ≤ w.heap.size) (a : ByteArray) : (w.alloc (.cells #[.string a] 9)).ownsRow base 9 1 (.slice (some ⟨w.heap.size, 0, none⟩) 1 1) 1 (txC [a]) :=
  own_blk (Blk.new w 9 (txC [a]).toArray) rfl hb (by decide)
theorem new_own2' (w : World) (o : Obj) (a b : ByteArray) : ((w.alloc o).alloc (.cells #[.string a, .string b] 9)).ownsRow w.heap.size 9 1 (.slice (some ⟨w.heap.size + 1, 0, none⟩) 2 2) 2 (txC [a, b]) := by
  have := new_own2 (w := w.alloc o) (base := w.heap.size) (by simp) a b
  rw [show (w.alloc o).heap.size = w.heap.size + 1 by simp] at this
  exact this
theorem new_own1' (w : World) (o : Obj) (a : ByteArray) : ((w.alloc o).alloc (.cells #[.string a] 9)).ownsRow w.heap.size 9 1 (.slice (some ⟨w.heap.size + 1, 0, none⟩) 1 1) 1 (txC [a]) := by
  have := new_own1 (w := w.alloc o) (base := w.heap.size) (by simp) a
  rw [show (w.alloc o).heap.size = w.heap.size + 1 by simp] at this
  exact this
set_option maxRecDepth 100000 in
theorem places_any (d : Dsc) (w : World) :
    Calls Tryd.prog 48 #[d.val] w fun e w' => ∃ v, e = .returned v ∧ w'.ownsRow w.heap.size 9 1 v (placesD d).length (txC (placesD d)) ∧ Below w.heap.size w w' := by
  obtain ⟨kind, count, unit, dir, a, b⟩ := d
  unfold Dsc.val placesD
  dsimp only
  by_cases hk : kind = 3
  · rw [if_pos hk]
    subst hk
    go_enter Tryd.func48, Tryd.ntmps48
    go_wp2_with fail
    go_ret
    refine ⟨_, rfl, new_own2' _ _ _ _, by (repeat (first | exact Below.refl _ _ | assumption | refine Below.drew ?_ | refine below_drewN' ?_ _ | refine Below.alloc ?_ (by (try simp); (try omega)) _ | refine Below.setCell ?_ (by (try simp); (try omega)) _))⟩
  · rw [if_neg hk]
    have q : (kind == 3) = false := by simpa using hk
    clear hk
    go_enter Tryd.func48, Tryd.ntmps48
    go_wp2_with fail
    go_ret
    refine ⟨_, rfl, new_own1' _ _ _, by (repeat (first | exact Below.refl _ _ | assumption | refine Below.drew ?_ | refine below_drewN' ?_ _ | refine Below.alloc ?_ (by (try simp); (try omega)) _ | refine Below.setCell ?_ (by (try simp); (try omega)) _))⟩
set_option maxRecDepth 100000 in
set_option maxHeartbeats 1000000 in
theorem specPl_any (d : Dsc) (hd : d.Ok) (w : World) :
    Calls Tryd.prog 22 #[d.val] w fun e w' => ∃ v, e = .returned (.tuple #[v, .int .i64 (placesC d)]) ∧ w'.ownsRow w.heap.size 9 1 v (placesR d).length (txC (placesR d)) ∧ Below w.heap.size w w' := by
  have HS := Lib.hid (specIsD_any d hd)
  have HR := Lib.hid (show placesR d = if isD d = true then (if d.kind = 3 then [d.a, d.b] else [d.a]) else [] from rfl)
  have HC := Lib.hid (show placesC d = if isD d = true then 0 else 1 from rfl)
  generalize placesR d = L at HR ⊢
  generalize placesC d = c at HC ⊢
  generalize isD d = i at HS HR HC
  obtain ⟨kind, count, unit, dir, a, b⟩ := d
  unfold Dsc.val at HS ⊢
  dsimp only at HS HR HC ⊢
  have KN := Lib.hid (dsc_new w 25 #[.int .i64 kind, .int .i64 count, .string unit, .int .i64 dir, .string a, .string b])
  cases i
  · go_enter Tryd.func22, Tryd.ntmps22
    go_wp2_with fail
    generalize hW : w.alloc (.cells #[.int .i64 kind, .int .i64 count, .string unit, .int .i64 dir, .string a, .string b] 25) = W
    obtain ⟨bk, bw⟩ := KN.out W hW.symm
    clear hW
    refine (HS.out W).mono ?_; rintro e w1 ⟨rfl, b1⟩
    go_wp2_with fail
    go_ret2
    exact ⟨_, by rw [HC.out]; rfl, by rw [HR.out]; exact World.ownsRow_nil _ _ _ _, bw.trans (b1.mono bw.size)⟩
  · by_cases hk : kind = 3
    · have hk2 : (kind == 3) = true := by simpa using hk
      rw [if_pos rfl, if_pos hk] at HR
      clear hk
      go_enter Tryd.func22, Tryd.ntmps22
      go_wp2_with fail
      generalize hW : w.alloc (.cells #[.int .i64 kind, .int .i64 count, .string unit, .int .i64 dir, .string a, .string b] 25) = W
      obtain ⟨bk, bw⟩ := KN.out W hW.symm
      clear hW
      refine (HS.out W).mono ?_; rintro e w1 ⟨rfl, b1⟩
      obtain ⟨k0, k1, k2, k3, k4, k5⟩ := dsc_cells (bk.below b1 bk.lt)
      have B1 := Lib.hid (bw.trans (b1.mono bw.size)); clear b1 bw bk
      go_wp2_with fail
      go_ret2
      exact ⟨_, by rw [HC.out]; rfl, by rw [HR.out]; exact new_own2 B1.out.size a b, B1.out.alloc B1.out.size _⟩
    · have hk2 : (kind == 3) = false := by simpa using hk
      rw [if_pos rfl, if_neg hk] at HR
      clear hk
      go_enter Tryd.func22, Tryd.ntmps22
      go_wp2_with fail
      generalize hW : w.alloc (.cells #[.int .i64 kind, .int .i64 count, .string unit, .int .i64 dir, .string a, .string b] 25) = W
      obtain ⟨bk, bw⟩ := KN.out W hW.symm
      clear hW
      refine (HS.out W).mono ?_; rintro e w1 ⟨rfl, b1⟩
      obtain ⟨k0, k1, k2, k3, k4, k5⟩ := dsc_cells (bk.below b1 bk.lt)
      have B1 := Lib.hid (bw.trans (b1.mono bw.size)); clear b1 bw bk
      go_wp2_with fail
      go_ret2
      exact ⟨_, by rw [HC.out]; rfl, by rw [HR.out]; exact new_own1 B1.out.size a, B1.out.alloc B1.out.size _⟩
set_option maxRecDepth 100000 in
set_option maxHeartbeats 1000000 in
theorem implPl_any (d : Dsc) (hd : d.Ok) (w : World) (hdir : Dirs w) :
    Calls Tryd.prog 21 #[d.val] w fun e w' => ∃ v, e = .returned (.tuple #[v, .int .i64 (placesC d)]) ∧ w'.ownsRow w.heap.size 9 1 v (placesR d).length (txC (placesR d)) ∧ Below w.heap.size w w' := by
  have HS := Lib.hid (fun W (h : Below w.heap.size w W) => implIsD_any d hd W (hdir.below h))
  have HP := Lib.hid (places_any d)
  have HR := Lib.hid (show placesR d = if isD d = true then placesD d else [] from rfl)
  have HC := Lib.hid (show placesC d = if isD d = true then 0 else 1 from rfl)
  generalize placesR d = L at HR ⊢
  generalize placesC d = c at HC ⊢
  generalize placesD d = M at HR HP
  generalize isD d = i at HS HR HC
  obtain ⟨kind, count, unit, dir, a, b⟩ := d
  unfold Dsc.val at HS HP ⊢
  dsimp only at HS HP ⊢
  have KN := Lib.hid (dsc_new w 25 #[.int .i64 kind, .int .i64 count, .string unit, .int .i64 dir, .string a, .string b])
  cases i
  all_goals
    go_enter Tryd.func21, Tryd.ntmps21
    go_wp2_with fail
    generalize hW : w.alloc (.cells #[.int .i64 kind, .int .i64 count, .string unit, .int .i64 dir, .string a, .string b] 25) = W
    obtain ⟨bk, bw⟩ := KN.out W hW.symm
    clear hW
    refine (HS.out W bw).mono ?_; rintro e w1 ⟨rfl, b1⟩
    obtain ⟨k0, k1, k2, k3, k4, k5⟩ := dsc_cells (bk.below b1 bk.lt)
    have B1 := Lib.hid (bw.trans (b1.mono bw.size)); clear b1 bw bk
    go_wp2_with fail
  · go_ret2
    exact ⟨_, by rw [HC.out]; rfl, by rw [HR.out]; exact World.ownsRow_nil _ _ _ _, B1.out⟩
  · refine (HP.out _).mono ?_; rintro e w2 ⟨v, rfl, own, b2⟩
    go_wp2_with fail
    go_ret2
    exact ⟨_, by rw [HC.out]; rfl, by rw [HR.out]; exact own_mono own B1.out.size, B1.out.trans (b2.mono B1.out.size)⟩
end Go.Proofs.YtnbpbidflacoiaaDoor
namespace Go.Proofs.YtnbpbidflacoiaaDoor
open Go.ChangeShapes Go.WideShapes Go.ChangeAt Go.RowKit Go.Sort

def missD (xs : List Sit) (d : Dsc) : Bool := decide (sitIx d.a xs < 0) || (!decide (d.b = ⟨#[]⟩) && decide (sitIx d.b xs < 0))
/-- The code of sites and descriptions; something else is as it should be or not. -/
def codeS (xs : List Sit) (ds : List Dsc) (ok : Bool) : Int := if (areS xs && (ok && ds.all isD)) = true then (if ds.any (missD xs) = true then 4 else if 8 < ds.length then 3 else 0) else 1
theorem all_take_d (ds : List Dsc) (p : Dsc → Bool) (k : Nat) (h : k < ds.length) : (ds.take (k + 1)).all p = ((ds.take k).all p && p ds[k]) := by
  rw [List.take_succ_eq_append_getElem h, List.all_append]; simp
theorem any_take_d (ds : List Dsc) (p : Dsc → Bool) (k : Nat) (h : k < ds.length) : (ds.take (k + 1)).any p = ((ds.take k).any p || p ds[k]) := by
  rw [List.take_succ_eq_append_getElem h, List.any_append]; simp
set_option maxRecDepth 100000 in
set_option maxHeartbeats 4000000 in
theorem specCodeS_any (xs : List Sit) (ds : List Dsc) (A B : Option Addr) (c d : Nat) (w : World) (h : HasSit w xs A) (h2 : HasDsc w ds B) :
    Calls Tryd.prog 60 #[.slice A xs.length c, .slice B ds.length d] w fun e w' => e = .returned (.int .i64 (codeS xs ds true)) ∧ Below w.heap.size w w' := by
  have HA := Lib.hid (specAreS_any xs A c w h.1 h.2.1 h.2.2)
  have HD := Lib.hid (fun W (hb : Below w.heap.size w W) => (h2.below hb).1)
  have HK := Lib.hid h2.2.2
  have hm := h2.2.1
  have HF := Lib.hid (fun s W (hb : Below w.heap.size w W) => specFind_any xs s A c W (h.below hb))
  have HX := Lib.hid (show codeS xs ds true = if (areS xs && (true && ds.all isD)) = true then (if ds.any (missD xs) = true then 4 else if 8 < ds.length then 3 else 0) else 1 from rfl)
  clear h h2
  generalize codeS xs ds true = r at HX ⊢
  cases ha : areS xs
  · rw [ha] at HA HX
    clear ha
    go_enter Tryd.func60, Tryd.ntmps60
    go_wp2_with fail
    refine HA.out.mono ?_; rintro e w1 ⟨rfl, b1⟩
    go_wp2_with fail
    go_ret
    exact ⟨ret_int (by rw [HX.out]; rfl), b1⟩
  rw [ha] at HA HX
  clear ha
  go_enter Tryd.func60, Tryd.ntmps60
  go_wp2_with fail
  refine HA.out.mono ?_; rintro e w0 ⟨rfl, b0⟩
  have B0 := Lib.hid b0; clear b0
  go_wp2_with fail
  go_loopw [5] (fun v5 wr => ∃ k : Nat, k ≤ ds.length ∧ Hid ((ds.take k).all isD = true) ∧ Hid (Below w.heap.size w wr) ∧ v5 = .int .i64 k) (fun i _ => ds.length - (intOf i).toNat)
  case atStart => exact ⟨0, by omega, by simp [Hid], B0.out, rfl⟩
  case round =>
    obtain ⟨k, hk, HT, BW, rfl⟩ := hrel
    by_cases hlt : k < ds.length
    · obtain ⟨ab, ao, rfl, hadb, hcell⟩ := (HD.out wr BW.out).2 (by omega)
      obtain ⟨e0, e1, e2, e3, e4, e5⟩ := dsC_get ds k hlt
      have c0 := hcell _ _ e0
      have c1 := hcell _ _ e1
      have c2 := hcell _ _ e2
      have c3 := hcell _ _ e3
      have c4 := hcell _ _ e4
      have c5 := hcell _ _ e5
      rw [← Nat.add_assoc] at c1 c2 c3 c4 c5
      clear hcell e0 e1 e2 e3 e4 e5
      have HS := Lib.hid (all_take_d ds isD k hlt)
      have HI := Lib.hid (specIsD_any ds[k] (HK.out _ (List.getElem_mem hlt)))
      have HN : Hid (isD ds[k] = false → ds.all isD = false) := fun h => by
        have h1 := HS.out
        rw [h, Bool.and_false] at h1
        rw [← List.take_append_drop (k + 1) ds, List.all_append, h1, Bool.false_and]
      unfold Dsc.val at HI
      generalize ds[k] = b at c0 c1 c2 c3 c4 c5 HS HI HN
      cases hb : isD b
      · have HV := Lib.hid (show r = 1 by rw [HX.out, HN.out hb]; rfl)
        rw [hb] at HI
        clear hb
        go_wp2_with fail
        refine (HI.out _).mono ?_; rintro e w1 ⟨rfl, b1⟩
        go_wp2_with fail
        go_ret
        exact ⟨ret_int HV.out.symm, BW.out.trans (b1.mono BW.out.size)⟩
      · have HV := Lib.hid (show (ds.take (k + 1)).all isD = true by rw [HS.out, HT.out, hb]; rfl)
        rw [hb] at HI
        clear hb
        go_wp2_with fail
        refine (HI.out _).mono ?_; rintro e w1 ⟨rfl, b1⟩
        go_wp2_with fail
        go_roundw
        case rel => exact ⟨k + 1, by omega, HV.out, BW.out.trans (b1.mono BW.out.size), by go_num⟩
        case measure => simp [intOf]; omega
    · obtain rfl : k = ds.length := by omega
      have HX2 := Lib.hid (show r = if ds.any (missD xs) = true then 4 else if 8 < ds.length then 3 else 0 by
        have := HT.out
        rw [List.take_length] at this
        rw [HX.out, this]; rfl)
      clear HX
      go_wp2_with fail
      go_loopw [6] (fun v6 wr => ∃ k : Nat, k ≤ ds.length ∧ Hid ((ds.take k).any (missD xs) = false) ∧ Hid (Below w.heap.size w wr) ∧ v6 = .int .i64 k) (fun i _ => ds.length - (intOf i).toNat)
      case atStart => exact ⟨0, by omega, by simp [Hid], BW.out, rfl⟩
      case round =>
        obtain ⟨k, hk, HT2, BQ, rfl⟩ := hrel
        by_cases hlt : k < ds.length
        · obtain ⟨ab, ao, rfl, hadb, hcell⟩ := (HD.out wr BQ.out).2 (by omega)
          obtain ⟨e0, e1, e2, e3, e4, e5⟩ := dsC_get ds k hlt
          have c0 := hcell _ _ e0
          have c1 := hcell _ _ e1
          have c2 := hcell _ _ e2
          have c3 := hcell _ _ e3
          have c4 := hcell _ _ e4
          have c5 := hcell _ _ e5
          rw [← Nat.add_assoc] at c1 c2 c3 c4 c5
          clear hcell e0 e1 e2 e3 e4 e5
          have HS := Lib.hid (any_take_d ds (missD xs) k hlt)
          have HN := Lib.hid (show missD xs ds[k] = true → ds.any (missD xs) = true from fun h => List.any_eq_true.2 ⟨_, List.getElem_mem hlt, h⟩)
          generalize ds[k] = b at c0 c1 c2 c3 c4 c5 HS HN
          have T3 := Lib.hid (blks_one wr 25 #[.int .i64 b.kind, .int .i64 b.count, .string b.unit, .int .i64 b.dir, .string b.a, .string b.b])
          go_upto_region 12 with (fail)
          generalize hW : wr.alloc (.cells #[.int .i64 b.kind, .int .i64 b.count, .string b.unit, .int .i64 b.dir, .string b.a, .string b.b] 25) = W1
          obtain ⟨kb, bw, hsz⟩ := T3.out W1 hW.symm
          clear hW hsz c0 c1 c2 c3 c4 c5
          obtain ⟨x0, x1, x2, x3, x4, x5⟩ := cells_6 kb
          have B1 := Lib.hid (BQ.out.trans (bw.mono BQ.out.size)); clear kb bw
          have F1 := Lib.hid (HF.out b.a W1 B1.out)
          have F2 := Lib.hid (HF.out b.b W1 B1.out)
          have HM := Lib.hid (show missD xs b = (decide (sitIx b.a xs < 0) || (!decide (b.b = ⟨#[]⟩) && decide (sitIx b.b xs < 0))) from rfl)
          generalize missD xs b = ms at HS HN HM
          generalize sitIx b.a xs = ia at F1 HM
          generalize sitIx b.b xs = ib at F2 HM
          have sb := str_lit b.b []
          by_cases h1 : ia < 0
          · have HV := Lib.hid (show r = 4 by rw [HX2.out, if_pos (HN.out (by rw [HM.out, decide_eq_true h1]; rfl))])
            go_wp2_with fail
            refine F1.out.mono ?_; rintro e w' ⟨rfl, rfl⟩
            go_wp2_with fail
            go_ret
            exact ⟨ret_int HV.out.symm, B1.out⟩
          · by_cases h2 : b.b = ⟨#[]⟩
            · have HV := Lib.hid (show (ds.take (k + 1)).any (missD xs) = false by rw [HS.out, HT2.out, HM.out, decide_eq_false h1, decide_eq_true h2]; rfl)
              rw [decide_eq_true h2] at sb
              clear h2
              go_wp2_with fail
              refine F1.out.mono ?_; rintro e w' ⟨rfl, rfl⟩
              go_wp2_with fail
              go_roundw
              case rel => exact ⟨k + 1, by omega, HV.out, B1.out, by go_num⟩
              case measure => simp [intOf]; omega
            · by_cases h3 : ib < 0
              · have HV := Lib.hid (show r = 4 by rw [HX2.out, if_pos (HN.out (by rw [HM.out, decide_eq_true h3, decide_eq_false h2]; simp))])
                rw [decide_eq_false h2] at sb
                clear h2
                go_wp2_with fail
                refine F1.out.mono ?_; rintro e w' ⟨rfl, rfl⟩
                go_wp2_with fail
                refine F2.out.mono ?_; rintro e w' ⟨rfl, rfl⟩
                go_wp2_with fail
                go_ret
                exact ⟨ret_int HV.out.symm, B1.out⟩
              · have HV := Lib.hid (show (ds.take (k + 1)).any (missD xs) = false by rw [HS.out, HT2.out, HM.out, decide_eq_false h1, decide_eq_false h3, Bool.and_false]; rfl)
                rw [decide_eq_false h2] at sb
                clear h2
                go_wp2_with fail
                refine F1.out.mono ?_; rintro e w' ⟨rfl, rfl⟩
                go_wp2_with fail
                refine F2.out.mono ?_; rintro e w' ⟨rfl, rfl⟩
                go_wp2_with fail
                go_roundw
                case rel => exact ⟨k + 1, by omega, HV.out, B1.out, by go_num⟩
                case measure => simp [intOf]; omega
        · obtain rfl : k = ds.length := by omega
          have HX3 := Lib.hid (show r = if 8 < ds.length then 3 else 0 by
            have := HT2.out
            rw [List.take_length] at this
            rw [HX2.out, this]; rfl)
          by_cases h8 : 8 < ds.length
          · rw [if_pos h8] at HX3
            go_wp2_with fail
            go_ret
            exact ⟨ret_int HX3.out.symm, BQ.out⟩
          · rw [if_neg h8] at HX3
            go_wp2_with fail
            go_ret
            exact ⟨ret_int HX3.out.symm, BQ.out⟩
end Go.Proofs.YtnbpbidflacoiaaDoor
namespace Go.Proofs.YtnbpbidflacoiaaDoor
open Go.ChangeShapes Go.WideShapes Go.ChangeAt Go.RowKit

set_option maxRecDepth 100000 in
theorem badDIdx_any (p : Dsc → Bool) (xs : List Dsc) (A : Option Addr) (c : Nat) (w : World) (hr : Reads w w.heap.size 6 A xs.length (dsC xs)) (hm : xs.length ≤ 9223372036854775807)
    (hp : ∀ b ∈ xs, ∀ W, Below w.heap.size w W → Calls Tryd.prog 84 #[b.val] W fun e w' => e = .returned (.bool (p b)) ∧ Below W.heap.size W w') :
    Calls Tryd.prog 101 #[.slice A xs.length c, .func (.func 84) #[] #[]] w fun e w' => ∃ i : Int, e = .returned (.int .i64 i) ∧ decide (0 ≤ i) = xs.any p ∧ Below w.heap.size w w' := by
  have HR := Lib.hid hr; clear hr
  have HP := Lib.hid hp; clear hp
  go_enter Tryd.func101, Tryd.ntmps101
  go_wp2_with fail
  go_loopw [8] (fun v8 wr => ∃ k : Nat, k ≤ xs.length ∧ Hid ((xs.take k).any p = false) ∧ Hid (Below w.heap.size w wr) ∧ v8 = .int .i64 k) (fun i _ => xs.length - (intOf i).toNat)
  case atStart => exact ⟨0, by omega, by simp [Hid], Below.refl _ _, rfl⟩
  case round =>
    obtain ⟨k, hk, HT, BW, rfl⟩ := hrel
    by_cases hlt : k < xs.length
    · obtain ⟨ab, ao, rfl, hadb, hcell⟩ := (HR.out.below BW.out).2 (by omega)
      obtain ⟨e0, e1, e2, e3, e4, e5⟩ := dsC_get xs k hlt
      have c0 := hcell _ _ e0
      have c1 := hcell _ _ e1
      have c2 := hcell _ _ e2
      have c3 := hcell _ _ e3
      have c4 := hcell _ _ e4
      have c5 := hcell _ _ e5
      rw [← Nat.add_assoc] at c1 c2 c3 c4 c5
      clear hcell e0 e1 e2 e3 e4 e5
      have HC := Lib.hid (HP.out xs[k] (List.getElem_mem hlt) wr BW.out)
      have HS := Lib.hid (show (xs.take (k + 1)).any p = ((xs.take k).any p || p xs[k]) by rw [List.take_succ_eq_append_getElem hlt, List.any_append]; simp)
      have HY := Lib.hid (show p xs[k] = true → xs.any p = true from fun h => List.any_eq_true.2 ⟨_, List.getElem_mem hlt, h⟩)
      unfold Dsc.val at HC
      generalize xs[k] = b at c0 c1 c2 c3 c4 c5 HC HS HY
      cases hb : p b
      · rw [hb] at HC HS
        have HN := Lib.hid (show (xs.take (k + 1)).any p = false by rw [HS.out, HT.out]; rfl)
        clear hb
        go_wp2_with fail
        refine HC.out.mono ?_; rintro e w1 ⟨rfl, b1⟩
        go_wp2_with fail
        go_roundw
        case rel => exact ⟨k + 1, by omega, HN.out, BW.out.trans (b1.mono BW.out.size), by go_num⟩
        case measure => simp [intOf]; omega
      · rw [hb] at HC
        have HN := Lib.hid (HY.out hb)
        clear hb
        go_wp2_with fail
        refine HC.out.mono ?_; rintro e w1 ⟨rfl, b1⟩
        go_wp2_with fail
        go_ret
        exact ⟨k, rfl, by rw [HN.out]; simp, BW.out.trans (b1.mono BW.out.size)⟩
    · obtain rfl : k = xs.length := by omega
      have HN := Lib.hid (show xs.any p = false by have := HT.out; rwa [List.take_length] at this)
      go_wp2_with fail
      go_ret
      exact ⟨-1, rfl, by rw [HN.out]; rfl, BW.out⟩
theorem badDHas_any (p : Dsc → Bool) (xs : List Dsc) (A : Option Addr) (c : Nat) (w : World) (hr : Reads w w.heap.size 6 A xs.length (dsC xs)) (hm : xs.length ≤ 9223372036854775807)
    (hp : ∀ b ∈ xs, ∀ W, Below w.heap.size w W → Calls Tryd.prog 84 #[b.val] W fun e w' => e = .returned (.bool (p b)) ∧ Below W.heap.size W w') :
    Calls Tryd.prog 83 #[.slice A xs.length c, .func (.func 84) #[] #[]] w fun e w' => e = .returned (.bool (xs.any p)) ∧ Below w.heap.size w w' := by
  have HC := Lib.hid (badDIdx_any p xs A c w hr hm hp); clear hr hp
  generalize xs.any p = r at HC ⊢
  go_enter Tryd.func83, Tryd.ntmps83
  go_wp2_with fail
  refine HC.out.mono ?_; rintro e w1 ⟨i, rfl, hi, b1⟩
  have HI := Lib.hid hi; clear hi
  go_wp2_with fail
  go_ret
  exact ⟨ret_bool HI.out, b1⟩
end Go.Proofs.YtnbpbidflacoiaaDoor
namespace Go.Proofs.YtnbpbidflacoiaaDoor
open Go.ChangeShapes Go.WideShapes Go.ChangeAt Go.RowKit Go.Sort

theorem badD1_any (d : Dsc) (hd : d.Ok) (w : World) (hdir : Dirs w) : Calls Tryd.prog 84 #[d.val] w fun e w' => e = .returned (.bool (!isD d)) ∧ Below w.heap.size w w' := by
  have HE := Lib.hid (fun W (hb : Below w.heap.size w W) => implIsD_any d hd W (hdir.below hb))
  have KN := Lib.hid (blks_one w 25 #[.int .i64 d.kind, .int .i64 d.count, .string d.unit, .int .i64 d.dir, .string d.a, .string d.b])
  unfold Dsc.val at HE ⊢
  generalize isD d = r at *
  go_enter Tryd.func84, Tryd.ntmps84
  go_wp2_with fail
  generalize hW : w.alloc (.cells #[.int .i64 d.kind, .int .i64 d.count, .string d.unit, .int .i64 d.dir, .string d.a, .string d.b] 25) = W
  obtain ⟨bk, bw, hsz⟩ := KN.out W hW.symm
  clear hW hsz
  refine (HE.out W bw).mono ?_; rintro e w1 ⟨rfl, b1⟩
  go_wp2_with fail
  go_ret
  exact ⟨rfl, bw.trans (b1.mono bw.size)⟩
theorem isD_b {d : Dsc} (h : isD d = true) (hk : d.kind ≠ 3) : d.b = ⟨#[]⟩ := by
  unfold isD at h
  rw [Bool.and_eq_true] at h
  have h4 := h.2
  by_cases h2 : d.kind = 2
  · rw [if_pos h2] at h4
    simp only [Bool.and_eq_true, decide_eq_true_eq] at h4
    exact h4.2.2.2
  · rw [if_neg h2] at h4
    by_cases h01 : d.kind = 0 ∨ d.kind = 1
    · rw [if_pos h01] at h4
      simp only [Bool.and_eq_true, decide_eq_true_eq] at h4
      exact h4.2
    · rw [if_neg h01, decide_eq_false hk] at h4
      simp at h4
theorem isD_b3 {d : Dsc} (h : isD d = true) (hk : d.kind = 3) : d.b ≠ ⟨#[]⟩ := by
  unfold isD at h
  rw [Bool.and_eq_true] at h
  have h4 := h.2
  rw [if_neg (by omega), if_neg (by omega)] at h4
  simp only [Bool.and_eq_true, decide_eq_true_eq] at h4
  rintro e
  have h5 := h4.2.2.1
  rw [e] at h5
  simp [codeW, wordB, inB] at h5
  exact absurd h5.2.1.2 (by decide)
theorem miss_places {xs : List Sit} {d : Dsc} (h : isD d = true) : missD xs d = (placesD d).any (fun s => decide (sitIx s xs < 0)) := by
  unfold missD placesD
  by_cases hk : d.kind = 3
  · rw [if_pos hk, decide_eq_false (isD_b3 h hk)]
    simp
  · rw [if_neg hk, isD_b h hk]
    simp
theorem any_bad_d (ds : List Dsc) : ds.any (fun b => !isD b) = !(ds.all isD) := by
  induction ds with
  | nil => rfl
  | cons x r ih => simp only [List.any_cons, List.all_cons, ih]; cases isD x <;> simp
set_option maxRecDepth 100000 in
set_option maxHeartbeats 4000000 in
theorem implCodeS_any (xs : List Sit) (ds : List Dsc) (ok : Bool) (A B : Option Addr) (c d : Nat) (w : World) (h : HasSit w xs A) (h2 : HasDsc w ds B) (hdir : Dirs w) :
    Calls Tryd.prog 56 #[.slice A xs.length c, .slice B ds.length d, .bool ok] w fun e w' => e = .returned (.int .i64 (codeS xs ds ok)) ∧ Below w.heap.size w w' := by
  have HA := Lib.hid (implAreS_any xs A c w h.1 h.2.1 h.2.2 hdir)
  have HD := Lib.hid (fun W (hb : Below w.heap.size w W) => (h2.below hb).1)
  have hm := h2.2.1
  have HC := Lib.hid (fun W (hb : Below w.heap.size w W) => badDHas_any (fun b => !isD b) ds B d W (h2.below hb).1 h2.2.1 (fun b hb' W' hb2 => badD1_any b (h2.2.2 b hb') W' (hdir.below (hb.trans (hb2.mono hb.size)))))
  have HF := Lib.hid (fun (ha : areS xs = true) s W (hb : Below w.heap.size w W) => implFind_any xs ha s A c W (h.below hb))
  have HX := Lib.hid (show codeS xs ds ok = if (areS xs && (ok && ds.all isD)) = true then (if ds.any (missD xs) = true then 4 else if 8 < ds.length then 3 else 0) else 1 from rfl)
  have HQ := Lib.hid (show ds.any (fun b => !isD b) = !(ds.all isD) from any_bad_d ds)
  have HG := Lib.hid (show ds.all isD = true → ∀ b ∈ ds, isD b = true from fun h => List.all_eq_true.1 h)
  clear h h2 hdir
  generalize codeS xs ds ok = r at HX ⊢
  generalize ds.any (fun b => !isD b) = bad at HC HQ
  cases ha : areS xs
  · rw [ha] at HA HX
    clear ha HF
    go_enter Tryd.func56, Tryd.ntmps56
    go_wp2_with fail
    refine HA.out.mono ?_; rintro e w1 ⟨rfl, b1⟩
    go_wp2_with fail
    go_ret
    exact ⟨ret_int (by rw [HX.out]; rfl), b1⟩
  rw [ha] at HA HX
  have HF2 := Lib.hid (HF.out ha)
  clear ha HF
  cases ok
  · go_enter Tryd.func56, Tryd.ntmps56
    go_wp2_with fail
    refine HA.out.mono ?_; rintro e w1 ⟨rfl, b1⟩
    go_wp2_with fail
    go_ret
    exact ⟨ret_int (by rw [HX.out]; rfl), b1⟩
  cases hall : ds.all isD
  · rw [hall] at HX HQ
    have HQ2 := HQ.out
    rw [HQ2] at HC
    clear hall HQ HQ2
    go_enter Tryd.func56, Tryd.ntmps56
    go_wp2_with fail
    refine HA.out.mono ?_; rintro e w1 ⟨rfl, b1⟩
    go_wp2_with fail
    refine (HC.out w1 b1).mono ?_; rintro e w2 ⟨rfl, b2⟩
    go_wp2_with fail
    go_ret
    exact ⟨ret_int (by rw [HX.out]; rfl), b1.trans (b2.mono b1.size)⟩
  rw [hall] at HX HQ
  have HQ2 := HQ.out
  rw [HQ2] at HC
  have HGd := Lib.hid (HG.out hall)
  have HX2 := Lib.hid (show r = if ds.any (missD xs) = true then 4 else if 8 < ds.length then 3 else 0 by rw [HX.out]; rfl)
  clear hall HQ HQ2 HG HX
  go_enter Tryd.func56, Tryd.ntmps56
  go_wp2_with fail
  refine HA.out.mono ?_; rintro e w1 ⟨rfl, b1⟩
  go_wp2_with fail
  refine (HC.out w1 b1).mono ?_; rintro e w2 ⟨rfl, b2⟩
  have B2 := Lib.hid (b1.trans (b2.mono b1.size)); clear b1 b2
  go_wp2_with fail
  go_loopw [26] (fun v26 wr => ∃ k : Nat, k ≤ ds.length ∧ Hid ((ds.take k).any (missD xs) = false) ∧ Hid (Below w.heap.size w wr) ∧ v26 = .int .i64 k) (fun i _ => ds.length - (intOf i).toNat)
  case atStart => exact ⟨0, by omega, by simp [Hid], B2.out, rfl⟩
  case round =>
    obtain ⟨k, hk, HT, BW, rfl⟩ := hrel
    by_cases hlt : k < ds.length
    · obtain ⟨ab, ao, rfl, hadb, hcell⟩ := (HD.out wr BW.out).2 (by omega)
      obtain ⟨e0, e1, e2, e3, e4, e5⟩ := dsC_get ds k hlt
      have c0 := hcell _ _ e0
      have c1 := hcell _ _ e1
      have c2 := hcell _ _ e2
      have c3 := hcell _ _ e3
      have c4 := hcell _ _ e4
      have c5 := hcell _ _ e5
      rw [← Nat.add_assoc] at c1 c2 c3 c4 c5
      clear hcell e0 e1 e2 e3 e4 e5
      have HS := Lib.hid (any_take_d ds (missD xs) k hlt)
      have HN := Lib.hid (show missD xs ds[k] = true → ds.any (missD xs) = true from fun h => List.any_eq_true.2 ⟨_, List.getElem_mem hlt, h⟩)
      have HP := Lib.hid (miss_places (xs := xs) (HGd.out ds[k] (List.getElem_mem hlt)))
      generalize ds[k] = b at c0 c1 c2 c3 c4 c5 HS HN HP
      have T3 := Lib.hid (blks_one wr 25 #[.int .i64 b.kind, .int .i64 b.count, .string b.unit, .int .i64 b.dir, .string b.a, .string b.b])
      have HPl := Lib.hid (places_any b)
      unfold Dsc.val at HPl
      generalize missD xs b = ms at HS HN HP
      have hlen : (placesD b).length ≤ 2 := by unfold placesD; split <;> simp
      generalize placesD b = L at HP HPl hlen
      go_upto_region 6 with (fail)
      generalize hW : wr.alloc (.cells #[.int .i64 b.kind, .int .i64 b.count, .string b.unit, .int .i64 b.dir, .string b.a, .string b.b] 25) = W1
      obtain ⟨kb, bw, hsz⟩ := T3.out W1 hW.symm
      clear hW hsz c0 c1 c2 c3 c4 c5
      obtain ⟨x0, x1, x2, x3, x4, x5⟩ := cells_6 kb
      have B1 := Lib.hid (BW.out.trans (bw.mono BW.out.size)); clear kb bw
      go_wp2_with fail
      refine (HPl.out W1).mono ?_; rintro e w3 ⟨v, rfl, own3, b3⟩
      obtain ⟨A3, c3, rfl, _⟩ := own_shape own3
      have O3 := Lib.hid own3; have B3 := Lib.hid (B1.out.trans (b3.mono B1.out.size)); clear own3 b3
      go_wp2_with fail
      go_loopw [33] (fun v33 wr => ∃ j : Nat, j ≤ L.length ∧ Hid ((L.take j).any (fun s => decide (sitIx s xs < 0)) = false) ∧ Hid (Below w.heap.size w wr) ∧ Hid (wr.ownsRow W1.heap.size 9 1 (.slice A3 L.length c3) L.length (txC L)) ∧ v33 = .int .i64 j) (fun i _ => L.length - (intOf i).toNat)
      case atStart => exact ⟨0, by omega, by simp [Hid], B3.out, O3.out, rfl⟩
      case round =>
        obtain ⟨j, hj, HJ, BJ, OJ, rfl⟩ := hrel
        by_cases hjl : j < L.length
        · obtain ⟨sb, so, rfl, hsb, hcell⟩ := (Reads.of_own OJ.out).2 (by omega)
          have c0 := hcell _ _ (txC_get L j hjl)
          clear hcell
          have HJS := Lib.hid (show (L.take (j + 1)).any (fun s => decide (sitIx s xs < 0)) = ((L.take j).any (fun s => decide (sitIx s xs < 0)) || decide (sitIx L[j] xs < 0)) by rw [List.take_succ_eq_append_getElem hjl, List.any_append]; simp)
          have HJN := Lib.hid (show decide (sitIx L[j] xs < 0) = true → L.any (fun s => decide (sitIx s xs < 0)) = true from fun h => List.any_eq_true.2 ⟨_, List.getElem_mem hjl, h⟩)
          have HFj := Lib.hid (HF2.out L[j])
          generalize L[j] = s at c0 HJS HJN HFj
          generalize pAt xs s = pp at HFj
          generalize sitIx s xs = ix at HJS HJN HFj
          by_cases hix : 0 ≤ ix
          · have HV := Lib.hid (show (L.take (j + 1)).any (fun s => decide (sitIx s xs < 0)) = false by rw [HJS.out, HJ.out, decide_eq_false (by omega)]; rfl)
            rw [decide_eq_true hix] at HFj
            clear hix
            go_wp2_with fail
            refine (HFj.out _ BJ.out).mono ?_; rintro e w4 ⟨rfl, b4⟩
            have B4 := Lib.hid (BJ.out.trans (b4.mono BJ.out.size)); have O4 := Lib.hid (own_below OJ.out b4); clear b4
            go_wp2_with fail
            go_roundw
            case rel => exact ⟨j + 1, by omega, HV.out, B4.out.alloc B4.out.size _, O4.out.alloc _, by go_num⟩
            case measure => simp [intOf]; omega
          · have HV := Lib.hid (show r = 4 by rw [HX2.out, if_pos (HN.out (by rw [HP.out]; exact HJN.out (decide_eq_true (by omega))))])
            rw [decide_eq_false hix] at HFj
            clear hix
            go_wp2_with fail
            refine (HFj.out _ BJ.out).mono ?_; rintro e w4 ⟨rfl, b4⟩
            have B4 := Lib.hid (BJ.out.trans (b4.mono BJ.out.size)); clear b4
            go_wp2_with fail
            go_ret
            exact ⟨ret_int HV.out.symm, B4.out.alloc B4.out.size _⟩
        · obtain rfl : j = L.length := by omega
          have HV := Lib.hid (show (ds.take (k + 1)).any (missD xs) = false by
            have := HJ.out
            rw [List.take_length] at this
            rw [HS.out, HT.out, HP.out, this]; rfl)
          go_wp2_with fail
          go_roundw
          case rel => exact ⟨k + 1, by omega, HV.out, BJ.out, by go_num⟩
          case measure => simp [intOf]; omega
    · obtain rfl : k = ds.length := by omega
      have HX3 := Lib.hid (show r = if 8 < ds.length then 3 else 0 by
        have := HT.out
        rw [List.take_length] at this
        rw [HX2.out, this]; rfl)
      by_cases h8 : 8 < ds.length
      · rw [if_pos h8] at HX3
        go_wp2_with fail
        go_ret
        exact ⟨ret_int HX3.out.symm, BW.out⟩
      · rw [if_neg h8] at HX3
        go_wp2_with fail
        go_ret
        exact ⟨ret_int HX3.out.symm, BW.out⟩
end Go.Proofs.YtnbpbidflacoiaaDoor
namespace Go.Proofs.YtnbpbidflacoiaaDoor
open Go.ChangeShapes Go.WideShapes Go.ChangeAt Go.RowKit Go.Sort

def satV (xs : List Sit) (d : Dsc) (px py : Int) : Bool :=
  if d.kind = 0 then (decide (px = (pAt xs d.a).1) && decide (py = (pAt xs d.a).2))
  else if d.kind = 1 then decide (sq (pAt xs d.a).1 (pAt xs d.a).2 px py ≤ 64)
  else if d.kind = 2 then fromV d (pAt xs d.a).1 (pAt xs d.a).2 px py
  else betwV (pAt xs d.a).1 (pAt xs d.a).2 (pAt xs d.b).1 (pAt xs d.b).2 px py
theorem areS_bd {xs : List Sit} (h : areS xs = true) {b : Sit} (hb : b ∈ xs) : (-1000 ≤ b.x ∧ b.x ≤ 1000) ∧ (-1000 ≤ b.y ∧ b.y ≤ 1000) := by
  rw [areS, Bool.and_eq_true] at h
  obtain ⟨k, hk, rfl⟩ := List.getElem_of_mem hb
  have := areSTo_le (k := k + 1) hk h.1
  rw [areSTo, Bool.and_eq_true, goodS, List.getElem?_eq_getElem hk] at this
  have h2 := this.2
  simp only [Bool.and_eq_true, sitB, ptB, inB, decide_eq_true_eq] at h2
  omega
theorem pAt_co {xs : List Sit} (h : areS xs = true) (s : ByteArray) : Co (pAt xs s).1 ∧ Co (pAt xs s).2 := by
  unfold pAt
  split
  · cases hk : xs[(sitIx s xs).toNat]? with
    | none => exact ⟨by unfold Co; dsimp only; omega, by unfold Co; dsimp only; omega⟩
    | some b =>
      obtain ⟨⟨a1, a2⟩, a3, a4⟩ := areS_bd h (List.mem_of_getElem? hk)
      exact ⟨by unfold Co; dsimp only; omega, by unfold Co; dsimp only; omega⟩
  · exact ⟨by unfold Co; dsimp only; omega, by unfold Co; dsimp only; omega⟩
set_option maxRecDepth 100000 in
set_option maxHeartbeats 4000000 in
theorem implSat_any (xs : List Sit) (ha : areS xs = true) (d : Dsc) (hd : d.Ok) (hi : isD d = true) (px py : Int) (hp : Co px) (hq : Co py) (A : Option Addr) (c : Nat) (w : World) (h : HasSit w xs A) :
    Calls Tryd.prog 63 #[.slice A xs.length c, d.val, .agg #[.int .i64 px, .int .i64 py]] w fun e w' => e = .returned (.bool (satV xs d px py)) ∧ Below w.heap.size w w' := by
  have HF := Lib.hid (fun s W (hb : Below w.heap.size w W) => implFind_any xs ha s A c W (h.below hb))
  have KN := Lib.hid (blks_two w 25 52 #[.int .i64 d.kind, .int .i64 d.count, .string d.unit, .int .i64 d.dir, .string d.a, .string d.b] #[.int .i64 px, .int .i64 py])
  obtain ⟨a1, a2⟩ := pAt_co ha d.a
  obtain ⟨b1, b2⟩ := pAt_co ha d.b
  have HX := Lib.hid (show satV xs d px py = (if d.kind = 0 then (decide (px = (pAt xs d.a).1) && decide (py = (pAt xs d.a).2))
    else if d.kind = 1 then decide (sq (pAt xs d.a).1 (pAt xs d.a).2 px py ≤ 64)
    else if d.kind = 2 then fromV d (pAt xs d.a).1 (pAt xs d.a).2 px py
    else betwV (pAt xs d.a).1 (pAt xs d.a).2 (pAt xs d.b).1 (pAt xs d.b).2 px py) from rfl)
  have HFr := Lib.hid (fun hk => isFrom_any d hd hi hk _ _ px py a1 a2 hp hq)
  have HBt := Lib.hid (implBetw_any _ _ _ _ px py a1 a2 b1 b2 hp hq)
  have HSq := Lib.hid (implSq _ _ px py a1 a2 hp hq)
  have HFA := Lib.hid (HF.out d.a)
  have HFB := Lib.hid (HF.out d.b)
  generalize satV xs d px py = r at HX ⊢
  clear hi hd h ha hp hq a1 a2 b1 b2 HF
  generalize (pAt xs d.a).1 = ax at *
  generalize (pAt xs d.a).2 = ay at *
  generalize (pAt xs d.b).1 = bx at *
  generalize (pAt xs d.b).2 = bY at *
  generalize decide (0 ≤ sitIx d.a xs) = fa at HFA
  generalize decide (0 ≤ sitIx d.b xs) = fb at HFB
  generalize sq ax ay px py = s at *
  generalize fromV d ax ay px py = vf at *
  generalize betwV ax ay bx bY px py = vb at *
  unfold Dsc.val at HFr ⊢
  rcases (show d.kind = 0 ∨ d.kind = 1 ∨ d.kind = 2 ∨ (d.kind ≠ 0 ∧ d.kind ≠ 1 ∧ d.kind ≠ 2) by omega) with hk | hk | hk | ⟨hk0, hk1, hk2⟩
  · rw [if_pos hk] at HX
    have q0 : (d.kind == 0) = true := by simpa using hk
    clear hk
    have f3 := beq_dec px ax
    have f4 := beq_dec py ay
    obtain ⟨ex, hex⟩ : ∃ b, decide (px = ax) = b := ⟨_, rfl⟩
    obtain ⟨ey, hey⟩ : ∃ b, decide (py = ay) = b := ⟨_, rfl⟩
    rw [hex] at f3 HX; rw [hey] at f4 HX
    clear hex hey
    cases ex <;> cases ey
    all_goals
      go_enter Tryd.func63, Tryd.ntmps63
      go_wp2_with fail
      generalize hW : (w.alloc (.cells #[.int .i64 d.kind, .int .i64 d.count, .string d.unit, .int .i64 d.dir, .string d.a, .string d.b] 25)).alloc (.cells #[.int .i64 px, .int .i64 py] 52) = W
      obtain ⟨kd, kp, bw, hsz⟩ := KN.out W hW.symm
      clear hW hsz
      refine (HFA.out W bw).mono ?_; rintro e w1 ⟨rfl, b1⟩
      have KD := Lib.hid (kd.below b1 kd.lt); have KP := Lib.hid (kp.below b1 kp.lt)
      have B1 := Lib.hid (bw.trans (b1.mono bw.size)); clear kd kp bw b1
      have T1 := Lib.hid (blks_one w1 52 #[.int .i64 ax, .int .i64 ay])
      go_upto_region 2 with (fail)
      generalize hW : w1.alloc (.cells #[.int .i64 ax, .int .i64 ay] 52) = W1
      obtain ⟨ka, bw, hsz⟩ := T1.out W1 hW.symm
      clear hW hsz
      have KD1 := Lib.hid (KD.out.below bw KD.out.lt); have KP1 := Lib.hid (KP.out.below bw KP.out.lt); have KA1 := Lib.hid ka; have B2 := Lib.hid (B1.out.trans (bw.mono B1.out.size)); clear ka bw
      obtain ⟨x0, x1, x2, x3, x4, x5⟩ := cells_6 KD1.out
      obtain ⟨y0, y1⟩ := cells_2 KP1.out
      obtain ⟨z0, z1⟩ := cells_2 KA1.out
      go_wp2_with fail
      go_ret
      exact ⟨ret_bool (by rw [HX.out]; first | rfl | simp), B2.out⟩
  · rw [if_neg (by omega), if_pos hk] at HX
    have q0 : (d.kind == 0) = false := by rw [hk]; rfl
    have q1 : (d.kind == 1) = true := by simpa using hk
    clear hk
    go_enter Tryd.func63, Tryd.ntmps63
    go_wp2_with fail
    generalize hW : (w.alloc (.cells #[.int .i64 d.kind, .int .i64 d.count, .string d.unit, .int .i64 d.dir, .string d.a, .string d.b] 25)).alloc (.cells #[.int .i64 px, .int .i64 py] 52) = W
    obtain ⟨kd, kp, bw, hsz⟩ := KN.out W hW.symm
    clear hW hsz
    refine (HFA.out W bw).mono ?_; rintro e w1 ⟨rfl, b1⟩
    have KD := Lib.hid (kd.below b1 kd.lt); have KP := Lib.hid (kp.below b1 kp.lt)
    have B1 := Lib.hid (bw.trans (b1.mono bw.size)); clear kd kp bw b1
    have T1 := Lib.hid (blks_one w1 52 #[.int .i64 ax, .int .i64 ay])
    go_upto_region 2 with (fail)
    generalize hW : w1.alloc (.cells #[.int .i64 ax, .int .i64 ay] 52) = W1
    obtain ⟨ka, bw, hsz⟩ := T1.out W1 hW.symm
    clear hW hsz
    have KD1 := Lib.hid (KD.out.below bw KD.out.lt); have KP1 := Lib.hid (KP.out.below bw KP.out.lt); have KA1 := Lib.hid ka; have B2 := Lib.hid (B1.out.trans (bw.mono B1.out.size)); clear ka bw
    obtain ⟨x0, x1, x2, x3, x4, x5⟩ := cells_6 KD1.out
    obtain ⟨y0, y1⟩ := cells_2 KP1.out
    obtain ⟨z0, z1⟩ := cells_2 KA1.out
    go_wp2_with fail
    refine (HSq.out _).mono ?_; rintro e w2 ⟨rfl, b2⟩
    go_wp2_with fail
    go_ret
    exact ⟨ret_bool (by rw [HX.out]), B2.out.trans (b2.mono B2.out.size)⟩
  · rw [if_neg (by omega), if_neg (by omega), if_pos hk] at HX
    have HFr2 := Lib.hid (HFr.out hk)
    have q0 : (d.kind == 0) = false := by rw [hk]; rfl
    have q1 : (d.kind == 1) = false := by rw [hk]; rfl
    have q2 : (d.kind == 2) = true := by simpa using hk
    clear hk HFr
    go_enter Tryd.func63, Tryd.ntmps63
    go_wp2_with fail
    generalize hW : (w.alloc (.cells #[.int .i64 d.kind, .int .i64 d.count, .string d.unit, .int .i64 d.dir, .string d.a, .string d.b] 25)).alloc (.cells #[.int .i64 px, .int .i64 py] 52) = W
    obtain ⟨kd, kp, bw, hsz⟩ := KN.out W hW.symm
    clear hW hsz
    refine (HFA.out W bw).mono ?_; rintro e w1 ⟨rfl, b1⟩
    have KD := Lib.hid (kd.below b1 kd.lt); have KP := Lib.hid (kp.below b1 kp.lt)
    have B1 := Lib.hid (bw.trans (b1.mono bw.size)); clear kd kp bw b1
    have T1 := Lib.hid (blks_one w1 52 #[.int .i64 ax, .int .i64 ay])
    go_upto_region 2 with (fail)
    generalize hW : w1.alloc (.cells #[.int .i64 ax, .int .i64 ay] 52) = W1
    obtain ⟨ka, bw, hsz⟩ := T1.out W1 hW.symm
    clear hW hsz
    have KD1 := Lib.hid (KD.out.below bw KD.out.lt); have KP1 := Lib.hid (KP.out.below bw KP.out.lt); have KA1 := Lib.hid ka; have B2 := Lib.hid (B1.out.trans (bw.mono B1.out.size)); clear ka bw
    obtain ⟨x0, x1, x2, x3, x4, x5⟩ := cells_6 KD1.out
    obtain ⟨y0, y1⟩ := cells_2 KP1.out
    obtain ⟨z0, z1⟩ := cells_2 KA1.out
    go_wp2_with fail
    refine (HFr2.out _).mono ?_; rintro e w2 ⟨rfl, b2⟩
    go_wp2_with fail
    go_ret
    exact ⟨ret_bool (by rw [HX.out]), B2.out.trans (b2.mono B2.out.size)⟩
  · rw [if_neg hk0, if_neg hk1, if_neg hk2] at HX
    have q0 : (d.kind == 0) = false := by simpa using hk0
    have q1 : (d.kind == 1) = false := by simpa using hk1
    have q2 : (d.kind == 2) = false := by simpa using hk2
    clear hk0 hk1 hk2 HFr
    go_enter Tryd.func63, Tryd.ntmps63
    go_wp2_with fail
    generalize hW : (w.alloc (.cells #[.int .i64 d.kind, .int .i64 d.count, .string d.unit, .int .i64 d.dir, .string d.a, .string d.b] 25)).alloc (.cells #[.int .i64 px, .int .i64 py] 52) = W
    obtain ⟨kd, kp, bw, hsz⟩ := KN.out W hW.symm
    clear hW hsz
    refine (HFA.out W bw).mono ?_; rintro e w1 ⟨rfl, b1⟩
    have KD := Lib.hid (kd.below b1 kd.lt); have KP := Lib.hid (kp.below b1 kp.lt)
    have B1 := Lib.hid (bw.trans (b1.mono bw.size)); clear kd kp bw b1
    have T1 := Lib.hid (blks_one w1 52 #[.int .i64 ax, .int .i64 ay])
    go_upto_region 2 with (fail)
    generalize hW : w1.alloc (.cells #[.int .i64 ax, .int .i64 ay] 52) = W1
    obtain ⟨ka, bw, hsz⟩ := T1.out W1 hW.symm
    clear hW hsz
    have KD1 := Lib.hid (KD.out.below bw KD.out.lt); have KP1 := Lib.hid (KP.out.below bw KP.out.lt); have KA1 := Lib.hid ka; have B2 := Lib.hid (B1.out.trans (bw.mono B1.out.size)); clear ka bw
    obtain ⟨x0, x1, x2, x3, x4, x5⟩ := cells_6 KD1.out
    obtain ⟨y0, y1⟩ := cells_2 KP1.out
    obtain ⟨z0, z1⟩ := cells_2 KA1.out
    go_wp2_with fail
    refine (HFB.out W1 B2.out).mono ?_; rintro e w2 ⟨rfl, b2⟩
    have KP2 := Lib.hid (KP1.out.below b2 KP1.out.lt); have KA2 := Lib.hid (KA1.out.below b2 KA1.out.lt)
    have B3 := Lib.hid (B2.out.trans (b2.mono B2.out.size)); clear b2
    have T2 := Lib.hid (blks_one w2 52 #[.int .i64 bx, .int .i64 bY])
    go_upto_region 10 with (fail)
    generalize hW : w2.alloc (.cells #[.int .i64 bx, .int .i64 bY] 52) = W2
    obtain ⟨kb, bw, hsz⟩ := T2.out W2 hW.symm
    clear hW hsz x0 x1 x2 x3 x4 x5 y0 y1 z0 z1
    obtain ⟨y0, y1⟩ := cells_2 (KP2.out.below bw KP2.out.lt)
    obtain ⟨z0, z1⟩ := cells_2 (KA2.out.below bw KA2.out.lt)
    obtain ⟨u0, u1⟩ := cells_2 kb
    have B4 := Lib.hid (B3.out.trans (bw.mono B3.out.size)); clear kb bw
    go_wp2_with fail
    refine (HBt.out _).mono ?_; rintro e w3 ⟨rfl, b3⟩
    go_wp2_with fail
    go_ret
    exact ⟨ret_bool (by rw [HX.out]), B4.out.trans (b3.mono B4.out.size)⟩
end Go.Proofs.YtnbpbidflacoiaaDoor
namespace Go.Proofs.YtnbpbidflacoiaaDoor
open Go.ChangeShapes Go.WideShapes Go.ChangeAt Go.RowKit Go.Sort

theorem ixS_lt (x : ByteArray) : ∀ L, ixS x L < (L.length : Int)
  | [] => by simp [ixS]
  | a :: r => by
    have := ixS_lt x r
    rw [ixS]
    (repeat' split) <;> simp <;> omega
theorem sit_at {xs : List Sit} {s : ByteArray} (h : 0 ≤ sitIx s xs) : ∃ (k : Nat) (hk : k < xs.length), sitIx s xs = k ∧ pAt xs s = (xs[k].x, xs[k].y) := by
  have hl := ixS_lt s (xs.map Sit.name)
  rw [List.length_map] at hl
  have hl' : sitIx s xs < xs.length := hl
  have hk : (sitIx s xs).toNat < xs.length := by omega
  refine ⟨(sitIx s xs).toNat, hk, by omega, ?_⟩
  rw [pAt, if_pos h, List.getElem?_eq_getElem hk]
set_option maxRecDepth 100000 in
theorem specMod_any (x : Int) (h1 : -8 ≤ x) (h2 : x ≤ 8) (w : World) : Calls Tryd.prog 93 #[.int .i64 x, .int .i64 8] w fun e w' => e = .returned (.int .i64 ((x + 8) % 8)) ∧ w = w' := by
  have key : ∀ k : Fin 17, -7 ≤ ((k.val : Int) - 8).tmod 8 ∧ ((k.val : Int) - 8).tmod 8 ≤ 7 ∧ (((k.val : Int) - 8).tmod 8 + 8).tmod 8 = ((k.val : Int) - 8 + 8) % 8 := by decide
  obtain ⟨t1, t2, t3⟩ : -7 ≤ x.tmod 8 ∧ x.tmod 8 ≤ 7 ∧ (x.tmod 8 + 8).tmod 8 = (x + 8) % 8 := by
    have := key ⟨(x + 8).toNat, by omega⟩
    dsimp only at this
    rwa [show (((x + 8).toNat : Nat) : Int) - 8 = x by omega] at this
  have e1 : IntKind.i64.wrap (x.tmod 8) = x.tmod 8 := IntWalk.i64_in _ (by omega)
  have e2 : IntKind.i64.wrap (x.tmod 8 + 8) = x.tmod 8 + 8 := IntWalk.i64_in _ (by omega)
  have HV := Lib.hid (show IntKind.i64.wrap ((x.tmod 8 + 8).tmod 8) = (x + 8) % 8 by
    rw [t3]; exact IntWalk.i64_in _ (by omega))
  have HV2 := Lib.hid t3
  clear key t3
  go_enter Tryd.func93, Tryd.ntmps93
  go_wp2_with fail
  go_ret
  exact ⟨ret_int (by first | exact HV.out | exact HV2.out | exact (Int.tmod_eq_emod_of_nonneg (by omega)).symm.trans HV2.out), rfl⟩
set_option maxRecDepth 100000 in
set_option maxHeartbeats 8000000 in
theorem specSat_any (xs : List Sit) (ha : areS xs = true) (d : Dsc) (hd : d.Ok) (hi : isD d = true) (h1 : 0 ≤ sitIx d.a xs) (h2 : d.kind = 3 → 0 ≤ sitIx d.b xs) (px py : Int) (hp : Co px) (hq : Co py) (A : Option Addr) (c : Nat) (w : World) (h : HasSit w xs A) :
    Calls Tryd.prog 64 #[.slice A xs.length c, d.val, .agg #[.int .i64 px, .int .i64 py]] w fun e w' => e = .returned (.bool (satV xs d px py)) ∧ Below w.heap.size w w' := by
  obtain ⟨ka, hka, eka, epa⟩ := sit_at h1
  have HFA := Lib.hid (fun W (hb : Below w.heap.size w W) => specFind_any xs d.a A c W (h.below hb))
  have HFB := Lib.hid (fun W (hb : Below w.heap.size w W) => specFind_any xs d.b A c W (h.below hb))
  have HR := Lib.hid (fun W (hb : Below w.heap.size w W) => (h.below hb).1)
  have KN := Lib.hid (blks_two w 25 52 #[.int .i64 d.kind, .int .i64 d.count, .string d.unit, .int .i64 d.dir, .string d.a, .string d.b] #[.int .i64 px, .int .i64 py])
  obtain ⟨a1, a2⟩ := pAt_co ha d.a
  obtain ⟨b1, b2⟩ := pAt_co ha d.b
  have HX := Lib.hid (show satV xs d px py = (if d.kind = 0 then (decide (px = (pAt xs d.a).1) && decide (py = (pAt xs d.a).2))
    else if d.kind = 1 then decide (sq (pAt xs d.a).1 (pAt xs d.a).2 px py ≤ 64)
    else if d.kind = 2 then fromV d (pAt xs d.a).1 (pAt xs d.a).2 px py
    else betwV (pAt xs d.a).1 (pAt xs d.a).2 (pAt xs d.b).1 (pAt xs d.b).2 px py) from rfl)
  have HBt := Lib.hid (specBetw_any _ _ _ _ px py a1 a2 b1 b2 hp hq)
  have HSq := Lib.hid (specSq _ _ px py a1 a2 hp hq)
  have HDv := Lib.hid (specDir_any _ _ px py a1 a2 hp hq)
  obtain ⟨s1, s2⟩ := sq_all a1 a2 hp hq
  have HFv := Lib.hid (show fromV d (pAt xs d.a).1 (pAt xs d.a).2 px py = ((!(decide (px = (pAt xs d.a).1) && decide (py = (pAt xs d.a).2)) && inB (16 * sq (pAt xs d.a).1 (pAt xs d.a).2 px py) (9 * lenD d * lenD d) (25 * lenD d * lenD d)) && offB ((dirV (px - (pAt xs d.a).1) (py - (pAt xs d.a).2) - d.dir + 8) % 8)) from rfl)
  have HLn := Lib.hid (fun hk => lenD_bd hi hk)
  have HDr := Lib.hid (fun hk => (isD_from hi hk).2.2.1)
  have HUn := Lib.hid (specUnit_any d.unit hd.1 d.count)
  have HCn := Lib.hid (fun hk => (isD_from hi hk).1)
  have hub := unitD_bd d.unit d.count
  have hLd : lenD d = d.count * unitD d.unit d.count := rfl
  have hBx := Lib.hid (fun hk : d.kind = 3 => sit_at (h2 hk))
  have hK3 := Lib.hid (show d.kind ≠ 0 → d.kind ≠ 1 → d.kind ≠ 2 → d.kind = 3 from fun k0 k1 k2 => by
    have h' := hi
    unfold isD at h'
    rw [Bool.and_eq_true, if_neg k2, if_neg (by omega)] at h'
    simp only [Bool.and_eq_true, decide_eq_true_eq] at h'
    exact h'.2.2.1)
  rw [eka] at HFA
  clear eka h1 h2
  have hxa : xs[ka].x = (pAt xs d.a).1 := by rw [epa]
  have hya : xs[ka].y = (pAt xs d.a).2 := by rw [epa]
  generalize satV xs d px py = r at HX ⊢
  obtain ⟨v1, v2⟩ := dirV_bd (px - (pAt xs d.a).1) (py - (pAt xs d.a).2)
  have hEnd := Lib.hid (show ∀ (k : Nat) (hk : k < xs.length) (W : World), Below w.heap.size w W → ∃ b off, A = some ⟨b, off, none⟩ ∧ b < W.heap.size ∧ W.cell? ⟨b, off + k * 3 + 1, none⟩ = some (.int .i64 xs[k].x) ∧ W.cell? ⟨b, off + k * 3 + 2, none⟩ = some (.int .i64 xs[k].y) from fun k hk W hb => by
    obtain ⟨b, off, e, hlt, hc⟩ := (HR.out W hb).2 (by omega)
    obtain ⟨_, e1, e2⟩ := siC_get xs k hk
    have c1 := hc _ _ e1
    have c2 := hc _ _ e2
    rw [← Nat.add_assoc] at c1 c2
    exact ⟨b, off, e, hlt, c1, c2⟩)
  have hm := h.2.1
  clear hi hd h ha hp hq a1 a2 b1 b2 epa HR
  generalize (pAt xs d.a).1 = ax at *
  generalize (pAt xs d.a).2 = ay at *
  generalize fromV d ax ay px py = vf at *
  generalize dirV (px - ax) (py - ay) = dv at *
  generalize sq ax ay px py = s at *
  unfold Dsc.val
  have f3 := beq_dec px ax
  have f4 := beq_dec py ay
  obtain ⟨ex, hex⟩ : ∃ b, decide (px = ax) = b := ⟨_, rfl⟩
  obtain ⟨ey, hey⟩ : ∃ b, decide (py = ay) = b := ⟨_, rfl⟩
  rw [hex] at f3 HX HFv; rw [hey] at f4 HX HFv
  clear hex hey
  rcases (show d.kind = 0 ∨ d.kind = 1 ∨ d.kind = 2 ∨ (d.kind ≠ 0 ∧ d.kind ≠ 1 ∧ d.kind ≠ 2) by omega) with hk | hk | hk | ⟨hk0, hk1, hk2⟩
  · rw [if_pos hk] at HX
    have q0 : (d.kind == 0) = true := by simpa using hk
    clear hk
    cases ex <;> cases ey
    all_goals
      go_enter Tryd.func64, Tryd.ntmps64
      go_wp2_with fail
      generalize hW : (w.alloc (.cells #[.int .i64 d.kind, .int .i64 d.count, .string d.unit, .int .i64 d.dir, .string d.a, .string d.b] 25)).alloc (.cells #[.int .i64 px, .int .i64 py] 52) = W
      obtain ⟨kd, kp, bw, hsz⟩ := KN.out W hW.symm
      clear hW hsz
      refine (HFA.out W bw).mono ?_; rintro e w1 ⟨rfl, hw1⟩
      subst hw1
      have KD := Lib.hid kd; have KP := Lib.hid kp; have B1 := Lib.hid bw; clear kd kp bw
      obtain ⟨ab, ao, hA, hlt1, c1, c2⟩ := hEnd.out ka hka W B1.out
      cases hA
      rw [hxa] at c1
      rw [hya] at c2
      have T1 := Lib.hid (blks_one W 52 #[.int .i64 ax, .int .i64 ay])
      go_upto_region 2 with (fail)
      generalize hW : W.alloc (.cells #[.int .i64 ax, .int .i64 ay] 52) = W1
      obtain ⟨kpa, bw, hsz⟩ := T1.out W1 hW.symm
      clear hW hsz c1 c2
      have KD1 := Lib.hid (KD.out.below bw KD.out.lt); have KP1 := Lib.hid (KP.out.below bw KP.out.lt); have KA1 := Lib.hid kpa; have B2 := Lib.hid (B1.out.trans (bw.mono B1.out.size)); clear kpa bw
      obtain ⟨x0, x1, x2, x3, x4, x5⟩ := cells_6 KD1.out
      obtain ⟨y0, y1⟩ := cells_2 KP1.out
      obtain ⟨z0, z1⟩ := cells_2 KA1.out
      go_wp2_with fail
      refine (HSq.out W1).mono ?_; rintro e w3 ⟨rfl, b3⟩
      have KD3 := Lib.hid (KD1.out.below b3 KD1.out.lt); have KP3 := Lib.hid (KP1.out.below b3 KP1.out.lt); have KA3 := Lib.hid (KA1.out.below b3 KA1.out.lt); have B3 := Lib.hid (B2.out.trans (b3.mono B2.out.size)); clear b3 x0 x1 x2 x3 x4 x5 y0 y1 z0 z1
      obtain ⟨x0, x1, x2, x3, x4, x5⟩ := cells_6 KD3.out
      obtain ⟨y0, y1⟩ := cells_2 KP3.out
      obtain ⟨z0, z1⟩ := cells_2 KA3.out
      go_wp2_with fail
      go_ret
      exact ⟨ret_bool (by rw [HX.out]; first | rfl | simp), B3.out⟩
  · rw [if_neg (by omega), if_pos hk] at HX
    have q0 : (d.kind == 0) = false := by rw [hk]; rfl
    have q1 : (d.kind == 1) = true := by simpa using hk
    clear hk
    go_enter Tryd.func64, Tryd.ntmps64
    go_wp2_with fail
    generalize hW : (w.alloc (.cells #[.int .i64 d.kind, .int .i64 d.count, .string d.unit, .int .i64 d.dir, .string d.a, .string d.b] 25)).alloc (.cells #[.int .i64 px, .int .i64 py] 52) = W
    obtain ⟨kd, kp, bw, hsz⟩ := KN.out W hW.symm
    clear hW hsz
    refine (HFA.out W bw).mono ?_; rintro e w1 ⟨rfl, hw1⟩
    subst hw1
    have KD := Lib.hid kd; have KP := Lib.hid kp; have B1 := Lib.hid bw; clear kd kp bw
    obtain ⟨ab, ao, hA, hlt1, c1, c2⟩ := hEnd.out ka hka W B1.out
    cases hA
    rw [hxa] at c1
    rw [hya] at c2
    have T1 := Lib.hid (blks_one W 52 #[.int .i64 ax, .int .i64 ay])
    go_upto_region 2 with (fail)
    generalize hW : W.alloc (.cells #[.int .i64 ax, .int .i64 ay] 52) = W1
    obtain ⟨kpa, bw, hsz⟩ := T1.out W1 hW.symm
    clear hW hsz c1 c2
    have KD1 := Lib.hid (KD.out.below bw KD.out.lt); have KP1 := Lib.hid (KP.out.below bw KP.out.lt); have KA1 := Lib.hid kpa; have B2 := Lib.hid (B1.out.trans (bw.mono B1.out.size)); clear kpa bw
    obtain ⟨x0, x1, x2, x3, x4, x5⟩ := cells_6 KD1.out
    obtain ⟨y0, y1⟩ := cells_2 KP1.out
    obtain ⟨z0, z1⟩ := cells_2 KA1.out
    go_wp2_with fail
    refine (HSq.out W1).mono ?_; rintro e w3 ⟨rfl, b3⟩
    have KD3 := Lib.hid (KD1.out.below b3 KD1.out.lt); have KP3 := Lib.hid (KP1.out.below b3 KP1.out.lt); have KA3 := Lib.hid (KA1.out.below b3 KA1.out.lt); have B3 := Lib.hid (B2.out.trans (b3.mono B2.out.size)); clear b3 x0 x1 x2 x3 x4 x5 y0 y1 z0 z1
    obtain ⟨x0, x1, x2, x3, x4, x5⟩ := cells_6 KD3.out
    obtain ⟨y0, y1⟩ := cells_2 KP3.out
    obtain ⟨z0, z1⟩ := cells_2 KA3.out
    go_wp2_with fail
    go_ret
    exact ⟨ret_bool (by rw [HX.out]), B3.out⟩
  · rw [if_neg (by omega), if_neg (by omega), if_pos hk] at HX
    obtain ⟨n1, n2⟩ := HLn.out hk
    obtain ⟨g1, g2⟩ := HDr.out hk
    obtain ⟨cn1, cn2⟩ := HCn.out hk
    obtain ⟨un1, un2⟩ := hub
    have q0 : (d.kind == 0) = false := by rw [hk]; rfl
    have q1 : (d.kind == 1) = false := by rw [hk]; rfl
    have q2 : (d.kind == 2) = true := by simpa using hk
    have HXX := Lib.hid (HX.out.trans HFv.out)
    clear hk HX HFv HLn HDr HCn
    have eL : IntKind.i64.wrap (d.count * unitD d.unit d.count) = lenD d := by rw [← hLd]; exact IntWalk.i64_in _ (by omega)
    generalize hu : unitD d.unit d.count = un at *
    clear hu
    have hLd2 : d.count * un = lenD d := hLd.symm
    clear hLd
    generalize lenD d = n at *
    obtain ⟨m1, m2⟩ := nn_bd (u := 9 * n) (v := n) (by omega) (by omega) (by omega) (by omega)
    obtain ⟨m3, m4⟩ := nn_bd (u := 25 * n) (v := n) (by omega) (by omega) (by omega) (by omega)
    have HMd := Lib.hid (specMod_any (dv - d.dir) (by omega) (by omega))
    have HOf := Lib.hid (show offB ((dv - d.dir + 8) % 8) = (decide ((dv - d.dir + 8) % 8 = 0) || (decide ((dv - d.dir + 8) % 8 = 1) || decide ((dv - d.dir + 8) % 8 = 7))) from rfl)
    have eO : IntKind.i64.wrap (dv - d.dir) = dv - d.dir := IntWalk.i64_in _ (by omega)
    generalize offB ((dv - d.dir + 8) % 8) = ob at HXX HOf
    generalize ho : (dv - d.dir + 8) % 8 = o at *
    clear ho
    have HIn := Lib.hid (show inB (16 * s) (9 * n * n) (25 * n * n) = (decide (9 * n * n ≤ 16 * s) && decide (16 * s ≤ 25 * n * n)) from rfl)
    generalize inB (16 * s) (9 * n * n) (25 * n * n) = qi at HXX HIn
    by_cases w1c : 16 * s < 9 * n * n
    · have HV := Lib.hid (show r = false by rw [HXX.out, HIn.out, decide_eq_false (by omega)]; simp)
      go_enter Tryd.func64, Tryd.ntmps64
      go_wp2_with fail
      generalize hW : (w.alloc (.cells #[.int .i64 d.kind, .int .i64 d.count, .string d.unit, .int .i64 d.dir, .string d.a, .string d.b] 25)).alloc (.cells #[.int .i64 px, .int .i64 py] 52) = W
      obtain ⟨kd, kp, bw, hsz⟩ := KN.out W hW.symm
      clear hW hsz
      refine (HFA.out W bw).mono ?_; rintro e w1 ⟨rfl, hw1⟩
      subst hw1
      have KD := Lib.hid kd; have KP := Lib.hid kp; have B1 := Lib.hid bw; clear kd kp bw
      obtain ⟨ab, ao, hA, hlt1, c1, c2⟩ := hEnd.out ka hka W B1.out
      cases hA
      rw [hxa] at c1
      rw [hya] at c2
      have T1 := Lib.hid (blks_one W 52 #[.int .i64 ax, .int .i64 ay])
      go_upto_region 2 with (fail)
      generalize hW : W.alloc (.cells #[.int .i64 ax, .int .i64 ay] 52) = W1
      obtain ⟨kpa, bw, hsz⟩ := T1.out W1 hW.symm
      clear hW hsz c1 c2
      have KD1 := Lib.hid (KD.out.below bw KD.out.lt); have KP1 := Lib.hid (KP.out.below bw KP.out.lt); have KA1 := Lib.hid kpa; have B2 := Lib.hid (B1.out.trans (bw.mono B1.out.size)); clear kpa bw
      obtain ⟨x0, x1, x2, x3, x4, x5⟩ := cells_6 KD1.out
      obtain ⟨y0, y1⟩ := cells_2 KP1.out
      obtain ⟨z0, z1⟩ := cells_2 KA1.out
      go_wp2_with fail
      refine (HSq.out W1).mono ?_; rintro e w3 ⟨rfl, b3⟩
      have KD3 := Lib.hid (KD1.out.below b3 KD1.out.lt); have KP3 := Lib.hid (KP1.out.below b3 KP1.out.lt); have KA3 := Lib.hid (KA1.out.below b3 KA1.out.lt); have B3 := Lib.hid (B2.out.trans (b3.mono B2.out.size)); clear b3 x0 x1 x2 x3 x4 x5 y0 y1 z0 z1
      obtain ⟨x0, x1, x2, x3, x4, x5⟩ := cells_6 KD3.out
      obtain ⟨y0, y1⟩ := cells_2 KP3.out
      obtain ⟨z0, z1⟩ := cells_2 KA3.out
      go_upto_region 9 with (fail)
      have t1 := cell_regrown x1
      have t2 := cell_regrown x2
      clear x0 x1 x2 x3 x4 x5 y0 y1 z0 z1
      have r1 : ∀ e os, Calls Tryd.prog 50 #[.string d.unit, .int .i64 d.count] (grow (redrawn w3 e) os) (fun e w'' => e = .returned (.int .i64 un) ∧ ∃ p : Regrown, w'' = grow (redrawn w3 p.d) p.os) := fun e os => Calls.regrown_of (same_below (HUn.out _))
      refine wp_region_quiet_below (by kernel_rfl) (by kernel_rfl) ?_; (repeat (first | go_big_quiet_step ((first | with_reducible exact r1 _ _)))); refine wpQuiet_nil ?_; intro _ hw'; obtain ⟨⟨dq, osq⟩, rfl⟩ := hw'
      have KD4 := Lib.hid (KD3.out.below (below_regrown w3 dq osq) KD3.out.lt); have KP4 := Lib.hid (KP3.out.below (below_regrown w3 dq osq) KP3.out.lt); have KA4 := Lib.hid (KA3.out.below (below_regrown w3 dq osq) KA3.out.lt); have B4 := Lib.hid (B3.out.trans ((below_regrown w3 dq osq).mono B3.out.size))
      generalize grow (redrawn w3 dq) osq = w4 at KD4 KP4 KA4 B4 ⊢
      clear r1 t1 t2
      obtain ⟨x0, x1, x2, x3, x4, x5⟩ := cells_6 KD4.out
      obtain ⟨y0, y1⟩ := cells_2 KP4.out
      obtain ⟨z0, z1⟩ := cells_2 KA4.out
      go_wp2_with fail
      go_ret
      exact ⟨ret_bool HV.out.symm, B4.out⟩
    · by_cases w2c : 25 * n * n < 16 * s
      · have HV := Lib.hid (show r = false by rw [HXX.out, HIn.out, decide_eq_true (by omega), decide_eq_false (by omega)]; simp)
        go_enter Tryd.func64, Tryd.ntmps64
        go_wp2_with fail
        generalize hW : (w.alloc (.cells #[.int .i64 d.kind, .int .i64 d.count, .string d.unit, .int .i64 d.dir, .string d.a, .string d.b] 25)).alloc (.cells #[.int .i64 px, .int .i64 py] 52) = W
        obtain ⟨kd, kp, bw, hsz⟩ := KN.out W hW.symm
        clear hW hsz
        refine (HFA.out W bw).mono ?_; rintro e w1 ⟨rfl, hw1⟩
        subst hw1
        have KD := Lib.hid kd; have KP := Lib.hid kp; have B1 := Lib.hid bw; clear kd kp bw
        obtain ⟨ab, ao, hA, hlt1, c1, c2⟩ := hEnd.out ka hka W B1.out
        cases hA
        rw [hxa] at c1
        rw [hya] at c2
        have T1 := Lib.hid (blks_one W 52 #[.int .i64 ax, .int .i64 ay])
        go_upto_region 2 with (fail)
        generalize hW : W.alloc (.cells #[.int .i64 ax, .int .i64 ay] 52) = W1
        obtain ⟨kpa, bw, hsz⟩ := T1.out W1 hW.symm
        clear hW hsz c1 c2
        have KD1 := Lib.hid (KD.out.below bw KD.out.lt); have KP1 := Lib.hid (KP.out.below bw KP.out.lt); have KA1 := Lib.hid kpa; have B2 := Lib.hid (B1.out.trans (bw.mono B1.out.size)); clear kpa bw
        obtain ⟨x0, x1, x2, x3, x4, x5⟩ := cells_6 KD1.out
        obtain ⟨y0, y1⟩ := cells_2 KP1.out
        obtain ⟨z0, z1⟩ := cells_2 KA1.out
        go_wp2_with fail
        refine (HSq.out W1).mono ?_; rintro e w3 ⟨rfl, b3⟩
        have KD3 := Lib.hid (KD1.out.below b3 KD1.out.lt); have KP3 := Lib.hid (KP1.out.below b3 KP1.out.lt); have KA3 := Lib.hid (KA1.out.below b3 KA1.out.lt); have B3 := Lib.hid (B2.out.trans (b3.mono B2.out.size)); clear b3 x0 x1 x2 x3 x4 x5 y0 y1 z0 z1
        obtain ⟨x0, x1, x2, x3, x4, x5⟩ := cells_6 KD3.out
        obtain ⟨y0, y1⟩ := cells_2 KP3.out
        obtain ⟨z0, z1⟩ := cells_2 KA3.out
        go_upto_region 9 with (fail)
        have t1 := cell_regrown x1
        have t2 := cell_regrown x2
        clear x0 x1 x2 x3 x4 x5 y0 y1 z0 z1
        have r1 : ∀ e os, Calls Tryd.prog 50 #[.string d.unit, .int .i64 d.count] (grow (redrawn w3 e) os) (fun e w'' => e = .returned (.int .i64 un) ∧ ∃ p : Regrown, w'' = grow (redrawn w3 p.d) p.os) := fun e os => Calls.regrown_of (same_below (HUn.out _))
        refine wp_region_quiet_below (by kernel_rfl) (by kernel_rfl) ?_; (repeat (first | go_big_quiet_step ((first | with_reducible exact r1 _ _)))); refine wpQuiet_nil ?_; intro _ hw'; obtain ⟨⟨dq, osq⟩, rfl⟩ := hw'
        have KD4 := Lib.hid (KD3.out.below (below_regrown w3 dq osq) KD3.out.lt); have KP4 := Lib.hid (KP3.out.below (below_regrown w3 dq osq) KP3.out.lt); have KA4 := Lib.hid (KA3.out.below (below_regrown w3 dq osq) KA3.out.lt); have B4 := Lib.hid (B3.out.trans ((below_regrown w3 dq osq).mono B3.out.size))
        generalize grow (redrawn w3 dq) osq = w4 at KD4 KP4 KA4 B4 ⊢
        clear r1 t1 t2
        obtain ⟨x0, x1, x2, x3, x4, x5⟩ := cells_6 KD4.out
        obtain ⟨y0, y1⟩ := cells_2 KP4.out
        obtain ⟨z0, z1⟩ := cells_2 KA4.out
        go_wp2_with fail
        go_ret
        exact ⟨ret_bool HV.out.symm, B4.out⟩
      · have HQi := Lib.hid (show qi = true by rw [HIn.out, decide_eq_true (by omega), decide_eq_true (by omega)]; rfl)
        cases hxy : (ex && ey)
        · rcases (show o = 0 ∨ o = 1 ∨ o = 7 ∨ (o ≠ 0 ∧ o ≠ 1 ∧ o ≠ 7) by omega) with h | h | h | ⟨h, h', h''⟩
          all_goals
            have HOb := HOf.out
            simp only [h] at HOb
            have HV := Lib.hid (show r = ob by rw [HXX.out, hxy, HQi.out]; simp)
            cases ex <;> cases ey <;> first | (cases hxy; done) | skip
          all_goals
            clear hxy
            go_enter Tryd.func64, Tryd.ntmps64
            go_wp2_with fail
            generalize hW : (w.alloc (.cells #[.int .i64 d.kind, .int .i64 d.count, .string d.unit, .int .i64 d.dir, .string d.a, .string d.b] 25)).alloc (.cells #[.int .i64 px, .int .i64 py] 52) = W
            obtain ⟨kd, kp, bw, hsz⟩ := KN.out W hW.symm
            clear hW hsz
            refine (HFA.out W bw).mono ?_; rintro e w1 ⟨rfl, hw1⟩
            subst hw1
            have KD := Lib.hid kd; have KP := Lib.hid kp; have B1 := Lib.hid bw; clear kd kp bw
            obtain ⟨ab, ao, hA, hlt1, c1, c2⟩ := hEnd.out ka hka W B1.out
            cases hA
            rw [hxa] at c1
            rw [hya] at c2
            have T1 := Lib.hid (blks_one W 52 #[.int .i64 ax, .int .i64 ay])
            go_upto_region 2 with (fail)
            generalize hW : W.alloc (.cells #[.int .i64 ax, .int .i64 ay] 52) = W1
            obtain ⟨kpa, bw, hsz⟩ := T1.out W1 hW.symm
            clear hW hsz c1 c2
            have KD1 := Lib.hid (KD.out.below bw KD.out.lt); have KP1 := Lib.hid (KP.out.below bw KP.out.lt); have KA1 := Lib.hid kpa; have B2 := Lib.hid (B1.out.trans (bw.mono B1.out.size)); clear kpa bw
            obtain ⟨x0, x1, x2, x3, x4, x5⟩ := cells_6 KD1.out
            obtain ⟨y0, y1⟩ := cells_2 KP1.out
            obtain ⟨z0, z1⟩ := cells_2 KA1.out
            go_wp2_with fail
            refine (HSq.out W1).mono ?_; rintro e w3 ⟨rfl, b3⟩
            have KD3 := Lib.hid (KD1.out.below b3 KD1.out.lt); have KP3 := Lib.hid (KP1.out.below b3 KP1.out.lt); have KA3 := Lib.hid (KA1.out.below b3 KA1.out.lt); have B3 := Lib.hid (B2.out.trans (b3.mono B2.out.size)); clear b3 x0 x1 x2 x3 x4 x5 y0 y1 z0 z1
            obtain ⟨x0, x1, x2, x3, x4, x5⟩ := cells_6 KD3.out
            obtain ⟨y0, y1⟩ := cells_2 KP3.out
            obtain ⟨z0, z1⟩ := cells_2 KA3.out
            go_upto_region 9 with (fail)
            have t1 := cell_regrown x1
            have t2 := cell_regrown x2
            clear x0 x1 x2 x3 x4 x5 y0 y1 z0 z1
            have r1 : ∀ e os, Calls Tryd.prog 50 #[.string d.unit, .int .i64 d.count] (grow (redrawn w3 e) os) (fun e w'' => e = .returned (.int .i64 un) ∧ ∃ p : Regrown, w'' = grow (redrawn w3 p.d) p.os) := fun e os => Calls.regrown_of (same_below (HUn.out _))
            refine wp_region_quiet_below (by kernel_rfl) (by kernel_rfl) ?_; (repeat (first | go_big_quiet_step ((first | with_reducible exact r1 _ _)))); refine wpQuiet_nil ?_; intro _ hw'; obtain ⟨⟨dq, osq⟩, rfl⟩ := hw'
            have KD4 := Lib.hid (KD3.out.below (below_regrown w3 dq osq) KD3.out.lt); have KP4 := Lib.hid (KP3.out.below (below_regrown w3 dq osq) KP3.out.lt); have KA4 := Lib.hid (KA3.out.below (below_regrown w3 dq osq) KA3.out.lt); have B4 := Lib.hid (B3.out.trans ((below_regrown w3 dq osq).mono B3.out.size))
            generalize grow (redrawn w3 dq) osq = w4 at KD4 KP4 KA4 B4 ⊢
            clear r1 t1 t2
            obtain ⟨x0, x1, x2, x3, x4, x5⟩ := cells_6 KD4.out
            obtain ⟨y0, y1⟩ := cells_2 KP4.out
            obtain ⟨z0, z1⟩ := cells_2 KA4.out
            go_upto_region 12 with (fail)
            clear x0 x1 x2 x3 x4 x5 y0 y1 z0 z1
            obtain ⟨x0, x1, x2, x3, x4, x5⟩ := cells_6 KD4.out
            have t3 := cell_regrown x3
            obtain ⟨y0, y1⟩ := two_regrown KP4.out
            obtain ⟨z0, z1⟩ := two_regrown KA4.out
            clear x0 x1 x2 x3 x4 x5
            have r1 : ∀ e os, Calls Tryd.prog 94 #[.agg #[.int .i64 ax, .int .i64 ay], .agg #[.int .i64 px, .int .i64 py]] (grow (redrawn w4 e) os) (fun e w'' => e = .returned (.int .i64 dv) ∧ ∃ p : Regrown, w'' = grow (redrawn w4 p.d) p.os) := fun e os => Calls.regrown_of (HDv.out _)
            have r2 : ∀ e os, Calls Tryd.prog 93 #[.int .i64 (dv - d.dir), .int .i64 8] (grow (redrawn w4 e) os) (fun e w'' => e = .returned (.int .i64 o) ∧ ∃ p : Regrown, w'' = grow (redrawn w4 p.d) p.os) := fun e os => Calls.regrown_of (same_below (HMd.out _))
            refine wp_region_quiet_below (by kernel_rfl) (by kernel_rfl) ?_; (repeat (first | go_big_quiet_step ((first | with_reducible exact r1 _ _ | with_reducible exact r2 _ _)))); refine wpQuiet_nil ?_; intro _ hw'; obtain ⟨⟨dq, osq⟩, rfl⟩ := hw'
            have B5 := Lib.hid (B4.out.trans ((below_regrown w4 dq osq).mono B4.out.size))
            generalize grow (redrawn w4 dq) osq = w5 at B5 ⊢
            clear r1 r2 t3 y0 y1 z0 z1
            go_wp2_with fail
            go_ret
            exact ⟨ret_bool (by rw [HV.out, HOb]; simp_all), B5.out⟩
        · have HV := Lib.hid (show r = false by rw [HXX.out, hxy]; simp)
          have hcx : ex = true := by cases ex; cases hxy; rfl
          have hcy : ey = true := by cases ey; (cases ex <;> cases hxy); rfl
          subst hcx hcy
          clear hxy
          go_enter Tryd.func64, Tryd.ntmps64
          go_wp2_with fail
          generalize hW : (w.alloc (.cells #[.int .i64 d.kind, .int .i64 d.count, .string d.unit, .int .i64 d.dir, .string d.a, .string d.b] 25)).alloc (.cells #[.int .i64 px, .int .i64 py] 52) = W
          obtain ⟨kd, kp, bw, hsz⟩ := KN.out W hW.symm
          clear hW hsz
          refine (HFA.out W bw).mono ?_; rintro e w1 ⟨rfl, hw1⟩
          subst hw1
          have KD := Lib.hid kd; have KP := Lib.hid kp; have B1 := Lib.hid bw; clear kd kp bw
          obtain ⟨ab, ao, hA, hlt1, c1, c2⟩ := hEnd.out ka hka W B1.out
          cases hA
          rw [hxa] at c1
          rw [hya] at c2
          have T1 := Lib.hid (blks_one W 52 #[.int .i64 ax, .int .i64 ay])
          go_upto_region 2 with (fail)
          generalize hW : W.alloc (.cells #[.int .i64 ax, .int .i64 ay] 52) = W1
          obtain ⟨kpa, bw, hsz⟩ := T1.out W1 hW.symm
          clear hW hsz c1 c2
          have KD1 := Lib.hid (KD.out.below bw KD.out.lt); have KP1 := Lib.hid (KP.out.below bw KP.out.lt); have KA1 := Lib.hid kpa; have B2 := Lib.hid (B1.out.trans (bw.mono B1.out.size)); clear kpa bw
          obtain ⟨x0, x1, x2, x3, x4, x5⟩ := cells_6 KD1.out
          obtain ⟨y0, y1⟩ := cells_2 KP1.out
          obtain ⟨z0, z1⟩ := cells_2 KA1.out
          go_wp2_with fail
          refine (HSq.out W1).mono ?_; rintro e w3 ⟨rfl, b3⟩
          have KD3 := Lib.hid (KD1.out.below b3 KD1.out.lt); have KP3 := Lib.hid (KP1.out.below b3 KP1.out.lt); have KA3 := Lib.hid (KA1.out.below b3 KA1.out.lt); have B3 := Lib.hid (B2.out.trans (b3.mono B2.out.size)); clear b3 x0 x1 x2 x3 x4 x5 y0 y1 z0 z1
          obtain ⟨x0, x1, x2, x3, x4, x5⟩ := cells_6 KD3.out
          obtain ⟨y0, y1⟩ := cells_2 KP3.out
          obtain ⟨z0, z1⟩ := cells_2 KA3.out
          go_upto_region 9 with (fail)
          have t1 := cell_regrown x1
          have t2 := cell_regrown x2
          clear x0 x1 x2 x3 x4 x5 y0 y1 z0 z1
          have r1 : ∀ e os, Calls Tryd.prog 50 #[.string d.unit, .int .i64 d.count] (grow (redrawn w3 e) os) (fun e w'' => e = .returned (.int .i64 un) ∧ ∃ p : Regrown, w'' = grow (redrawn w3 p.d) p.os) := fun e os => Calls.regrown_of (same_below (HUn.out _))
          refine wp_region_quiet_below (by kernel_rfl) (by kernel_rfl) ?_; (repeat (first | go_big_quiet_step ((first | with_reducible exact r1 _ _)))); refine wpQuiet_nil ?_; intro _ hw'; obtain ⟨⟨dq, osq⟩, rfl⟩ := hw'
          have KD4 := Lib.hid (KD3.out.below (below_regrown w3 dq osq) KD3.out.lt); have KP4 := Lib.hid (KP3.out.below (below_regrown w3 dq osq) KP3.out.lt); have KA4 := Lib.hid (KA3.out.below (below_regrown w3 dq osq) KA3.out.lt); have B4 := Lib.hid (B3.out.trans ((below_regrown w3 dq osq).mono B3.out.size))
          generalize grow (redrawn w3 dq) osq = w4 at KD4 KP4 KA4 B4 ⊢
          clear r1 t1 t2
          obtain ⟨x0, x1, x2, x3, x4, x5⟩ := cells_6 KD4.out
          obtain ⟨y0, y1⟩ := cells_2 KP4.out
          obtain ⟨z0, z1⟩ := cells_2 KA4.out
          go_wp2_with fail
          go_ret
          exact ⟨ret_bool HV.out.symm, B4.out⟩
  · obtain ⟨kb, hkb, ekb, epb⟩ := hBx.out (hK3.out hk0 hk1 hk2)
    rw [if_neg hk0, if_neg hk1, if_neg hk2, epb] at HX
    rw [epb] at HBt
    rw [ekb] at HFB
    have q0 : (d.kind == 0) = false := by simpa using hk0
    have q1 : (d.kind == 1) = false := by simpa using hk1
    have q2 : (d.kind == 2) = false := by simpa using hk2
    clear hk0 hk1 hk2 epb ekb
    go_enter Tryd.func64, Tryd.ntmps64
    go_wp2_with fail
    generalize hW : (w.alloc (.cells #[.int .i64 d.kind, .int .i64 d.count, .string d.unit, .int .i64 d.dir, .string d.a, .string d.b] 25)).alloc (.cells #[.int .i64 px, .int .i64 py] 52) = W
    obtain ⟨kd, kp, bw, hsz⟩ := KN.out W hW.symm
    clear hW hsz
    refine (HFA.out W bw).mono ?_; rintro e w1 ⟨rfl, hw1⟩
    subst hw1
    have KD := Lib.hid kd; have KP := Lib.hid kp; have B1 := Lib.hid bw; clear kd kp bw
    obtain ⟨ab, ao, hA, hlt1, c1, c2⟩ := hEnd.out ka hka W B1.out
    cases hA
    rw [hxa] at c1
    rw [hya] at c2
    have T1 := Lib.hid (blks_one W 52 #[.int .i64 ax, .int .i64 ay])
    go_upto_region 2 with (fail)
    generalize hW : W.alloc (.cells #[.int .i64 ax, .int .i64 ay] 52) = W1
    obtain ⟨kpa, bw, hsz⟩ := T1.out W1 hW.symm
    clear hW hsz c1 c2
    have KD1 := Lib.hid (KD.out.below bw KD.out.lt); have KP1 := Lib.hid (KP.out.below bw KP.out.lt); have KA1 := Lib.hid kpa; have B2 := Lib.hid (B1.out.trans (bw.mono B1.out.size)); clear kpa bw
    obtain ⟨x0, x1, x2, x3, x4, x5⟩ := cells_6 KD1.out
    obtain ⟨y0, y1⟩ := cells_2 KP1.out
    obtain ⟨z0, z1⟩ := cells_2 KA1.out
    go_wp2_with fail
    refine (HSq.out W1).mono ?_; rintro e w3 ⟨rfl, b3⟩
    have KD3 := Lib.hid (KD1.out.below b3 KD1.out.lt); have KP3 := Lib.hid (KP1.out.below b3 KP1.out.lt); have KA3 := Lib.hid (KA1.out.below b3 KA1.out.lt); have B3 := Lib.hid (B2.out.trans (b3.mono B2.out.size)); clear b3 x0 x1 x2 x3 x4 x5 y0 y1 z0 z1
    obtain ⟨x0, x1, x2, x3, x4, x5⟩ := cells_6 KD3.out
    obtain ⟨y0, y1⟩ := cells_2 KP3.out
    obtain ⟨z0, z1⟩ := cells_2 KA3.out
    go_upto_region 14 with (fail)
    obtain ⟨ab2, ao2, hA2, hlt2, c1, c2⟩ := hEnd.out kb hkb w3 B3.out
    cases hA2
    clear x0 x1 x2 x3 x4 x5 y0 y1 z0 z1
    obtain ⟨x0, x1, x2, x3, x4, x5⟩ := cells_6 KD3.out
    have t5 := cell_regrown x5
    have u1 := cell_regrown c1
    have u2 := cell_regrown c2
    obtain ⟨y0, y1⟩ := two_regrown KP3.out
    obtain ⟨z0, z1⟩ := two_regrown KA3.out
    clear x0 x1 x2 x3 x4 x5 c1 c2
    generalize betwV ax ay xs[kb].x xs[kb].y px py = vb at *
    generalize xs[kb].x = bx at *
    generalize xs[kb].y = bY at *
    have r1 : ∀ e os, Calls Tryd.prog 87 #[.slice (some ⟨ab, ao, none⟩) xs.length c, .string d.b] (grow (redrawn w3 e) os) (fun e w'' => e = .returned (.int .i64 kb) ∧ ∃ p : Regrown, w'' = grow (redrawn w3 p.d) p.os) := fun e os => Calls.regrown_of (same_below (HFB.out _ (B3.out.trans ((below_regrown w3 e os).mono B3.out.size))))
    have r2 : ∀ e os, Calls Tryd.prog 95 #[.agg #[.int .i64 ax, .int .i64 ay], .agg #[.int .i64 bx, .int .i64 bY], .agg #[.int .i64 px, .int .i64 py]] (grow (redrawn w3 e) os) (fun e w'' => e = .returned (.bool vb) ∧ ∃ p : Regrown, w'' = grow (redrawn w3 p.d) p.os) := fun e os => Calls.regrown_of (HBt.out _)
    have zk0 : (0 : Int) ≤ (kb : Int) := by omega
    have zk1 : (kb : Int) < (xs.length : Int) := by omega
    refine wp_region_quiet_below (by kernel_rfl) (by kernel_rfl) ?_; (repeat (first | go_big_quiet_step ((first | with_reducible exact r1 _ _ | with_reducible exact r2 _ _)))); refine wpQuiet_nil ?_; intro _ hw'; obtain ⟨⟨dq, osq⟩, rfl⟩ := hw'
    go_wp2_with fail
    go_ret
    exact ⟨ret_bool HX.out.symm, B3.out.trans ((below_regrown w3 dq osq).mono B3.out.size)⟩
end Go.Proofs.YtnbpbidflacoiaaDoor
namespace Go.Proofs.YtnbpbidflacoiaaDoor
open Go.ChangeShapes Go.WideShapes Go.ChangeAt Go.RowKit Go.Sort

theorem szSiTo_le (xs : List Sit) : ∀ left, -1 ≤ left → szSiTo left xs ≤ left := by
  induction xs with
  | nil => intro left _; exact Int.le_refl _
  | cons b r ih =>
    intro left h
    rw [szSiTo]
    split
    · exact h
    · have := ih (left - b.name.size) (by omega)
      omega
theorem szSi_all {xs : List Sit} (h : 0 ≤ szSi xs) : xs.length ≤ 1048576 ∧ (∀ b ∈ xs, b.name.size ≤ 1048576) ∧ szSi xs ≤ 1048576 := by
  obtain ⟨h1, h2⟩ := szSi_pos h
  refine ⟨h1, h2, ?_⟩
  unfold szSi at h ⊢
  split
  · omega
  · have := szSiTo_le xs (1048576 - xs.length) (by omega)
    omega
theorem codeS_zero {xs : List Sit} {ds : List Dsc} {ok : Bool} (h : codeS xs ds ok = 0) : areS xs = true ∧ ok = true ∧ (∀ d ∈ ds, isD d = true ∧ 0 ≤ sitIx d.a xs ∧ (d.kind = 3 → 0 ≤ sitIx d.b xs)) ∧ ds.length ≤ 8 := by
  unfold codeS at h
  split at h
  · rename_i h1
    split at h
    · cases h
    · rename_i h2
      split at h
      · cases h
      · rename_i h3
        simp only [Bool.and_eq_true, List.all_eq_true] at h1
        refine ⟨h1.1, h1.2.1, fun d hd => ?_, by omega⟩
        have hi := h1.2.2 d hd
        have hm : missD xs d = false := by
          cases hq : missD xs d with
          | false => rfl
          | true => exact absurd (List.any_eq_true.2 ⟨d, hd, hq⟩) h2
        simp only [missD, Bool.or_eq_false_iff, decide_eq_false_iff_not] at hm
        refine ⟨hi, by omega, fun hk => ?_⟩
        have hb := isD_b3 hi hk
        have h5 := hm.2
        rw [decide_eq_false hb] at h5
        simp only [Bool.not_false, Bool.true_and, decide_eq_false_iff_not] at h5
        omega
  · cases h
theorem new_dsc (W : World) (d : Dsc) (hd : d.Ok) (t : TypeId) : HasDsc (W.alloc (.cells #[.int .i64 d.kind, .int .i64 d.count, .string d.unit, .int .i64 d.dir, .string d.a, .string d.b] t)) [d] (some ⟨W.heap.size, 0, none⟩) :=
  ⟨⟨rfl, fun _ => ⟨W.heap.size, 0, rfl, by simp, fun j u hu => by
    rw [Nat.zero_add, (Blk.new W t #[.int .i64 d.kind, .int .i64 d.count, .string d.unit, .int .i64 d.dir, .string d.a, .string d.b]).cell]
    simpa [dsC, Dsc.cells] using hu⟩⟩, by simp, fun b hb => by simp at hb; subst hb; exact hd⟩
/-- What DoesSatisfy returns. -/
def doesT (xs : List Sit) (d : Dsc) (px py : Int) : Bool × Int := if codeS xs [d] (ptB px py) = 0 then (satV xs d px py, 0) else (false, codeS xs [d] (ptB px py))
theorem ptB_co {x y : Int} (h : ptB x y = true) : Co x ∧ Co y := by
  simp only [ptB, inB, Bool.and_eq_true, decide_eq_true_eq] at h
  exact ⟨by unfold Co; omega, by unfold Co; omega⟩
set_option maxRecDepth 100000 in
set_option maxHeartbeats 4000000 in
theorem specDoes_any (xs : List Sit) (d : Dsc) (hd : d.Ok) (px py : Int) (A : Option Addr) (c : Nat) (w : World) (h : HasSit w xs A) :
    Calls Tryd.prog 35 #[.slice A xs.length c, d.val, .agg #[.int .i64 px, .int .i64 py]] w fun e w' => e = .returned (.tuple #[.bool (doesT xs d px py).1, .int .i64 (doesT xs d px py).2]) ∧ Below w.heap.size w w' := by
  have HP := Lib.hid (specPt_any px py)
  have HC := Lib.hid (fun W (hb : Below w.heap.size w W) (B : Option Addr) e (h2 : HasDsc W [d] B) => specCodeS_any xs [d] A B c e W (h.below hb) h2)
  have HX := Lib.hid (show doesT xs d px py = if codeS xs [d] (ptB px py) = 0 then (satV xs d px py, 0) else (false, codeS xs [d] (ptB px py)) from rfl)
  have HZ := Lib.hid (fun (hz : codeS xs [d] true = 0) (hp : ptB px py = true) W (hb : Below w.heap.size w W) => specSat_any xs (codeS_zero hz).1 d hd ((codeS_zero hz).2.2.1 d (by simp)).1 ((codeS_zero hz).2.2.1 d (by simp)).2.1 ((codeS_zero hz).2.2.1 d (by simp)).2.2 px py (ptB_co hp).1 (ptB_co hp).2 A c W (h.below hb))
  have HN := Lib.hid (fun W => new_dsc W d hd 25)
  have HF := Lib.hid (show codeS xs [d] false = 1 by unfold codeS; simp)
  have KN := Lib.hid (blks_two w 25 52 #[.int .i64 d.kind, .int .i64 d.count, .string d.unit, .int .i64 d.dir, .string d.a, .string d.b] #[.int .i64 px, .int .i64 py])
  generalize doesT xs d px py = r at HX ⊢
  clear h
  have HC2 := Lib.hid (show ∀ W, Below w.heap.size w W → ∀ (B : Option Addr) e, HasDsc W [d] B → Calls Tryd.prog 60 #[.slice A xs.length c, .slice B 1 e] W fun e w' => e = .returned (.int .i64 (codeS xs [d] true)) ∧ Below W.heap.size W w' from HC.out)
  clear HC
  cases hp : ptB px py
  · rw [hp, HF.out] at HX
    rw [hp] at HP
    have HX2 := Lib.hid (show r = (false, 1) by rw [HX.out]; rfl)
    clear hp HX HZ HC2
    unfold Dsc.val
    go_enter Tryd.func35, Tryd.ntmps35
    go_wp2_with fail
    generalize hW : (w.alloc (.cells #[.int .i64 d.kind, .int .i64 d.count, .string d.unit, .int .i64 d.dir, .string d.a, .string d.b] 25)).alloc (.cells #[.int .i64 px, .int .i64 py] 52) = W
    obtain ⟨kd, kp, bw, hsz⟩ := KN.out W hW.symm
    clear hW hsz
    refine (HP.out W).mono ?_; rintro e w1 ⟨rfl, b1⟩
    go_wp2_with fail
    go_ret2
    exact ⟨by rw [HX2.out]; first | done | rfl, bw.trans (b1.mono bw.size)⟩
  · rw [hp] at HX HP
    have HZ2 := Lib.hid (fun hz => HZ.out hz hp)
    clear HZ hp
    generalize codeS xs [d] true = cz at *
    generalize satV xs d px py = sv at *
    unfold Dsc.val at HZ2 ⊢
    by_cases hz : cz = 0
    · subst hz
      have HX2 := Lib.hid (show r = (sv, 0) by rw [HX.out]; rfl)
      have HZ3 := Lib.hid (HZ2.out rfl)
      clear HX HZ2
      go_enter Tryd.func35, Tryd.ntmps35
      go_wp2_with fail
      generalize hW : (w.alloc (.cells #[.int .i64 d.kind, .int .i64 d.count, .string d.unit, .int .i64 d.dir, .string d.a, .string d.b] 25)).alloc (.cells #[.int .i64 px, .int .i64 py] 52) = W
      obtain ⟨kd, kp, bw, hsz⟩ := KN.out W hW.symm
      clear hW hsz
      refine (HP.out W).mono ?_; rintro e w1 ⟨rfl, b1⟩
      have KD := Lib.hid (kd.below b1 kd.lt); have KP := Lib.hid (kp.below b1 kp.lt); have B1 := Lib.hid (bw.trans (b1.mono bw.size)); clear kd kp bw b1
      obtain ⟨x0, x1, x2, x3, x4, x5⟩ := cells_6 KD.out
      have NA := HN.out w1
      have BA := (Below.refl w1.heap.size w1).alloc (Nat.le_refl _) (.cells #[.int .i64 d.kind, .int .i64 d.count, .string d.unit, .int .i64 d.dir, .string d.a, .string d.b] 25)
      have B2 := Lib.hid (B1.out.trans (BA.mono B1.out.size)); have KD2 := Lib.hid (KD.out.below BA KD.out.lt); have KP2 := Lib.hid (KP.out.below BA KP.out.lt)
      have HCx := Lib.hid (HC2.out _ B2.out _ 1 NA)
      clear NA BA
      go_wp2_with fail
      refine HCx.out.mono ?_; rintro e w2 ⟨rfl, b2⟩
      obtain ⟨x0, x1, x2, x3, x4, x5⟩ := cells_6 (KD2.out.below b2 KD2.out.lt)
      obtain ⟨y0, y1⟩ := cells_2 (KP2.out.below b2 KP2.out.lt)
      have B3 := Lib.hid (B2.out.trans (b2.mono B2.out.size)); clear b2
      go_wp2_with fail
      refine (HZ3.out w2 B3.out).mono ?_; rintro e w3 ⟨rfl, b3⟩
      go_wp2_with fail
      go_ret2
      exact ⟨by rw [HX2.out]; first | done | rfl, B3.out.trans (b3.mono B3.out.size)⟩
    · have HX2 := Lib.hid (show r = (false, cz) by rw [HX.out, if_neg hz])
      have hne : (cz != 0) = true := by rw [bne_iff_ne]; exact hz
      clear hz HX HZ2
      go_enter Tryd.func35, Tryd.ntmps35
      go_wp2_with fail
      generalize hW : (w.alloc (.cells #[.int .i64 d.kind, .int .i64 d.count, .string d.unit, .int .i64 d.dir, .string d.a, .string d.b] 25)).alloc (.cells #[.int .i64 px, .int .i64 py] 52) = W
      obtain ⟨kd, kp, bw, hsz⟩ := KN.out W hW.symm
      clear hW hsz
      refine (HP.out W).mono ?_; rintro e w1 ⟨rfl, b1⟩
      have KD := Lib.hid (kd.below b1 kd.lt); have B1 := Lib.hid (bw.trans (b1.mono bw.size)); clear kd kp bw b1
      obtain ⟨x0, x1, x2, x3, x4, x5⟩ := cells_6 KD.out
      have NA := HN.out w1
      have BA := (Below.refl w1.heap.size w1).alloc (Nat.le_refl _) (.cells #[.int .i64 d.kind, .int .i64 d.count, .string d.unit, .int .i64 d.dir, .string d.a, .string d.b] 25)
      have B2 := Lib.hid (B1.out.trans (BA.mono B1.out.size))
      have HCx := Lib.hid (HC2.out _ B2.out _ 1 NA)
      clear NA BA
      go_wp2_with fail
      refine HCx.out.mono ?_; rintro e w2 ⟨rfl, b2⟩
      go_wp2_with fail
      go_ret2
      exact ⟨by rw [HX2.out]; first | done | rfl, B2.out.trans (b2.mono B2.out.size)⟩
end Go.Proofs.YtnbpbidflacoiaaDoor
namespace Go.Proofs.YtnbpbidflacoiaaDoor
open Go.ChangeShapes Go.WideShapes Go.ChangeAt Go.RowKit Go.Sort

set_option maxRecDepth 100000 in
set_option maxHeartbeats 4000000 in
theorem implDoes_any (xs : List Sit) (d : Dsc) (hd : d.Ok) (px py : Int) (A : Option Addr) (c : Nat) (w : World) (h : HasSit w xs A) (hdir : Dirs w) :
    Calls Tryd.prog 34 #[.slice A xs.length c, d.val, .agg #[.int .i64 px, .int .i64 py]] w fun e w' => e = .returned (.tuple #[.bool (doesT xs d px py).1, .int .i64 (doesT xs d px py).2]) ∧ Below w.heap.size w w' := by
  have HP := Lib.hid (implPt_any px py)
  have HC := Lib.hid (fun W (hb : Below w.heap.size w W) (B : Option Addr) e (h2 : HasDsc W [d] B) => implCodeS_any xs [d] (ptB px py) A B c e W (h.below hb) h2 (hdir.below hb))
  have HX := Lib.hid (show doesT xs d px py = if codeS xs [d] (ptB px py) = 0 then (satV xs d px py, 0) else (false, codeS xs [d] (ptB px py)) from rfl)
  have HZ := Lib.hid (fun (hz : codeS xs [d] (ptB px py) = 0) W (hb : Below w.heap.size w W) => implSat_any xs (codeS_zero hz).1 d hd ((codeS_zero hz).2.2.1 d (by simp)).1 px py (ptB_co (codeS_zero hz).2.1).1 (ptB_co (codeS_zero hz).2.1).2 A c W (h.below hb))
  have HN := Lib.hid (fun W => new_dsc W d hd 25)
  have KN := Lib.hid (blks_two w 25 52 #[.int .i64 d.kind, .int .i64 d.count, .string d.unit, .int .i64 d.dir, .string d.a, .string d.b] #[.int .i64 px, .int .i64 py])
  generalize doesT xs d px py = r at HX ⊢
  clear h
  have HC2 := Lib.hid (show ∀ W, Below w.heap.size w W → ∀ (B : Option Addr) e, HasDsc W [d] B → Calls Tryd.prog 56 #[.slice A xs.length c, .slice B 1 e, .bool (ptB px py)] W fun e w' => e = .returned (.int .i64 (codeS xs [d] (ptB px py))) ∧ Below W.heap.size W w' from HC.out)
  clear HC
  generalize codeS xs [d] (ptB px py) = cz at *
  generalize ptB px py = pk at *
  generalize satV xs d px py = sv at *
  unfold Dsc.val at HZ ⊢
  go_enter Tryd.func34, Tryd.ntmps34
  go_upto_region 1 with (fail)
  generalize hW : (w.alloc (.cells #[.int .i64 d.kind, .int .i64 d.count, .string d.unit, .int .i64 d.dir, .string d.a, .string d.b] 25)).alloc (.cells #[.int .i64 px, .int .i64 py] 52) = W
  obtain ⟨kd, kp, bw, hsz⟩ := KN.out W hW.symm
  clear hW hsz
  have KD := Lib.hid kd; have KP := Lib.hid kp; have BW := Lib.hid bw; clear kd kp bw
  obtain ⟨x0, x1, x2, x3, x4, x5⟩ := cells_6 KD.out
  obtain ⟨y0, y1⟩ := cells_2 KP.out
  have zd := KD.out.lt
  have zp := KP.out.lt
  have BA := (Below.refl W.heap.size W).alloc (Nat.le_refl _) (.cells #[.int .i64 d.kind, .int .i64 d.count, .string d.unit, .int .i64 d.dir, .string d.a, .string d.b] 25)
  go_cut [8] (fun va wx => va = .int .i64 cz ∧ Below W.heap.size W wx)
  case first =>
    go_region_held3 (fun w' => w'.cell? ⟨w.heap.size, 0, none⟩ = some (.int .i64 d.kind) ∧ w'.cell? ⟨w.heap.size, 1, none⟩ = some (.int .i64 d.count) ∧ w'.cell? ⟨w.heap.size, 2, none⟩ = some (.string d.unit) ∧ w'.cell? ⟨w.heap.size, 3, none⟩ = some (.int .i64 d.dir) ∧ w'.cell? ⟨w.heap.size, 4, none⟩ = some (.string d.a) ∧ w'.cell? ⟨w.heap.size, 5, none⟩ = some (.string d.b) ∧ w'.cell? ⟨w.heap.size + 1, 0, none⟩ = some (.int .i64 px) ∧ w'.cell? ⟨w.heap.size + 1, 1, none⟩ = some (.int .i64 py))
      (first | exact ⟨k0, k1, k2, k3, k4, k5, k6, k7⟩ | (go_keep; done) | ((try dsimp only); (repeat' apply And.intro) <;> (go_keep; done)))
      (first | (go_at_call 57; refine (HP.out (W.alloc (.cells #[.int .i64 d.kind, .int .i64 d.count, .string d.unit, .int .i64 d.dir, .string d.a, .string d.b] 25)).drew).mono ?_; rintro e wn ⟨rfl, bn⟩; (have Bd := BA.drew.trans (bn.mono BA.size)); (have Rd := (show HasDsc (W.alloc (.cells #[.int .i64 d.kind, .int .i64 d.count, .string d.unit, .int .i64 d.dir, .string d.a, .string d.b] 25)).drew [d] (some ⟨W.heap.size, 0, none⟩) from HN.out W).below bn); (have Bf := Bd); have k0 := (Bd.cell (p := ⟨w.heap.size, 0, none⟩) zd).trans x0; have k1 := (Bd.cell (p := ⟨w.heap.size, 1, none⟩) zd).trans x1; have k2 := (Bd.cell (p := ⟨w.heap.size, 2, none⟩) zd).trans x2; have k3 := (Bd.cell (p := ⟨w.heap.size, 3, none⟩) zd).trans x3; have k4 := (Bd.cell (p := ⟨w.heap.size, 4, none⟩) zd).trans x4; have k5 := (Bd.cell (p := ⟨w.heap.size, 5, none⟩) zd).trans x5; have k6 := (Bd.cell (p := ⟨w.heap.size + 1, 0, none⟩) zp).trans y0; have k7 := (Bd.cell (p := ⟨w.heap.size + 1, 1, none⟩) zp).trans y1) | (go_at_call 57; refine (HP.out W.drew).mono ?_; rintro e wn ⟨rfl, bn⟩; (have Bd := (Below.refl W.heap.size W).drew.trans bn); (have Rd := HN.out wn); (have Bf := Bd.alloc Bd.size (.cells #[.int .i64 d.kind, .int .i64 d.count, .string d.unit, .int .i64 d.dir, .string d.a, .string d.b] 25)); have k0 := (Bd.cell (p := ⟨w.heap.size, 0, none⟩) zd).trans x0; have k1 := (Bd.cell (p := ⟨w.heap.size, 1, none⟩) zd).trans x1; have k2 := (Bd.cell (p := ⟨w.heap.size, 2, none⟩) zd).trans x2; have k3 := (Bd.cell (p := ⟨w.heap.size, 3, none⟩) zd).trans x3; have k4 := (Bd.cell (p := ⟨w.heap.size, 4, none⟩) zd).trans x4; have k5 := (Bd.cell (p := ⟨w.heap.size, 5, none⟩) zd).trans x5; have k6 := (Bd.cell (p := ⟨w.heap.size + 1, 0, none⟩) zp).trans y0; have k7 := (Bd.cell (p := ⟨w.heap.size + 1, 1, none⟩) zp).trans y1) | (go_at_call 56; refine (HC2.out _ (BW.out.trans (Bf.mono BW.out.size)) _ 1 Rd).mono ?_; rintro e wn ⟨rfl, bn⟩; (have Bd := Bf.trans (bn.mono Bf.size)); have k0 := (Bd.cell (p := ⟨w.heap.size, 0, none⟩) zd).trans x0; have k1 := (Bd.cell (p := ⟨w.heap.size, 1, none⟩) zd).trans x1; have k2 := (Bd.cell (p := ⟨w.heap.size, 2, none⟩) zd).trans x2; have k3 := (Bd.cell (p := ⟨w.heap.size, 3, none⟩) zd).trans x3; have k4 := (Bd.cell (p := ⟨w.heap.size, 4, none⟩) zd).trans x4; have k5 := (Bd.cell (p := ⟨w.heap.size, 5, none⟩) zd).trans x5; have k6 := (Bd.cell (p := ⟨w.heap.size + 1, 0, none⟩) zp).trans y0; have k7 := (Bd.cell (p := ⟨w.heap.size + 1, 1, none⟩) zp).trans y1) | fail)
    all_goals
      go_wp2_with fail
      go_meet
      exact ⟨rfl, Bd⟩
  case rest =>
    obtain ⟨rfl, b2⟩ := hcut
    generalize wc = w2 at *
    clear wc
    have KD2 := Lib.hid (KD.out.below b2 zd); have KP2 := Lib.hid (KP.out.below b2 zp); have B2 := Lib.hid (BW.out.trans (b2.mono BW.out.size))
    clear x0 x1 x2 x3 x4 x5 y0 y1 b2 BA
    obtain ⟨x0, x1, x2, x3, x4, x5⟩ := cells_6 KD2.out
    obtain ⟨y0, y1⟩ := cells_2 KP2.out
    by_cases hz : cz = 0
    · have HX2 := Lib.hid (show r = (sv, 0) by rw [HX.out, if_pos hz])
      have HZ3 := Lib.hid (HZ.out hz)
      subst hz
      clear HX HZ
      go_wp2_with fail
      refine (HZ3.out w2 B2.out).mono ?_; rintro e w3 ⟨rfl, b3⟩
      go_wp2_with fail
      go_ret2
      exact ⟨by rw [HX2.out]; first | done | rfl, B2.out.trans (b3.mono B2.out.size)⟩
    · have HX2 := Lib.hid (show r = (false, cz) by rw [HX.out, if_neg hz])
      have hne : (cz != 0) = true := by rw [bne_iff_ne]; exact hz
      clear hz HX HZ
      go_wp2_with fail
      go_ret2
      exact ⟨by rw [HX2.out]; first | done | rfl, B2.out⟩
end Go.Proofs.YtnbpbidflacoiaaDoor
namespace Go.Proofs.YtnbpbidflacoiaaDoor
open Go.ChangeShapes Go.WideShapes Go.ChangeAt Go.RowKit Go.Sort

def cntTo (xs : List Sit) (ds : List Dsc) (px py : Int) : Nat → Int
  | 0 => 0
  | k + 1 => match ds[k]? with
    | some d => if satV xs d px py = true then cntTo xs ds px py k + 1 else cntTo xs ds px py k
    | none => cntTo xs ds px py k
theorem cntTo_at {xs : List Sit} {ds : List Dsc} {px py : Int} {k : Nat} (h : k < ds.length) : cntTo xs ds px py (k + 1) = if satV xs ds[k] px py = true then cntTo xs ds px py k + 1 else cntTo xs ds px py k := by
  rw [cntTo, List.getElem?_eq_getElem h]
theorem cntTo_bd (xs : List Sit) (ds : List Dsc) (px py : Int) : ∀ k, 0 ≤ cntTo xs ds px py k ∧ cntTo xs ds px py k ≤ k
  | 0 => by simp [cntTo]
  | k + 1 => by
    have := cntTo_bd xs ds px py k
    rw [cntTo]
    split
    · split <;> omega
    · omega
set_option maxRecDepth 100000 in
set_option maxHeartbeats 4000000 in
theorem specCnt_any (xs : List Sit) (ds : List Dsc) (hz : codeS xs ds true = 0) (px py : Int) (hp : Co px) (hq : Co py) (A B : Option Addr) (c e : Nat) (w : World) (h : HasSit w xs A) (h2 : HasDsc w ds B) :
    Calls Tryd.prog 61 #[.slice A xs.length c, .slice B ds.length e, .agg #[.int .i64 px, .int .i64 py]] w fun e w' => e = .returned (.int .i64 (cntTo xs ds px py ds.length)) ∧ Below w.heap.size w w' := by
  obtain ⟨ha, _, hd, h8⟩ := codeS_zero hz
  have HS := Lib.hid (fun d (hm : d ∈ ds) W (hb : Below w.heap.size w W) => specSat_any xs ha d (h2.2.2 d hm) (hd d hm).1 (hd d hm).2.1 (hd d hm).2.2 px py hp hq A c W (h.below hb))
  have HD := Lib.hid (fun W (hb : Below w.heap.size w W) => (h2.below hb).1)
  have KN := Lib.hid (blks_one w 52 #[.int .i64 px, .int .i64 py])
  clear hz ha hd h h2 hp hq
  go_enter Tryd.func61, Tryd.ntmps61
  go_upto_region 2 with (fail)
  generalize hW : w.alloc (.cells #[.int .i64 px, .int .i64 py] 52) = W
  obtain ⟨kp, bw, hsz⟩ := KN.out W hW.symm
  clear hW hsz
  have KP := Lib.hid kp; have BW0 := Lib.hid bw; clear kp bw
  have zp := KP.out.lt
  go_wp2_with fail
  go_loopw [7, 8] (fun v7 v8 wr => ∃ (k : Nat) (n : Int), k ≤ ds.length ∧ 0 ≤ n ∧ n ≤ k ∧ Hid (cntTo xs ds px py k = n) ∧ Hid (Below W.heap.size W wr) ∧ v7 = .int .i64 n ∧ v8 = .int .i64 k) (fun _ i _ => ds.length - (intOf i).toNat)
  case atStart => exact ⟨0, 0, by omega, by omega, by omega, rfl, Below.refl _ _, rfl, rfl⟩
  case round =>
    obtain ⟨k, n, hk, hn0, hn1, HN, BW, rfl, rfl⟩ := hrel
    have BB := Lib.hid (BW0.out.trans (BW.out.mono BW0.out.size))
    by_cases hlt : k < ds.length
    · obtain ⟨ab, ao, rfl, hadb, hcell⟩ := (HD.out wr BB.out).2 (by omega)
      obtain ⟨e0, e1, e2, e3, e4, e5⟩ := dsC_get ds k hlt
      have c0 := hcell _ _ e0
      have c1 := hcell _ _ e1
      have c2 := hcell _ _ e2
      have c3 := hcell _ _ e3
      have c4 := hcell _ _ e4
      have c5 := hcell _ _ e5
      rw [← Nat.add_assoc] at c1 c2 c3 c4 c5
      clear hcell e0 e1 e2 e3 e4 e5
      have HT := Lib.hid (cntTo_at (xs := xs) (px := px) (py := py) hlt)
      have HSk := Lib.hid (HS.out ds[k] (List.getElem_mem hlt))
      unfold Dsc.val at HSk
      generalize ds[k] = b at c0 c1 c2 c3 c4 c5 HT HSk
      go_upto_region 5 with (fail)
      have k0 := cell_regrown c0
      have k1 := cell_regrown c1
      have k2 := cell_regrown c2
      have k3 := cell_regrown c3
      have k4 := cell_regrown c4
      have k5 := cell_regrown c5
      obtain ⟨y0, y1⟩ := two_regrown (KP.out.below BW.out zp)
      clear c0 c1 c2 c3 c4 c5
      have z0 : (0 : Int) ≤ (k : Int) := by omega
      have z1 : (k : Int) < (ds.length : Int) := by omega
      generalize satV xs b px py = sb at HT HSk
      have r1 : ∀ e os, Calls Tryd.prog 64 #[.slice A xs.length c, .agg #[.int .i64 b.kind, .int .i64 b.count, .string b.unit, .int .i64 b.dir, .string b.a, .string b.b], .agg #[.int .i64 px, .int .i64 py]] (grow (redrawn wr e) os) (fun e w'' => e = .returned (.bool sb) ∧ ∃ p : Regrown, w'' = grow (redrawn wr p.d) p.os) := fun e os => Calls.regrown_of (HSk.out _ (BB.out.trans ((below_regrown wr e os).mono BB.out.size)))
      cases sb
      · have HV := Lib.hid (show cntTo xs ds px py (k + 1) = n by rw [HT.out, HN.out]; rfl)
        refine wp_region_quiet_below (by kernel_rfl) (by kernel_rfl) ?_; (repeat (first | go_big_quiet_step ((first | with_reducible exact r1 _ _)))); refine wpQuiet_nil ?_; intro _ hw'; obtain ⟨⟨dq, osq⟩, rfl⟩ := hw'
        have B2 := Lib.hid (BW.out.trans ((below_regrown wr dq osq).mono BW.out.size))
        generalize grow (redrawn wr dq) osq = w2 at B2 ⊢
        clear r1 k0 k1 k2 k3 k4 k5 y0 y1
        go_wp2_with fail
        go_roundw
        case rel => exact ⟨k + 1, n, by omega, by omega, by omega, HV.out, B2.out, rfl, by go_num⟩
        case measure => simp [intOf]; omega
      · have HV := Lib.hid (show cntTo xs ds px py (k + 1) = n + 1 by rw [HT.out, HN.out]; rfl)
        refine wp_region_quiet_below (by kernel_rfl) (by kernel_rfl) ?_; (repeat (first | go_big_quiet_step ((first | with_reducible exact r1 _ _)))); refine wpQuiet_nil ?_; intro _ hw'; obtain ⟨⟨dq, osq⟩, rfl⟩ := hw'
        have B2 := Lib.hid (BW.out.trans ((below_regrown wr dq osq).mono BW.out.size))
        generalize grow (redrawn wr dq) osq = w2 at B2 ⊢
        clear r1 k0 k1 k2 k3 k4 k5 y0 y1
        go_wp2_with fail
        go_roundw
        case rel => exact ⟨k + 1, n + 1, by omega, by omega, by omega, HV.out, B2.out, by go_num, by go_num⟩
        case measure => simp [intOf]; omega
    · obtain rfl : k = ds.length := by omega
      go_wp2_with fail
      go_ret
      exact ⟨ret_int HN.out.symm, BB.out⟩
set_option maxRecDepth 100000 in
set_option maxHeartbeats 4000000 in
theorem implCnt_any (xs : List Sit) (ds : List Dsc) (ok : Bool) (hz : codeS xs ds ok = 0) (px py : Int) (hp : Co px) (hq : Co py) (A B : Option Addr) (c e : Nat) (w : World) (h : HasSit w xs A) (h2 : HasDsc w ds B) :
    Calls Tryd.prog 58 #[.slice A xs.length c, .slice B ds.length e, .agg #[.int .i64 px, .int .i64 py]] w fun e w' => e = .returned (.int .i64 (cntTo xs ds px py ds.length)) ∧ Below w.heap.size w w' := by
  obtain ⟨ha, _, hd, h8⟩ := codeS_zero hz
  have HS := Lib.hid (fun d (hm : d ∈ ds) W (hb : Below w.heap.size w W) => implSat_any xs ha d (h2.2.2 d hm) (hd d hm).1 px py hp hq A c W (h.below hb))
  have HD := Lib.hid (fun W (hb : Below w.heap.size w W) => (h2.below hb).1)
  have KN := Lib.hid (blks_one w 52 #[.int .i64 px, .int .i64 py])
  clear hz ha hd h h2 hp hq
  go_enter Tryd.func58, Tryd.ntmps58
  go_upto_region 2 with (fail)
  generalize hW : w.alloc (.cells #[.int .i64 px, .int .i64 py] 52) = W
  obtain ⟨kp, bw, hsz⟩ := KN.out W hW.symm
  clear hW hsz
  have KP := Lib.hid kp; have BW0 := Lib.hid bw; clear kp bw
  have zp := KP.out.lt
  go_wp2_with fail
  go_loopw [7, 12] (fun v7 v12 wr => ∃ (k : Nat) (n : Int), k ≤ ds.length ∧ 0 ≤ n ∧ n ≤ k ∧ Hid (cntTo xs ds px py k = n) ∧ Hid (Below W.heap.size W wr) ∧ v7 = .int .i64 n ∧ v12 = .int .i64 k) (fun _ i _ => ds.length - (intOf i).toNat)
  case atStart => exact ⟨0, 0, by omega, by omega, by omega, rfl, Below.refl _ _, rfl, rfl⟩
  case round =>
    obtain ⟨k, n, hk, hn0, hn1, HN, BW, rfl, rfl⟩ := hrel
    have BB := Lib.hid (BW0.out.trans (BW.out.mono BW0.out.size))
    by_cases hlt : k < ds.length
    · obtain ⟨ab, ao, rfl, hadb, hcell⟩ := (HD.out wr BB.out).2 (by omega)
      obtain ⟨e0, e1, e2, e3, e4, e5⟩ := dsC_get ds k hlt
      have c0 := hcell _ _ e0
      have c1 := hcell _ _ e1
      have c2 := hcell _ _ e2
      have c3 := hcell _ _ e3
      have c4 := hcell _ _ e4
      have c5 := hcell _ _ e5
      rw [← Nat.add_assoc] at c1 c2 c3 c4 c5
      clear hcell e0 e1 e2 e3 e4 e5
      have HT := Lib.hid (cntTo_at (xs := xs) (px := px) (py := py) hlt)
      have HSk := Lib.hid (HS.out ds[k] (List.getElem_mem hlt))
      unfold Dsc.val at HSk
      generalize ds[k] = b at c0 c1 c2 c3 c4 c5 HT HSk
      have T3 := Lib.hid (blks_one wr 25 #[.int .i64 b.kind, .int .i64 b.count, .string b.unit, .int .i64 b.dir, .string b.a, .string b.b])
      go_upto_region 5 with (fail)
      generalize hW : wr.alloc (.cells #[.int .i64 b.kind, .int .i64 b.count, .string b.unit, .int .i64 b.dir, .string b.a, .string b.b] 25) = W1
      obtain ⟨kb, bw, hsz⟩ := T3.out W1 hW.symm
      clear hW hsz c0 c1 c2 c3 c4 c5
      obtain ⟨x0, x1, x2, x3, x4, x5⟩ := cells_6 kb
      have B1 := Lib.hid (BW.out.trans (bw.mono BW.out.size)); clear kb bw
      have BB1 := Lib.hid (BW0.out.trans (B1.out.mono BW0.out.size))
      obtain ⟨y0, y1⟩ := cells_2 (KP.out.below B1.out zp)
      generalize satV xs b px py = sb at HT HSk
      cases sb
      · have HV := Lib.hid (show cntTo xs ds px py (k + 1) = n by rw [HT.out, HN.out]; rfl)
        go_wp2_with fail
        refine (HSk.out W1 BB1.out).mono ?_; rintro e w2 ⟨rfl, b2⟩
        have B2 := Lib.hid (B1.out.trans (b2.mono B1.out.size)); clear b2 x0 x1 x2 x3 x4 x5 y0 y1
        go_wp2_with fail
        go_roundw
        case rel => exact ⟨k + 1, n, by omega, by omega, by omega, HV.out, B2.out, rfl, by go_num⟩
        case measure => simp [intOf]; omega
      · have HV := Lib.hid (show cntTo xs ds px py (k + 1) = n + 1 by rw [HT.out, HN.out]; rfl)
        go_wp2_with fail
        refine (HSk.out W1 BB1.out).mono ?_; rintro e w2 ⟨rfl, b2⟩
        have B2 := Lib.hid (B1.out.trans (b2.mono B1.out.size)); clear b2 x0 x1 x2 x3 x4 x5 y0 y1
        go_wp2_with fail
        go_roundw
        case rel => exact ⟨k + 1, n + 1, by omega, by omega, by omega, HV.out, B2.out, by go_num, by go_num⟩
        case measure => simp [intOf]; omega
    · obtain rfl : k = ds.length := by omega
      go_wp2_with fail
      go_ret
      exact ⟨ret_int HN.out.symm, BB.out⟩
/-- What CountSatisfied returns. -/
def cntT (xs : List Sit) (ds : List Dsc) (px py : Int) : Int × Int := if codeS xs ds (ptB px py) = 0 then (cntTo xs ds px py ds.length, 0) else (0, codeS xs ds (ptB px py))
set_option maxRecDepth 100000 in
set_option maxHeartbeats 4000000 in
theorem specCntS_any (xs : List Sit) (ds : List Dsc) (px py : Int) (A B : Option Addr) (c e : Nat) (w : World) (h : HasSit w xs A) (h2 : HasDsc w ds B) :
    Calls Tryd.prog 32 #[.slice A xs.length c, .slice B ds.length e, .agg #[.int .i64 px, .int .i64 py]] w fun e w' => e = .returned (.tuple #[.int .i64 (cntT xs ds px py).1, .int .i64 (cntT xs ds px py).2]) ∧ Below w.heap.size w w' := by
  have HP := Lib.hid (specPt_any px py)
  have HC := Lib.hid (fun W (hb : Below w.heap.size w W) => specCodeS_any xs ds A B c e W (h.below hb) (h2.below hb))
  have HX := Lib.hid (show cntT xs ds px py = if codeS xs ds (ptB px py) = 0 then (cntTo xs ds px py ds.length, 0) else (0, codeS xs ds (ptB px py)) from rfl)
  have HZ := Lib.hid (fun (hp : ptB px py = true) (hz : codeS xs ds true = 0) W (hb : Below w.heap.size w W) => specCnt_any xs ds hz px py (ptB_co hp).1 (ptB_co hp).2 A B c e W (h.below hb) (h2.below hb))
  have HF := Lib.hid (show codeS xs ds false = 1 by unfold codeS; simp)
  have KN := Lib.hid (blks_one w 52 #[.int .i64 px, .int .i64 py])
  generalize cntT xs ds px py = r at HX ⊢
  clear h h2
  generalize cntTo xs ds px py ds.length = sv at *
  cases hp : ptB px py
  · rw [hp, HF.out] at HX
    rw [hp] at HP
    have HX2 := Lib.hid (show r = (0, 1) by rw [HX.out]; rfl)
    clear hp HX HZ HC
    go_enter Tryd.func32, Tryd.ntmps32
    go_wp2_with fail
    generalize hW : w.alloc (.cells #[.int .i64 px, .int .i64 py] 52) = W
    obtain ⟨kp, bw, hsz⟩ := KN.out W hW.symm
    clear hW hsz
    refine (HP.out W).mono ?_; rintro e w1 ⟨rfl, b1⟩
    go_wp2_with fail
    go_ret2
    exact ⟨by rw [HX2.out]; first | done | rfl, bw.trans (b1.mono bw.size)⟩
  · rw [hp] at HX HP
    have HZ2 := Lib.hid (HZ.out hp)
    clear HZ hp
    generalize codeS xs ds true = cz at *
    by_cases hz : cz = 0
    · subst hz
      have HX2 := Lib.hid (show r = (sv, 0) by rw [HX.out]; rfl)
      have HZ3 := Lib.hid (HZ2.out rfl)
      clear HX HZ2
      go_enter Tryd.func32, Tryd.ntmps32
      go_wp2_with fail
      generalize hW : w.alloc (.cells #[.int .i64 px, .int .i64 py] 52) = W
      obtain ⟨kp, bw, hsz⟩ := KN.out W hW.symm
      clear hW hsz
      refine (HP.out W).mono ?_; rintro e w1 ⟨rfl, b1⟩
      have KP := Lib.hid (kp.below b1 kp.lt); have B1 := Lib.hid (bw.trans (b1.mono bw.size)); clear kp bw b1
      go_wp2_with fail
      refine (HC.out w1 B1.out).mono ?_; rintro e w2 ⟨rfl, b2⟩
      obtain ⟨y0, y1⟩ := cells_2 (KP.out.below b2 KP.out.lt)
      have B2 := Lib.hid (B1.out.trans (b2.mono B1.out.size)); clear b2
      go_wp2_with fail
      refine (HZ3.out w2 B2.out).mono ?_; rintro e w3 ⟨rfl, b3⟩
      go_wp2_with fail
      go_ret2
      exact ⟨by rw [HX2.out]; first | done | rfl, B2.out.trans (b3.mono B2.out.size)⟩
    · have HX2 := Lib.hid (show r = (0, cz) by rw [HX.out, if_neg hz])
      have hne : (cz != 0) = true := by rw [bne_iff_ne]; exact hz
      clear hz HX HZ2
      go_enter Tryd.func32, Tryd.ntmps32
      go_wp2_with fail
      generalize hW : w.alloc (.cells #[.int .i64 px, .int .i64 py] 52) = W
      obtain ⟨kp, bw, hsz⟩ := KN.out W hW.symm
      clear hW hsz
      refine (HP.out W).mono ?_; rintro e w1 ⟨rfl, b1⟩
      have B1 := Lib.hid (bw.trans (b1.mono bw.size)); clear kp bw b1
      go_wp2_with fail
      refine (HC.out w1 B1.out).mono ?_; rintro e w2 ⟨rfl, b2⟩
      go_wp2_with fail
      go_ret2
      exact ⟨by rw [HX2.out]; first | done | rfl, B1.out.trans (b2.mono B1.out.size)⟩
set_option maxRecDepth 100000 in
set_option maxHeartbeats 4000000 in
theorem implCntS_any (xs : List Sit) (ds : List Dsc) (px py : Int) (A B : Option Addr) (c e : Nat) (w : World) (h : HasSit w xs A) (h2 : HasDsc w ds B) (hdir : Dirs w) :
    Calls Tryd.prog 31 #[.slice A xs.length c, .slice B ds.length e, .agg #[.int .i64 px, .int .i64 py]] w fun e w' => e = .returned (.tuple #[.int .i64 (cntT xs ds px py).1, .int .i64 (cntT xs ds px py).2]) ∧ Below w.heap.size w w' := by
  have HP := Lib.hid (implPt_any px py)
  have HC := Lib.hid (fun W (hb : Below w.heap.size w W) => implCodeS_any xs ds (ptB px py) A B c e W (h.below hb) (h2.below hb) (hdir.below hb))
  have HX := Lib.hid (show cntT xs ds px py = if codeS xs ds (ptB px py) = 0 then (cntTo xs ds px py ds.length, 0) else (0, codeS xs ds (ptB px py)) from rfl)
  have HZ := Lib.hid (fun (hz : codeS xs ds (ptB px py) = 0) W (hb : Below w.heap.size w W) => implCnt_any xs ds _ hz px py (ptB_co (codeS_zero hz).2.1).1 (ptB_co (codeS_zero hz).2.1).2 A B c e W (h.below hb) (h2.below hb))
  have KN := Lib.hid (blks_one w 52 #[.int .i64 px, .int .i64 py])
  generalize cntT xs ds px py = r at HX ⊢
  clear h h2
  generalize cntTo xs ds px py ds.length = sv at *
  generalize codeS xs ds (ptB px py) = cz at *
  generalize ptB px py = pk at *
  by_cases hz : cz = 0
  · have HX2 := Lib.hid (show r = (sv, 0) by rw [HX.out, if_pos hz])
    have HZ3 := Lib.hid (HZ.out hz)
    subst hz
    clear HX HZ
    go_enter Tryd.func31, Tryd.ntmps31
    go_wp2_with fail
    generalize hW : w.alloc (.cells #[.int .i64 px, .int .i64 py] 52) = W
    obtain ⟨kp, bw, hsz⟩ := KN.out W hW.symm
    clear hW hsz
    refine (HP.out W).mono ?_; rintro e w1 ⟨rfl, b1⟩
    have KP := Lib.hid (kp.below b1 kp.lt); have B1 := Lib.hid (bw.trans (b1.mono bw.size)); clear kp bw b1
    go_wp2_with fail
    refine (HC.out w1 B1.out).mono ?_; rintro e w2 ⟨rfl, b2⟩
    obtain ⟨y0, y1⟩ := cells_2 (KP.out.below b2 KP.out.lt)
    have B2 := Lib.hid (B1.out.trans (b2.mono B1.out.size)); clear b2
    go_wp2_with fail
    refine (HZ3.out w2 B2.out).mono ?_; rintro e w3 ⟨rfl, b3⟩
    go_wp2_with fail
    go_ret2
    exact ⟨by rw [HX2.out]; first | done | rfl, B2.out.trans (b3.mono B2.out.size)⟩
  · have HX2 := Lib.hid (show r = (0, cz) by rw [HX.out, if_neg hz])
    have hne : (cz != 0) = true := by rw [bne_iff_ne]; exact hz
    clear hz HX HZ
    go_enter Tryd.func31, Tryd.ntmps31
    go_wp2_with fail
    generalize hW : w.alloc (.cells #[.int .i64 px, .int .i64 py] 52) = W
    obtain ⟨kp, bw, hsz⟩ := KN.out W hW.symm
    clear hW hsz
    refine (HP.out W).mono ?_; rintro e w1 ⟨rfl, b1⟩
    have B1 := Lib.hid (bw.trans (b1.mono bw.size)); clear kp bw b1
    go_wp2_with fail
    refine (HC.out w1 B1.out).mono ?_; rintro e w2 ⟨rfl, b2⟩
    go_wp2_with fail
    go_ret2
    exact ⟨by rw [HX2.out]; first | done | rfl, B1.out.trans (b2.mono B1.out.size)⟩
end Go.Proofs.YtnbpbidflacoiaaDoor
namespace Go.Proofs.YtnbpbidflacoiaaDoor
open Go.ChangeShapes Go.WideShapes Go.ChangeAt Go.RowKit Go.Sort

theorem does_one {xs : List Sit} {ds : List Dsc} {px py : Int} (hz : codeS xs ds (ptB px py) = 0) {d : Dsc} (hd : d ∈ ds) : doesT xs d px py = (satV xs d px py, 0) := by
  have h1 : codeS xs [d] (ptB px py) = 0 := by
    unfold codeS at hz
    split at hz
    · next hc =>
      split at hz
      · omega
      · next hm =>
        simp only [Bool.and_eq_true] at hc
        unfold codeS
        rw [if_pos (by simp only [Bool.and_eq_true]; exact ⟨hc.1, hc.2.1, by simpa using List.all_eq_true.1 hc.2.2 d hd⟩), if_neg (by
          intro h
          simp only [List.any_cons, List.any_nil, Bool.or_false] at h
          exact hm (List.any_eq_true.2 ⟨d, hd, h⟩)), if_neg (by simp)]
    · omega
  unfold doesT
  rw [if_pos h1]
theorem cntT_zero {xs : List Sit} {ds : List Dsc} {px py : Int} (h : (cntT xs ds px py).2 = 0) : codeS xs ds (ptB px py) = 0 ∧ cntTo xs ds px py ds.length = (cntT xs ds px py).1 := by
  unfold cntT at h ⊢
  split at h
  · next hc => rw [if_pos hc]; exact ⟨hc, rfl⟩
  · next hc => exact absurd h hc
theorem sit_sizes {L : List Sit} (h : ∀ s ∈ L, SmallSt s) : ∀ b ∈ L, b.name.size ≤ 9223372036854775807 := fun b hb => by have := (h b hb).1; omega
set_option maxRecDepth 100000 in
theorem big_any (A : Option Addr) (n c : Nat) (hn : n ≤ 9223372036854775807) (w : World) :
    Calls Tryd.prog 8 #[.slice A n c] w fun e w' => e = .returned (.bool (decide ((4096 : Int) < n))) ∧ w = w' := by
  go_enter Tryd.func8, Tryd.ntmps8
  go_wp2
  go_ret
  exact ⟨rfl, rfl⟩
set_option maxRecDepth 100000 in
set_option maxHeartbeats 8000000 in
theorem lawSat_any (A : Option Addr) (n c : Nat) (w : World) (hn : n ≤ 9223372036854775807) (h : n ≤ 4096 → Code8 w A n) (hdir : Dirs w) :
    Calls Tryd.prog 5 #[.slice A n c] w fun e w' => e = .returned (.bool true) ∧ Below w.heap.size w w' := by
  have HC := Lib.hid h; clear h
  by_cases hb : (4096 : Int) < n
  · have hd : decide ((4096 : Int) < n) = true := by simpa using hb
    have HD := Lib.hid hd; clear hd hb
    go_enter Tryd.func5, Tryd.ntmps5
    go_wp2_with fail
    refine (big_any A n c hn w).mono ?_; rw [HD.out]; rintro e w' ⟨rfl, rfl⟩
    go_wp2_with fail
    go_ret
    exact ⟨rfl, Below.refl _ _⟩
  · have hd : decide ((4096 : Int) < n) = false := by simpa using hb
    have HD := Lib.hid hd; clear hd
    have hc := HC.out (by omega)
    have Cd0 := Lib.hid hc; clear hc hb
    have B0 := Lib.hid (Below.refl w.heap.size w)
    go_enter Tryd.func5, Tryd.ntmps5
    go_wp2_with fail
    refine (big_any A n c hn w).mono ?_; rw [HD.out]; rintro e w' ⟨rfl, rfl⟩
    have Dr0 := Lib.hid hdir; clear hdir
    go_wp2_with fail
    refine (drawCnt_any A n c _ Cd0.out).mono ?_
    rintro e w1 ⟨L, M, px, py, Bq, Bm, dq, dm, rfl, ownL, ownM, HL, hl, HM, hm, b⟩
    have B1 := Lib.hid (B0.out.trans (b.mono B0.out.size))
    have Cd1 := Lib.hid (Cd0.out.below b)
    have Dr1 := Lib.hid (Dr0.out.below b)
    have OL1 := Lib.hid (ownL)
    have OM1 := Lib.hid (ownM)
    clear b B0 Cd0 Dr0
    clear ownL ownM
    have NL := Lib.hid (sit_sizes HL); have NM := Lib.hid HM
    have nL : L.length ≤ 9223372036854775807 := by omega
    have nM : M.length ≤ 9223372036854775807 := by omega
    clear HL HM
    obtain ⟨cn, cc, hC⟩ : ∃ p q, cntT L M px py = (p, q) := ⟨_, _, rfl⟩
    have IC := Lib.hid (fun W (h1 : HasSit W L Bq) (h2 : HasDsc W M Bm) (h3 : Dirs W) => (show Calls Tryd.prog 31 #[.slice Bq L.length dq, .slice Bm M.length dm, .agg #[.int .i64 px, .int .i64 py]] W (fun e w' => e = .returned (.tuple #[.int .i64 cn, .int .i64 cc]) ∧ Below W.heap.size W w') from by have := implCntS_any L M px py Bq Bm dq dm W h1 h2 h3; rw [hC] at this; exact this))
    have SC := Lib.hid (fun W (h1 : HasSit W L Bq) (h2 : HasDsc W M Bm) => (show Calls Tryd.prog 32 #[.slice Bq L.length dq, .slice Bm M.length dm, .agg #[.int .i64 px, .int .i64 py]] W (fun e w' => e = .returned (.tuple #[.int .i64 cn, .int .i64 cc]) ∧ Below W.heap.size W w') from by have := specCntS_any L M px py Bq Bm dq dm W h1 h2; rw [hC] at this; exact this))
    have HC := Lib.hid hC; clear hC
    go_upto_region 4 with (fail)
    have b : Below w1.heap.size w1 (w1.alloc (.cells #[.int .i64 px, .int .i64 py] 52)) := (Below.refl _ _).alloc (Nat.le_refl _) _
    have nk := Blk.new w1 52 #[.int .i64 px, .int .i64 py]
    generalize w1.alloc (.cells #[.int .i64 px, .int .i64 py] 52) = w2 at b nk ⊢
    have nk := Lib.hid nk
    have B2 := Lib.hid (B1.out.trans (b.mono B1.out.size))
    have Cd2 := Lib.hid (Cd1.out.below b)
    have Dr2 := Lib.hid (Dr1.out.below b)
    have OL2 := Lib.hid (own_below OL1.out b)
    have OM2 := Lib.hid (own_below OM1.out b)
    have P2 := Lib.hid (nk.out)
    clear b B1 Cd1 Dr1 OL1 OM1
    clear nk
    obtain ⟨xP0, xP1⟩ := cells_2 P2.out
    go_wp2_with fail
    refine (IC.out _ ⟨Reads.of_own OL2.out, nL, NL.out⟩ ⟨Reads.of_own OM2.out, nM, NM.out⟩ Dr2.out).mono ?_
    rintro e w3 ⟨rfl, b⟩
    clear xP0 xP1 IC
    have B3 := Lib.hid (B2.out.trans (b.mono B2.out.size))
    have Cd3 := Lib.hid (Cd2.out.below b)
    have Dr3 := Lib.hid (Dr2.out.below b)
    have OL3 := Lib.hid (own_below OL2.out b)
    have OM3 := Lib.hid (own_below OM2.out b)
    have P3 := Lib.hid (P2.out.below b P2.out.lt)
    clear b B2 Cd2 Dr2 OL2 OM2 P2
    obtain ⟨xP0, xP1⟩ := cells_2 P3.out
    go_wp2_with fail
    refine (SC.out _ ⟨Reads.of_own OL3.out, nL, NL.out⟩ ⟨Reads.of_own OM3.out, nM, NM.out⟩).mono ?_
    rintro e w4 ⟨rfl, b⟩
    clear xP0 xP1 SC
    have B4 := Lib.hid (B3.out.trans (b.mono B3.out.size))
    have Cd4 := Lib.hid (Cd3.out.below b)
    have Dr4 := Lib.hid (Dr3.out.below b)
    have OL4 := Lib.hid (own_below OL3.out b)
    have OM4 := Lib.hid (own_below OM3.out b)
    have P4 := Lib.hid (P3.out.below b P3.out.lt)
    clear b B3 Cd3 Dr3 OL3 OM3 P3
    go_wp2_with fail
    refine (drawDoes_any A n c _ Cd4.out).mono ?_
    rintro e w5 ⟨X, ⟨kd, ct, un, dr, a, b'⟩, qx, qy, Bx, dx, rfl, ownX, HX, hx, okD, b⟩
    have B5 := Lib.hid (B4.out.trans (b.mono B4.out.size))
    have Cd5 := Lib.hid (Cd4.out.below b)
    have Dr5 := Lib.hid (Dr4.out.below b)
    have OL5 := Lib.hid (own_below OL4.out b)
    have OM5 := Lib.hid (own_below OM4.out b)
    have P5 := Lib.hid (P4.out.below b P4.out.lt)
    have OX5 := Lib.hid (ownX)
    clear b B4 Cd4 Dr4 OL4 OM4 P4
    clear Cd5
    clear ownX
    have NX := Lib.hid (sit_sizes HX)
    have nX : X.length ≤ 9223372036854775807 := by omega
    clear HX
    obtain ⟨db, dc, hD⟩ : ∃ p q, doesT X ⟨kd, ct, un, dr, a, b'⟩ qx qy = (p, q) := ⟨_, _, rfl⟩
    have ID := Lib.hid (fun W (h1 : HasSit W X Bx) (h3 : Dirs W) => (show Calls Tryd.prog 34 #[.slice Bx X.length dx, .agg #[.int .i64 kd, .int .i64 ct, .string un, .int .i64 dr, .string a, .string b'], .agg #[.int .i64 qx, .int .i64 qy]] W (fun e w' => e = .returned (.tuple #[.bool db, .int .i64 dc]) ∧ Below W.heap.size W w') from by have := implDoes_any X ⟨kd, ct, un, dr, a, b'⟩ okD qx qy Bx dx W h1 h3; rw [hD] at this; exact this))
    have SD := Lib.hid (fun W (h1 : HasSit W X Bx) => (show Calls Tryd.prog 35 #[.slice Bx X.length dx, .agg #[.int .i64 kd, .int .i64 ct, .string un, .int .i64 dr, .string a, .string b'], .agg #[.int .i64 qx, .int .i64 qy]] W (fun e w' => e = .returned (.tuple #[.bool db, .int .i64 dc]) ∧ Below W.heap.size W w') from by have := specDoes_any X ⟨kd, ct, un, dr, a, b'⟩ okD qx qy Bx dx W h1; rw [hD] at this; exact this))
    clear hD okD
    unfold Dsc.val
    dsimp only
    go_upto_region 7 with (fail)
    have b : Below w5.heap.size w5 ((w5.alloc (.cells #[.int .i64 kd, .int .i64 ct, .string un, .int .i64 dr, .string a, .string b'] 25)).alloc (.cells #[.int .i64 qx, .int .i64 qy] 52)) := ((Below.refl _ _).alloc (Nat.le_refl _) _).alloc (by simp) _
    have nk := (Blk.new w5 25 #[.int .i64 kd, .int .i64 ct, .string un, .int .i64 dr, .string a, .string b']).alloc (.cells #[.int .i64 qx, .int .i64 qy] 52)
    have nk2 := Blk.new (w5.alloc (.cells #[.int .i64 kd, .int .i64 ct, .string un, .int .i64 dr, .string a, .string b'] 25)) 52 #[.int .i64 qx, .int .i64 qy]
    have zq : (w5.alloc (.cells #[.int .i64 kd, .int .i64 ct, .string un, .int .i64 dr, .string a, .string b'] 25)).heap.size = w5.heap.size + 1 := by simp
    rw [zq] at nk2
    clear zq
    generalize (w5.alloc (.cells #[.int .i64 kd, .int .i64 ct, .string un, .int .i64 dr, .string a, .string b'] 25)).alloc (.cells #[.int .i64 qx, .int .i64 qy] 52) = w6 at b nk nk2 ⊢
    have nk := Lib.hid nk; have nk2 := Lib.hid nk2
    have B6 := Lib.hid (B5.out.trans (b.mono B5.out.size))
    have Dr6 := Lib.hid (Dr5.out.below b)
    have OL6 := Lib.hid (own_below OL5.out b)
    have OM6 := Lib.hid (own_below OM5.out b)
    have P6 := Lib.hid (P5.out.below b P5.out.lt)
    have OX6 := Lib.hid (own_below OX5.out b)
    have D6 := Lib.hid (nk.out)
    have Q6 := Lib.hid (nk2.out)
    clear b B5 Dr5 OL5 OM5 P5 OX5
    clear nk nk2
    obtain ⟨xD0, xD1, xD2, xD3, xD4, xD5⟩ := six_cells D6.out
    obtain ⟨xQ0, xQ1⟩ := cells_2 Q6.out
    go_wp2_with fail
    refine (ID.out _ ⟨Reads.of_own OX6.out, nX, NX.out⟩ Dr6.out).mono ?_
    rintro e w7 ⟨rfl, b⟩
    clear xD0 xD1 xD2 xD3 xD4 xD5 xQ0 xQ1 ID
    have B7 := Lib.hid (B6.out.trans (b.mono B6.out.size))
    have Dr7 := Lib.hid (Dr6.out.below b)
    have OL7 := Lib.hid (own_below OL6.out b)
    have OM7 := Lib.hid (own_below OM6.out b)
    have P7 := Lib.hid (P6.out.below b P6.out.lt)
    have OX7 := Lib.hid (own_below OX6.out b)
    have D7 := Lib.hid (D6.out.below b D6.out.lt)
    have Q7 := Lib.hid (Q6.out.below b Q6.out.lt)
    clear b B6 Dr6 OL6 OM6 P6 OX6 D6 Q6
    obtain ⟨xD0, xD1, xD2, xD3, xD4, xD5⟩ := six_cells D7.out
    obtain ⟨xQ0, xQ1⟩ := cells_2 Q7.out
    go_wp2_with fail
    refine (SD.out _ ⟨Reads.of_own OX7.out, nX, NX.out⟩).mono ?_
    rintro e w8 ⟨rfl, b⟩
    clear xD0 xD1 xD2 xD3 xD4 xD5 xQ0 xQ1 SD
    have B8 := Lib.hid (B7.out.trans (b.mono B7.out.size))
    have Dr8 := Lib.hid (Dr7.out.below b)
    have OL8 := Lib.hid (own_below OL7.out b)
    have OM8 := Lib.hid (own_below OM7.out b)
    have P8 := Lib.hid (P7.out.below b P7.out.lt)
    have OX8 := Lib.hid (own_below OX7.out b)
    have D8 := Lib.hid (D7.out.below b D7.out.lt)
    have Q8 := Lib.hid (Q7.out.below b Q7.out.lt)
    clear b B7 Dr7 OL7 OM7 P7 OX7 D7 Q7
    clear D8
    clear Q8
    clear OX8
    by_cases hcc : cc = 0
    rotate_left
    · have hc1 : (cc != 0) = true := by simpa using hcc
      go_wp2_with fail
      go_ret
      exact ⟨rfl, B8.out⟩
    subst hcc
    obtain ⟨hz, hcn⟩ := cntT_zero (xs := L) (ds := M) (px := px) (py := py) (by rw [HC.out])
    rw [HC.out] at hcn
    dsimp only at hcn
    have HCN := Lib.hid hcn
    have HDo := Lib.hid (fun d (hd : d ∈ M) => does_one hz hd)
    clear hz hcn HC
    go_wp2_with fail
    have HB0 := Lib.hid (Below.refl w8.heap.size w8)
    go_loopw [17, 18] (fun v17 v18 wr => ∃ (k : Nat) (n : Int), k ≤ M.length ∧ 0 ≤ n ∧ n ≤ k ∧ Hid (cntTo L M px py k = n) ∧ Hid (Below w8.heap.size w8 wr) ∧ v17 = .int .i64 n ∧ v18 = .int .i64 k) (fun _ i _ => M.length - (intOf i).toNat)
    case atStart => exact ⟨0, 0, by omega, by omega, by omega, rfl, Below.refl _ _, rfl, rfl⟩
    case round =>
      obtain ⟨k, n, hk, hn0, hn1, HN, BW, rfl, rfl⟩ := hrel
      by_cases hlt : k < M.length
      · obtain ⟨ab, ao, rfl, hadb, hcell⟩ := (Reads.of_own (own_below OM8.out BW.out)).2 (by omega)
        obtain ⟨e0, e1, e2, e3, e4, e5⟩ := dsC_get M k hlt
        have c0 := hcell _ _ e0
        have c1 := hcell _ _ e1
        have c2 := hcell _ _ e2
        have c3 := hcell _ _ e3
        have c4 := hcell _ _ e4
        have c5 := hcell _ _ e5
        rw [← Nat.add_assoc] at c1 c2 c3 c4 c5
        clear hcell e0 e1 e2 e3 e4 e5
        have HT := Lib.hid (cntTo_at (xs := L) (px := px) (py := py) hlt)
        have HI := Lib.hid (fun W (h1 : HasSit W L Bq) (h3 : Dirs W) => implDoes_any L M[k] (NM.out _ (List.getElem_mem hlt)) px py Bq dq W h1 h3)
        rw [HDo.out M[k] (List.getElem_mem hlt)] at HI
        unfold Dsc.val at HI
        generalize M[k] = d at c0 c1 c2 c3 c4 c5 HT HI
        go_upto_region 17 with (fail)
        have k0 := cell_regrown c0
        have k1 := cell_regrown c1
        have k2 := cell_regrown c2
        have k3 := cell_regrown c3
        have k4 := cell_regrown c4
        have k5 := cell_regrown c5
        obtain ⟨y0, y1⟩ := two_regrown (P8.out.below BW.out P8.out.lt)
        clear c0 c1 c2 c3 c4 c5
        have z0 : (0 : Int) ≤ (k : Int) := by omega
        have z1 : (k : Int) < (M.length : Int) := by omega
        generalize satV L d px py = sb at HT HI
        have r1 : ∀ e os, Calls Tryd.prog 34 #[.slice Bq L.length dq, .agg #[.int .i64 d.kind, .int .i64 d.count, .string d.unit, .int .i64 d.dir, .string d.a, .string d.b], .agg #[.int .i64 px, .int .i64 py]] (grow (redrawn wr e) os) (fun e w'' => e = .returned (.tuple #[.bool sb, .int .i64 0]) ∧ ∃ p : Regrown, w'' = grow (redrawn wr p.d) p.os) := fun e os => Calls.regrown_of (HI.out _ ⟨Reads.of_own (own_below OL8.out (BW.out.trans ((below_regrown wr e os).mono BW.out.size))), nL, NL.out⟩ (Dr8.out.below (BW.out.trans ((below_regrown wr e os).mono BW.out.size))))
        cases sb
        · have HV := Lib.hid (show cntTo L M px py (k + 1) = n by rw [HT.out, HN.out]; rfl)
          refine wp_region_quiet_below (by kernel_rfl) (by kernel_rfl) ?_; (repeat (first | go_big_quiet_step ((first | with_reducible exact r1 _ _)))); refine wpQuiet_nil ?_; intro _ hw'; obtain ⟨⟨dq', osq⟩, rfl⟩ := hw'
          have B2 := Lib.hid (BW.out.trans ((below_regrown wr dq' osq).mono BW.out.size))
          generalize grow (redrawn wr dq') osq = w' at B2 ⊢
          clear r1 k0 k1 k2 k3 k4 k5 y0 y1
          go_wp2_with fail
          go_roundw
          case rel => exact ⟨k + 1, n, by omega, by omega, by omega, HV.out, B2.out, rfl, by go_num⟩
          case measure => simp [intOf]; omega
        · have HV := Lib.hid (show cntTo L M px py (k + 1) = n + 1 by rw [HT.out, HN.out]; rfl)
          refine wp_region_quiet_below (by kernel_rfl) (by kernel_rfl) ?_; (repeat (first | go_big_quiet_step ((first | with_reducible exact r1 _ _)))); refine wpQuiet_nil ?_; intro _ hw'; obtain ⟨⟨dq', osq⟩, rfl⟩ := hw'
          have B2 := Lib.hid (BW.out.trans ((below_regrown wr dq' osq).mono BW.out.size))
          generalize grow (redrawn wr dq') osq = w' at B2 ⊢
          clear r1 k0 k1 k2 k3 k4 k5 y0 y1
          go_wp2_with fail
          go_roundw
          case rel => exact ⟨k + 1, n + 1, by omega, by omega, by omega, HV.out, B2.out, by go_num, by go_num⟩
          case measure => simp [intOf]; omega
      · obtain rfl : k = M.length := by omega
        have hne := HN.out
        rw [HCN.out] at hne
        subst hne
        go_wp2_with fail
        go_ret
        exact ⟨by simp, B8.out.trans (BW.out.mono B8.out.size)⟩
end Go.Proofs.YtnbpbidflacoiaaDoor
