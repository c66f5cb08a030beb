/- At the length and in the direction of a description; between two points: of the program and of the reference. -/
import Derived.Test.YtaaioengebaebaaGreatDoorRows
import Derived.Test.YtaaioengebaebaaGreatDoorK8GA
import Derived.WalkKit
import Derived.ProofKit
import Derived.OpenShut
import Derived.BigQuiet
import Derived.Outline
import Derived.WalkSpells
import Derived.WalkLawsBesides
import Derived.Deep.DeepCutAuto
import Derived.Test.YtaaioengebaebaaGreatDoorK8H8
import Derived.Test.YtaaioengebaebaaGreatDoorK8Q6
import Derived.Test.YtaaioengebaebaaGreatDoorK8GD
namespace Go.Proofs.YtaaioengebaebaaGreatDoor
open Go.ChangeShapes Go.WideShapes Go.ChangeAt Go.RowKit Go.Sort

theorem nn_bd {u v : Int} (h1 : 0 ≤ u) (h2 : u ≤ 100000) (h3 : 0 ≤ v) (h4 : v ≤ 100000) : 0 ≤ u * v ∧ u * v ≤ 10000000000 := by
  refine ⟨Int.mul_nonneg h1 h3, ?_⟩
  have h : u * v ≤ 100000 * 100000 := Int.mul_le_mul h2 h4 h3 (by omega)
  omega
def offB (o : Int) : Bool := decide (o = 0) || (decide (o = 1) || decide (o = 7))
/-- The length of a description. -/
def lenD (d : Dsc) : Int := d.count * unitD d.unit d.count
def fromV (d : Dsc) (ax ay px py : Int) : Bool := (!(decide (px = ax) && decide (py = ay)) && inB (16 * sq ax ay px py) (9 * lenD d * lenD d) (25 * lenD d * lenD d)) && offB ((dirV (px - ax) (py - ay) - d.dir + 8) % 8)
theorem unitD_bd (u : ByteArray) (c : Int) : 0 ≤ unitD u c ∧ unitD u c ≤ 12 := by
  by_cases h : c = 1
  · subst h; rw [unit1]; (repeat' split) <;> omega
  · rw [unitN h]; (repeat' split) <;> omega
theorem lenD_bd {d : Dsc} (h : isD d = true) (hk : d.kind = 2) : 0 ≤ lenD d ∧ lenD d ≤ 1188 := by
  obtain ⟨⟨c1, c2⟩, _⟩ := isD_from h hk
  obtain ⟨u1, u2⟩ := unitD_bd d.unit d.count
  unfold lenD
  refine ⟨Int.mul_nonneg (by omega) u1, ?_⟩
  have h : d.count * unitD d.unit d.count ≤ 99 * 12 := Int.mul_le_mul c2 u2 u1 (by omega)
  omega
set_option maxRecDepth 100000 in
set_option maxHeartbeats 4000000 in
theorem isFrom_any (d : Dsc) (hd : d.Ok) (hi : isD d = true) (hk : d.kind = 2) (ax ay px py : Int) (ha : Co ax) (hb : Co ay) (hc : Co px) (hdd : Co py) (w : World) :
    Calls Tryz.prog 117 #[d.val, .agg #[.int .i64 ax, .int .i64 ay], .agg #[.int .i64 px, .int .i64 py]] w fun e w' => e = .returned (.bool (fromV d ax ay px py)) ∧ Below w.heap.size w w' := by
  obtain ⟨hcn, hun, ⟨g1, g2⟩, hdb⟩ := isD_from hi hk
  clear hdb
  obtain ⟨n1, n2⟩ := lenD_bd hi hk
  have HS := Lib.hid (show ∀ w, Calls Tryz.prog 126 #[d.val] w (fun e w' => e = .returned (.int .i64 (lenD d)) ∧ Below w.heap.size w w') from steps_any d hd hcn hun)
  have HQ := Lib.hid (implSq ax ay px py ha hb hc hdd)
  obtain ⟨s1, s2⟩ := sq_all ha hb hc hdd
  have HDv := Lib.hid (fun h => implDir_any ax ay px py ha hb hc hdd h)
  obtain ⟨v1, v2⟩ := dirV_bd (px - ax) (py - ay)
  have HX := Lib.hid (show fromV d ax ay px py = ((!(decide (px = ax) && decide (py = ay)) && inB (16 * sq ax ay px py) (9 * lenD d * lenD d) (25 * lenD d * lenD d)) && offB ((dirV (px - ax) (py - ay) - d.dir + 8) % 8)) from rfl)
  have HO := Lib.hid (show ∀ o, offB o = (decide (o = 0) || (decide (o = 1) || decide (o = 7))) from fun _ => rfl)
  clear hi hd hk hcn hun ha hb hc hdd
  unfold Dsc.val at HS ⊢
  generalize fromV d ax ay px py = r at HX ⊢
  generalize sq ax ay px py = s at *
  generalize dirV (px - ax) (py - ay) = dv at *
  generalize lenD d = n at *
  have KN := Lib.hid (blks_three w 79 32 32 #[.int .i64 d.kind, .int .i64 d.count, .string d.unit, .int .i64 d.dir, .string d.a, .string d.b] #[.int .i64 ax, .int .i64 ay] #[.int .i64 px, .int .i64 py])
  obtain ⟨m1, m2⟩ := nn_bd (u := 9 * n) (v := n) (by omega) (by omega) (by omega) (by omega)
  obtain ⟨m3, m4⟩ := nn_bd (u := 25 * n) (v := n) (by omega) (by omega) (by omega) (by omega)
  have HI := Lib.hid (within_any (16 * s) (9 * n * n) (25 * n * n))
  generalize hq : inB (16 * s) (9 * n * n) (25 * n * n) = q at HI HX
  clear hq
  obtain ⟨cx, hcx⟩ : ∃ b, decide (px = ax) = b := ⟨_, rfl⟩
  obtain ⟨cy, hcy⟩ : ∃ b, decide (py = ay) = b := ⟨_, rfl⟩
  have hx : (px == ax) = cx := by rw [← hcx]; by_cases h : px = ax <;> simp [h]
  have hy : (py == ay) = cy := by rw [← hcy]; by_cases h : py = ay <;> simp [h]
  have HN : Hid (cx = true → cy = true → False) ∨ (cx = true ∧ cy = true) := by
    cases cx <;> cases cy <;> simp [Hid]
  have HNe := Lib.hid (show (cx && cy) = false → ¬ (ax = px ∧ ay = py) from fun h h2 => by
    rw [← hcx, ← hcy, decide_eq_true h2.1.symm, decide_eq_true h2.2.symm] at h; cases h)
  rw [hcx, hcy] at HX
  clear hcx hcy HN
  cases hxy : (cx && cy)
  · have HD2 := Lib.hid (HDv.out (HNe.out hxy))
    rw [hxy] at HX
    cases q
    · cases cx <;> cases cy <;> first | (cases hxy; done) | skip
      all_goals
        clear hxy
        go_enter Tryz.func117, Tryz.ntmps117
        go_upto_region 1 with (fail)
        generalize hW : ((w.alloc (.cells #[.int .i64 d.kind, .int .i64 d.count, .string d.unit, .int .i64 d.dir, .string d.a, .string d.b] 79)).alloc (.cells #[.int .i64 ax, .int .i64 ay] 32)).alloc (.cells #[.int .i64 px, .int .i64 py] 32) = W
        obtain ⟨kd, ka, kp, bw, hsz⟩ := KN.out W hW.symm
        clear hW hsz
        obtain ⟨x0, x1, x2, x3, x4, x5⟩ := cells_6 kd
        have y0 := cell_regrown x0; have y1 := cell_regrown x1; have y2 := cell_regrown x2; have y3 := cell_regrown x3; have y4 := cell_regrown x4; have y5 := cell_regrown x5
        obtain ⟨a0, a1⟩ := two_regrown ka
        obtain ⟨p0, p1⟩ := two_regrown kp
        clear x0 x1 x2 x3 x4 x5
        have r1 : ∀ e os, Calls Tryz.prog 126 #[.agg #[.int .i64 d.kind, .int .i64 d.count, .string d.unit, .int .i64 d.dir, .string d.a, .string d.b]] (grow (redrawn W e) os) (fun e w'' => e = .returned (.int .i64 n) ∧ ∃ p : Regrown, w'' = grow (redrawn W p.d) p.os) := fun e os => Calls.regrown_of (HS.out _)
        have r2 : ∀ e os, Calls Tryz.prog 99 #[.agg #[.int .i64 ax, .int .i64 ay], .agg #[.int .i64 px, .int .i64 py]] (grow (redrawn W e) os) (fun e w'' => e = .returned (.int .i64 s) ∧ ∃ p : Regrown, w'' = grow (redrawn W p.d) p.os) := fun e os => Calls.regrown_of (HQ.out _)
        refine wp_region_quiet_below (by kernel_rfl) (by kernel_rfl) ?_; (repeat (first | go_big_quiet_step ((first | with_reducible exact r1 _ _ | with_reducible exact r2 _ _)))); refine wpQuiet_nil ?_; intro _ hw'; obtain ⟨⟨dq, osq⟩, rfl⟩ := hw'
        have KA := Lib.hid (ka.below (below_regrown W dq osq) ka.lt); have KP := Lib.hid (kp.below (below_regrown W dq osq) kp.lt); have B2 := Lib.hid (bw.trans ((below_regrown W dq osq).mono bw.size))
        generalize grow (redrawn W dq) osq = w2 at KA KP B2 ⊢
        clear r1 r2 y0 y1 y2 y3 y4 y5 a0 a1 p0 p1 kd ka kp bw
        obtain ⟨a0, a1⟩ := cells_2 KA.out
        obtain ⟨p0, p1⟩ := cells_2 KP.out
        go_wp2_with fail
        refine (HI.out _).mono ?_; rintro e w' ⟨rfl, rfl⟩
        go_wp2_with fail
        go_ret
        exact ⟨ret_bool (by rw [HX.out]; rfl), B2.out⟩
    · have e1 : IntKind.i64.wrap (dv - d.dir) = dv - d.dir := IntWalk.i64_in _ (by omega)
      have e2 : IntKind.i64.wrap (dv - d.dir + 8) = dv - d.dir + 8 := IntWalk.i64_in _ (by omega)
      have e3 : (dv - d.dir + 8).tmod 8 = (dv - d.dir + 8) % 8 := Int.tmod_eq_emod_of_nonneg (by omega)
      have e4 : IntKind.i64.wrap ((dv - d.dir + 8) % 8) = (dv - d.dir + 8) % 8 := IntWalk.i64_in _ (by omega)
      have HOf := Lib.hid (HO.out ((dv - d.dir + 8) % 8))
      generalize offB ((dv - d.dir + 8) % 8) = ob at HX HOf
      generalize ho : (dv - d.dir + 8) % 8 = o at *
      clear ho
      rcases (show o = 0 ∨ o = 1 ∨ o = 7 ∨ (o ≠ 0 ∧ o ≠ 1 ∧ o ≠ 7) by omega) with h | h | h | ⟨h, h', h''⟩
      all_goals
        have HOb := HOf.out
        simp only [h] at HOb
        cases cx <;> cases cy <;> first | (cases hxy; done) | skip
      all_goals
        clear hxy
        go_enter Tryz.func117, Tryz.ntmps117
        go_upto_region 1 with (fail)
        generalize hW : ((w.alloc (.cells #[.int .i64 d.kind, .int .i64 d.count, .string d.unit, .int .i64 d.dir, .string d.a, .string d.b] 79)).alloc (.cells #[.int .i64 ax, .int .i64 ay] 32)).alloc (.cells #[.int .i64 px, .int .i64 py] 32) = W
        obtain ⟨kd, ka, kp, bw, hsz⟩ := KN.out W hW.symm
        clear hW hsz
        obtain ⟨x0, x1, x2, x3, x4, x5⟩ := cells_6 kd
        have y0 := cell_regrown x0; have y1 := cell_regrown x1; have y2 := cell_regrown x2; have y3 := cell_regrown x3; have y4 := cell_regrown x4; have y5 := cell_regrown x5
        obtain ⟨a0, a1⟩ := two_regrown ka
        obtain ⟨p0, p1⟩ := two_regrown kp
        clear x0 x1 x2 x3 x4 x5
        have r1 : ∀ e os, Calls Tryz.prog 126 #[.agg #[.int .i64 d.kind, .int .i64 d.count, .string d.unit, .int .i64 d.dir, .string d.a, .string d.b]] (grow (redrawn W e) os) (fun e w'' => e = .returned (.int .i64 n) ∧ ∃ p : Regrown, w'' = grow (redrawn W p.d) p.os) := fun e os => Calls.regrown_of (HS.out _)
        have r2 : ∀ e os, Calls Tryz.prog 99 #[.agg #[.int .i64 ax, .int .i64 ay], .agg #[.int .i64 px, .int .i64 py]] (grow (redrawn W e) os) (fun e w'' => e = .returned (.int .i64 s) ∧ ∃ p : Regrown, w'' = grow (redrawn W p.d) p.os) := fun e os => Calls.regrown_of (HQ.out _)
        refine wp_region_quiet_below (by kernel_rfl) (by kernel_rfl) ?_; (repeat (first | go_big_quiet_step ((first | with_reducible exact r1 _ _ | with_reducible exact r2 _ _)))); refine wpQuiet_nil ?_; intro _ hw'; obtain ⟨⟨dq, osq⟩, rfl⟩ := hw'
        have KA := Lib.hid (ka.below (below_regrown W dq osq) ka.lt); have KP := Lib.hid (kp.below (below_regrown W dq osq) kp.lt); have KD := Lib.hid (kd.below (below_regrown W dq osq) kd.lt); have B2 := Lib.hid (bw.trans ((below_regrown W dq osq).mono bw.size))
        generalize grow (redrawn W dq) osq = w2 at KA KP KD B2 ⊢
        clear r1 r2 y0 y1 y2 y3 y4 y5 a0 a1 p0 p1 kd ka kp bw
        obtain ⟨a0, a1⟩ := cells_2 KA.out
        obtain ⟨p0, p1⟩ := cells_2 KP.out
        go_wp2_with fail
        refine (HI.out _).mono ?_; rintro e w' ⟨rfl, rfl⟩
        go_upto_region 4 with (fail)
        clear a0 a1 p0 p1
        obtain ⟨x0, x1, x2, x3, x4, x5⟩ := cells_6 KD.out
        have y3 := cell_regrown x3
        obtain ⟨a0, a1⟩ := two_regrown KA.out
        obtain ⟨p0, p1⟩ := two_regrown KP.out
        clear x0 x1 x2 x3 x4 x5
        have r1 : ∀ e os, Calls Tryz.prog 127 #[.agg #[.int .i64 ax, .int .i64 ay], .agg #[.int .i64 px, .int .i64 py]] (grow (redrawn w2 e) os) (fun e w'' => e = .returned (.int .i64 dv) ∧ ∃ p : Regrown, w'' = grow (redrawn w2 p.d) p.os) := fun e os => Calls.regrown_of (HD2.out _)
        refine wp_region_quiet_below (by kernel_rfl) (by kernel_rfl) ?_; (repeat (first | go_big_quiet_step ((first | with_reducible exact r1 _ _)))); refine wpQuiet_nil ?_; intro _ hw'; obtain ⟨⟨dq, osq⟩, rfl⟩ := hw'
        have B3 := Lib.hid (B2.out.trans ((below_regrown w2 dq osq).mono B2.out.size))
        generalize grow (redrawn w2 dq) osq = w3 at B3 ⊢
        clear r1 y3 a0 a1 p0 p1
        go_wp2_with fail
        go_ret
        exact ⟨ret_bool (by rw [HX.out, HOb]; simp_all), B3.out⟩
  · rw [hxy] at HX
    have hcx : cx = true := by cases cx; cases hxy; rfl
    have hcy : cy = true := by cases cy; (cases cx <;> cases hxy); rfl
    subst hcx hcy
    clear hxy
    go_enter Tryz.func117, Tryz.ntmps117
    go_upto_region 1 with (fail)
    generalize hW : ((w.alloc (.cells #[.int .i64 d.kind, .int .i64 d.count, .string d.unit, .int .i64 d.dir, .string d.a, .string d.b] 79)).alloc (.cells #[.int .i64 ax, .int .i64 ay] 32)).alloc (.cells #[.int .i64 px, .int .i64 py] 32) = W
    obtain ⟨kd, ka, kp, bw, hsz⟩ := KN.out W hW.symm
    clear hW hsz
    obtain ⟨x0, x1, x2, x3, x4, x5⟩ := cells_6 kd
    have y0 := cell_regrown x0; have y1 := cell_regrown x1; have y2 := cell_regrown x2; have y3 := cell_regrown x3; have y4 := cell_regrown x4; have y5 := cell_regrown x5
    obtain ⟨a0, a1⟩ := two_regrown ka
    obtain ⟨p0, p1⟩ := two_regrown kp
    clear x0 x1 x2 x3 x4 x5
    have r1 : ∀ e os, Calls Tryz.prog 126 #[.agg #[.int .i64 d.kind, .int .i64 d.count, .string d.unit, .int .i64 d.dir, .string d.a, .string d.b]] (grow (redrawn W e) os) (fun e w'' => e = .returned (.int .i64 n) ∧ ∃ p : Regrown, w'' = grow (redrawn W p.d) p.os) := fun e os => Calls.regrown_of (HS.out _)
    have r2 : ∀ e os, Calls Tryz.prog 99 #[.agg #[.int .i64 ax, .int .i64 ay], .agg #[.int .i64 px, .int .i64 py]] (grow (redrawn W e) os) (fun e w'' => e = .returned (.int .i64 s) ∧ ∃ p : Regrown, w'' = grow (redrawn W p.d) p.os) := fun e os => Calls.regrown_of (HQ.out _)
    refine wp_region_quiet_below (by kernel_rfl) (by kernel_rfl) ?_; (repeat (first | go_big_quiet_step ((first | with_reducible exact r1 _ _ | with_reducible exact r2 _ _)))); refine wpQuiet_nil ?_; intro _ hw'; obtain ⟨⟨dq, osq⟩, rfl⟩ := hw'
    have KA := Lib.hid (ka.below (below_regrown W dq osq) ka.lt); have KP := Lib.hid (kp.below (below_regrown W dq osq) kp.lt); have B2 := Lib.hid (bw.trans ((below_regrown W dq osq).mono bw.size))
    generalize grow (redrawn W dq) osq = w2 at KA KP B2 ⊢
    clear r1 r2 y0 y1 y2 y3 y4 y5 a0 a1 p0 p1 kd ka kp bw
    obtain ⟨a0, a1⟩ := cells_2 KA.out
    obtain ⟨p0, p1⟩ := cells_2 KP.out
    go_wp2_with fail
    go_ret
    exact ⟨ret_bool (by rw [HX.out]; rfl), B2.out⟩
end Go.Proofs.YtaaioengebaebaaGreatDoor
