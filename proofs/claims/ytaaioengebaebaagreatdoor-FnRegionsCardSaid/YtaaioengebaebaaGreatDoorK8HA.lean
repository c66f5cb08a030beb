/- Between two points: of the program and of the reference. -/
import Derived.Test.YtaaioengebaebaaGreatDoorRows
import Derived.Test.YtaaioengebaebaaGreatDoorK8GA
import Derived.WalkKit
import Derived.ProofKit
import Derived.OpenShut
import Derived.BigQuiet
import Derived.Outline
import Derived.WalkSpells
import Derived.WalkLawsBesides
import Derived.Deep.DeepCutAuto
import Derived.Test.YtaaioengebaebaaGreatDoorK8H9
namespace Go.Proofs.YtaaioengebaebaaGreatDoor
open Go.ChangeShapes Go.WideShapes Go.ChangeAt Go.RowKit Go.Sort

def alongV (ax ay bx bY px py : Int) : Int := (px - ax) * (bx - ax) + (py - ay) * (bY - ay)
def betwV (ax ay bx bY px py : Int) : Bool := if (decide (ax = bx) && decide (ay = bY)) = true then (decide (px = ax) && decide (py = ay)) else (inB (alongV ax ay bx bY px py) 0 (sq ax ay bx bY) && decide (4 * absI (trn ax ay bx bY px py) ≤ sq ax ay bx bY))
theorem sq_le {u v : Int} (hu : 0 ≤ u) (hv : 0 ≤ v) : u * u ≤ v * v ↔ u ≤ v := by
  constructor
  · intro h
    rcases Int.lt_or_le v u with h1 | h1
    · have h2 : v * v < u * u := Int.lt_of_le_of_lt (Int.mul_le_mul_of_nonneg_left (Int.le_of_lt h1) hv) (Int.mul_lt_mul_of_pos_right h1 (by omega))
      omega
    · exact h1
  · intro h
    exact Int.mul_le_mul h h hu hv
theorem turn_iff {t v : Int} (hv : 0 ≤ v) : 16 * t * t ≤ v * v ↔ 4 * absI t ≤ v := by
  have e : 16 * t * t = (4 * absI t) * (4 * absI t) := by
    unfold absI
    split
    · rw [show 4 * -t = -(4 * t) by omega, Int.neg_mul_neg, Int.mul_assoc, Int.mul_assoc, Int.mul_left_comm t 4 t, ← Int.mul_assoc 4 4]
      rfl
    · rw [Int.mul_assoc, Int.mul_assoc, Int.mul_left_comm t 4 t, ← Int.mul_assoc 4 4]
      rfl
  rw [e]
  exact sq_le (by unfold absI; split <;> omega) hv
theorem big_bd {u v : Int} (h1 : -2000000000 ≤ u) (h2 : u ≤ 2000000000) (h3 : -100000000 ≤ v) (h4 : v ≤ 100000000) : -200000000000000000 ≤ u * v ∧ u * v ≤ 200000000000000000 := by
  have ha : ∀ {x y : Int}, 0 ≤ x → x ≤ 2000000000 → 0 ≤ y → y ≤ 100000000 → 0 ≤ x * y ∧ x * y ≤ 200000000000000000 := fun {x y} a b c d => by
    refine ⟨Int.mul_nonneg a c, ?_⟩
    have : x * y ≤ 2000000000 * 100000000 := Int.mul_le_mul b d c (by omega)
    omega
  rcases Int.le_total 0 u with p | p <;> rcases Int.le_total 0 v with q | q
  · have := ha p h2 q h4; omega
  · have := ha p h2 (show 0 ≤ -v by omega) (by omega); rw [Int.mul_neg] at this; omega
  · have := ha (show 0 ≤ -u by omega) (by omega) q h4; rw [Int.neg_mul] at this; omega
  · have := ha (show 0 ≤ -u by omega) (by omega) (show 0 ≤ -v by omega) (by omega); rw [Int.neg_mul_neg] at this; omega
theorem trn_bd {a b c d p q : Int} (ha : Co a) (hb : Co b) (hc : Co c) (hd : Co d) (hp : Co p) (hq : Co q) : -72000000 ≤ trn a b c d p q ∧ trn a b c d p q ≤ 72000000 := by
  obtain ⟨a1, a2⟩ := ha; obtain ⟨b1, b2⟩ := hb; obtain ⟨c1, c2⟩ := hc; obtain ⟨d1, d2⟩ := hd; obtain ⟨e1, e2⟩ := hp; obtain ⟨f1, f2⟩ := hq
  obtain ⟨p1, p2⟩ := mul_bd (u := c - a) (v := q - b) (by omega) (by omega) (by omega) (by omega)
  obtain ⟨p3, p4⟩ := mul_bd (u := d - b) (v := p - a) (by omega) (by omega) (by omega) (by omega)
  unfold trn
  omega
theorem beq_dec (x y : Int) : (x == y) = decide (x = y) := by by_cases h : x = y <;> simp [h]
set_option maxRecDepth 100000 in
set_option maxHeartbeats 4000000 in
theorem specBetw_any (ax ay bx bY px py : Int) (ha : Co ax) (hb : Co ay) (hc : Co bx) (hd : Co bY) (hp : Co px) (hq : Co py) (w : World) :
    Calls Tryz.prog 111 #[.agg #[.int .i64 ax, .int .i64 ay], .agg #[.int .i64 bx, .int .i64 bY], .agg #[.int .i64 px, .int .i64 py]] w fun e w' => e = .returned (.bool (betwV ax ay bx bY px py)) ∧ Below w.heap.size w w' := by
  have HS := Lib.hid (specSq ax ay bx bY ha hb hc hd)
  have HT := Lib.hid (specTurn_any ax ay bx bY px py ha hb hc hd hp hq)
  obtain ⟨s1, s2⟩ := sq_all ha hb hc hd
  obtain ⟨t1, t2⟩ := trn_bd ha hb hc hd hp hq
  obtain ⟨a1, a2⟩ := ha; obtain ⟨b1, b2⟩ := hb; obtain ⟨c1, c2⟩ := hc; obtain ⟨d1, d2⟩ := hd; obtain ⟨p1, p2⟩ := hp; obtain ⟨q1, q2⟩ := hq
  obtain ⟨m1, m2⟩ := mul_bd (u := px - ax) (v := bx - ax) (by omega) (by omega) (by omega) (by omega)
  obtain ⟨m3, m4⟩ := mul_bd (u := py - ay) (v := bY - ay) (by omega) (by omega) (by omega) (by omega)
  have HX := Lib.hid (show betwV ax ay bx bY px py = if (decide (ax = bx) && decide (ay = bY)) = true then (decide (px = ax) && decide (py = ay)) else (inB ((px - ax) * (bx - ax) + (py - ay) * (bY - ay)) 0 (sq ax ay bx bY) && decide (4 * absI (trn ax ay bx bY px py) ≤ sq ax ay bx bY)) from rfl)
  have KN := Lib.hid (blks_three w 32 32 32 #[.int .i64 ax, .int .i64 ay] #[.int .i64 bx, .int .i64 bY] #[.int .i64 px, .int .i64 py])
  have HI := Lib.hid (specIn_any ((px - ax) * (bx - ax) + (py - ay) * (bY - ay)) 0 (sq ax ay bx bY))
  have HQ := Lib.hid (turn_iff (t := trn ax ay bx bY px py) s1)
  generalize betwV ax ay bx bY px py = r at HX ⊢
  generalize hiq : inB ((px - ax) * (bx - ax) + (py - ay) * (bY - ay)) 0 (sq ax ay bx bY) = q at HI HX
  clear hiq
  generalize sq ax ay bx bY = s at *
  generalize trn ax ay bx bY px py = t at *
  have f1 := beq_dec ax bx
  have f2 := beq_dec ay bY
  have f3 := beq_dec px ax
  have f4 := beq_dec py ay
  obtain ⟨cx, hcx⟩ : ∃ b, decide (ax = bx) = b := ⟨_, rfl⟩
  obtain ⟨cy, hcy⟩ : ∃ b, decide (ay = bY) = b := ⟨_, rfl⟩
  obtain ⟨ex, hex⟩ : ∃ b, decide (px = ax) = b := ⟨_, rfl⟩
  obtain ⟨ey, hey⟩ : ∃ b, decide (py = ay) = b := ⟨_, rfl⟩
  rw [hcx] at f1 HX; rw [hcy] at f2 HX; rw [hex] at f3 HX; rw [hey] at f4 HX
  clear hcx hcy hex hey
  obtain ⟨n1, n2⟩ := big_bd (u := 16 * t) (v := t) (by omega) (by omega) (by omega) (by omega)
  obtain ⟨n3, n4⟩ := big_bd (u := s) (v := s) (by omega) (by omega) (by omega) (by omega)
  cases hxy : (cx && cy)
  · rw [hxy, if_neg (by decide)] at HX
    by_cases hle : 16 * t * t ≤ s * s
    all_goals
      have HV := Lib.hid (show r = (q && decide (16 * t * t ≤ s * s)) by rw [HX.out]; congr 1; exact decide_eq_decide.2 HQ.out.symm)
      cases q <;> cases cx <;> cases cy <;> first | (cases hxy; done) | skip
    all_goals
      clear hxy HQ HX
      go_enter Tryz.func111, Tryz.ntmps111
      go_upto_region 3 with (fail)
      generalize hW : ((w.alloc (.cells #[.int .i64 ax, .int .i64 ay] 32)).alloc (.cells #[.int .i64 bx, .int .i64 bY] 32)).alloc (.cells #[.int .i64 px, .int .i64 py] 32) = W
      obtain ⟨ka, kb, kp, bw, hsz⟩ := KN.out W hW.symm
      clear hW hsz
      obtain ⟨x0, x1⟩ := cells_2 ka
      obtain ⟨y0, y1⟩ := cells_2 kb
      go_wp2_with fail
      refine (HS.out W).mono ?_; rintro e w1 ⟨rfl, b1⟩
      have KA := Lib.hid (ka.below b1 ka.lt); have KB := Lib.hid (kb.below b1 kb.lt); have KP := Lib.hid (kp.below b1 kp.lt); have B1 := Lib.hid (bw.trans (b1.mono bw.size))
      clear ka kb kp bw b1 x0 x1 y0 y1
      obtain ⟨x0, x1⟩ := cells_2 KA.out
      obtain ⟨y0, y1⟩ := cells_2 KB.out
      obtain ⟨z0, z1⟩ := cells_2 KP.out
      go_wp2_with fail
      refine (HT.out w1).mono ?_; rintro e w2 ⟨rfl, b2⟩
      go_wp2_with fail
      refine (HI.out _).mono ?_; rintro e w' ⟨rfl, rfl⟩
      go_wp2_with fail
      go_ret
      exact ⟨ret_bool (by rw [HV.out]; simp [hle]), B1.out.trans (b2.mono B1.out.size)⟩
  · rw [hxy, if_pos rfl] at HX
    have hcx : cx = true := by cases cx; cases hxy; rfl
    have hcy : cy = true := by cases cy; (cases cx <;> cases hxy); rfl
    subst hcx hcy
    clear hxy
    cases ex <;> cases ey
    all_goals
      go_enter Tryz.func111, Tryz.ntmps111
      go_wp2_with fail
      go_ret
      exact ⟨ret_bool (by rw [HX.out]; first | rfl | simp), by (repeat (first | exact Below.refl _ _ | assumption | refine Below.drew ?_ | refine below_drewN' ?_ _ | refine Below.alloc ?_ (by (try simp); (try omega)) _ | refine Below.setCell ?_ (by (try simp); (try omega)) _))⟩
set_option maxRecDepth 100000 in
set_option maxHeartbeats 4000000 in
theorem implBetw_any (ax ay bx bY px py : Int) (ha : Co ax) (hb : Co ay) (hc : Co bx) (hd : Co bY) (hp : Co px) (hq : Co py) (w : World) :
    Calls Tryz.prog 118 #[.agg #[.int .i64 ax, .int .i64 ay], .agg #[.int .i64 bx, .int .i64 bY], .agg #[.int .i64 px, .int .i64 py]] w fun e w' => e = .returned (.bool (betwV ax ay bx bY px py)) ∧ Below w.heap.size w w' := by
  have HS := Lib.hid (implSq ax ay bx bY ha hb hc hd)
  have HT := Lib.hid (implTurn_any ax ay bx bY px py ha hb hc hd hp hq)
  obtain ⟨s1, s2⟩ := sq_all ha hb hc hd
  obtain ⟨t1, t2⟩ := trn_bd ha hb hc hd hp hq
  obtain ⟨a1, a2⟩ := ha; obtain ⟨b1, b2⟩ := hb; obtain ⟨c1, c2⟩ := hc; obtain ⟨d1, d2⟩ := hd; obtain ⟨p1, p2⟩ := hp; obtain ⟨q1, q2⟩ := hq
  obtain ⟨m1, m2⟩ := mul_bd (u := px - ax) (v := bx - ax) (by omega) (by omega) (by omega) (by omega)
  obtain ⟨m3, m4⟩ := mul_bd (u := py - ay) (v := bY - ay) (by omega) (by omega) (by omega) (by omega)
  have HX := Lib.hid (show betwV ax ay bx bY px py = if (decide (ax = bx) && decide (ay = bY)) = true then (decide (px = ax) && decide (py = ay)) else (inB ((px - ax) * (bx - ax) + (py - ay) * (bY - ay)) 0 (sq ax ay bx bY) && decide (4 * absI (trn ax ay bx bY px py) ≤ sq ax ay bx bY)) from rfl)
  have KN := Lib.hid (blks_three w 32 32 32 #[.int .i64 ax, .int .i64 ay] #[.int .i64 bx, .int .i64 bY] #[.int .i64 px, .int .i64 py])
  have HI := Lib.hid (fun w => same_below (within_any ((px - ax) * (bx - ax) + (py - ay) * (bY - ay)) 0 (sq ax ay bx bY) w))
  have HA := Lib.hid (fun w => same_below (implAbs_any (trn ax ay bx bY px py) (by omega) (by omega) w))
  have hab : 0 ≤ absI (trn ax ay bx bY px py) ∧ absI (trn ax ay bx bY px py) ≤ 72000000 := by unfold absI; split <;> omega
  obtain ⟨u1, u2⟩ := hab
  generalize betwV ax ay bx bY px py = r at HX ⊢
  generalize hiq : inB ((px - ax) * (bx - ax) + (py - ay) * (bY - ay)) 0 (sq ax ay bx bY) = q at HI HX
  clear hiq
  generalize sq ax ay bx bY = s at *
  generalize absI (trn ax ay bx bY px py) = u at *
  generalize trn ax ay bx bY px py = t at *
  have f1 := beq_dec ax bx
  have f2 := beq_dec ay bY
  have f3 := beq_dec px ax
  have f4 := beq_dec py ay
  obtain ⟨cx, hcx⟩ : ∃ b, decide (ax = bx) = b := ⟨_, rfl⟩
  obtain ⟨cy, hcy⟩ : ∃ b, decide (ay = bY) = b := ⟨_, rfl⟩
  obtain ⟨ex, hex⟩ : ∃ b, decide (px = ax) = b := ⟨_, rfl⟩
  obtain ⟨ey, hey⟩ : ∃ b, decide (py = ay) = b := ⟨_, rfl⟩
  rw [hcx] at f1 HX; rw [hcy] at f2 HX; rw [hex] at f3 HX; rw [hey] at f4 HX
  clear hcx hcy hex hey
  have e1 : IntKind.i64.wrap (4 * u) = 4 * u := IntWalk.i64_in _ (by omega)
  cases hxy : (cx && cy)
  · rw [hxy, if_neg (by decide)] at HX
    by_cases hle : 4 * u ≤ s
    all_goals
      cases q <;> cases cx <;> cases cy <;> first | (cases hxy; done) | skip
    all_goals
      clear hxy
      go_enter Tryz.func118, Tryz.ntmps118
      go_upto_region 3 with (fail)
      generalize hW : ((w.alloc (.cells #[.int .i64 ax, .int .i64 ay] 32)).alloc (.cells #[.int .i64 bx, .int .i64 bY] 32)).alloc (.cells #[.int .i64 px, .int .i64 py] 32) = W
      obtain ⟨ka, kb, kp, bw, hsz⟩ := KN.out W hW.symm
      clear hW hsz
      obtain ⟨x0, x1⟩ := cells_2 ka
      obtain ⟨y0, y1⟩ := cells_2 kb
      obtain ⟨z0, z1⟩ := cells_2 kp
      go_upto_region 4 with (fail)
      clear x0 x1 y0 y1 z0 z1
      obtain ⟨x0, x1⟩ := two_regrown ka
      obtain ⟨y0, y1⟩ := two_regrown kb
      obtain ⟨z0, z1⟩ := two_regrown kp
      have r1 : ∀ e os, Calls Tryz.prog 99 #[.agg #[.int .i64 ax, .int .i64 ay], .agg #[.int .i64 bx, .int .i64 bY]] (grow (redrawn W e) os) (fun e w'' => e = .returned (.int .i64 s) ∧ ∃ p : Regrown, w'' = grow (redrawn W p.d) p.os) := fun e os => Calls.regrown_of (HS.out _)
      have r2 : ∀ e os, Calls Tryz.prog 86 #[.int .i64 ((px - ax) * (bx - ax) + (py - ay) * (bY - ay)), .int .i64 0, .int .i64 s] (grow (redrawn W e) os) (fun e w'' => e = .returned (.bool _) ∧ ∃ p : Regrown, w'' = grow (redrawn W p.d) p.os) := fun e os => Calls.regrown_of (HI.out _)
      have r3 : ∀ e os, Calls Tryz.prog 129 #[.agg #[.int .i64 ax, .int .i64 ay], .agg #[.int .i64 bx, .int .i64 bY], .agg #[.int .i64 px, .int .i64 py]] (grow (redrawn W e) os) (fun e w'' => e = .returned (.int .i64 t) ∧ ∃ p : Regrown, w'' = grow (redrawn W p.d) p.os) := fun e os => Calls.regrown_of (HT.out _)
      have r4 : ∀ e os, Calls Tryz.prog 128 #[.int .i64 t] (grow (redrawn W e) os) (fun e w'' => e = .returned (.int .i64 u) ∧ ∃ p : Regrown, w'' = grow (redrawn W p.d) p.os) := fun e os => Calls.regrown_of (HA.out _)
      refine wp_region_quiet_below (by kernel_rfl) (by kernel_rfl) ?_; (repeat (first | go_big_quiet_step ((first | with_reducible exact r1 _ _ | with_reducible exact r2 _ _ | with_reducible exact r3 _ _ | with_reducible exact r4 _ _)))); refine wpQuiet_nil ?_; intro _ hw'; obtain ⟨⟨dq, osq⟩, rfl⟩ := hw'
      go_wp2_with fail
      go_ret
      exact ⟨ret_bool (by rw [HX.out]; simp [hle]), bw.trans ((below_regrown W dq osq).mono bw.size)⟩
  · rw [hxy, if_pos rfl] at HX
    have hcx : cx = true := by cases cx; cases hxy; rfl
    have hcy : cy = true := by cases cy; (cases cx <;> cases hxy); rfl
    subst hcx hcy
    clear hxy
    cases ex <;> cases ey
    all_goals
      go_enter Tryz.func118, Tryz.ntmps118
      go_wp2_with fail
      go_ret
      exact ⟨ret_bool (by rw [HX.out]; first | rfl | simp), by (repeat (first | exact Below.refl _ _ | assumption | refine Below.drew ?_ | refine below_drewN' ?_ _ | refine Below.alloc ?_ (by (try simp); (try omega)) _ | refine Below.setCell ?_ (by (try simp); (try omega)) _))⟩
end Go.Proofs.YtaaioengebaebaaGreatDoor
