/- Whether a point satisfies a description whose places are sites: of the reference. -/
import Derived.Test.YtaaioengebaebaaGreatDoorRows
import Derived.Test.YtaaioengebaebaaGreatDoorK8GA
import Derived.WalkKit
import Derived.ProofKit
import Derived.OpenShut
import Derived.BigQuiet
import Derived.Outline
import Derived.WalkSpells
import Derived.WalkLawsBesides
import Derived.Deep.DeepCutAuto
import Derived.Test.YtaaioengebaebaaGreatDoorK8HB
namespace Go.Proofs.YtaaioengebaebaaGreatDoor
open Go.ChangeShapes Go.WideShapes Go.ChangeAt Go.RowKit Go.Sort

theorem ixS_lt (x : ByteArray) : ∀ L, ixS x L < (L.length : Int)
  | [] => by simp [ixS]
  | a :: r => by
    have := ixS_lt x r
    rw [ixS]
    (repeat' split) <;> simp <;> omega
theorem sit_at {xs : List Sit} {s : ByteArray} (h : 0 ≤ sitIx s xs) : ∃ (k : Nat) (hk : k < xs.length), sitIx s xs = k ∧ pAt xs s = (xs[k].x, xs[k].y) := by
  have hl := ixS_lt s (xs.map Sit.name)
  rw [List.length_map] at hl
  have hl' : sitIx s xs < xs.length := hl
  have hk : (sitIx s xs).toNat < xs.length := by omega
  refine ⟨(sitIx s xs).toNat, hk, by omega, ?_⟩
  rw [pAt, if_pos h, List.getElem?_eq_getElem hk]
set_option maxRecDepth 100000 in
theorem specMod_any (x : Int) (h1 : -8 ≤ x) (h2 : x ≤ 8) (w : World) : Calls Tryz.prog 109 #[.int .i64 x, .int .i64 8] w fun e w' => e = .returned (.int .i64 ((x + 8) % 8)) ∧ w = w' := by
  have key : ∀ k : Fin 17, -7 ≤ ((k.val : Int) - 8).tmod 8 ∧ ((k.val : Int) - 8).tmod 8 ≤ 7 ∧ (((k.val : Int) - 8).tmod 8 + 8).tmod 8 = ((k.val : Int) - 8 + 8) % 8 := by decide
  obtain ⟨t1, t2, t3⟩ : -7 ≤ x.tmod 8 ∧ x.tmod 8 ≤ 7 ∧ (x.tmod 8 + 8).tmod 8 = (x + 8) % 8 := by
    have := key ⟨(x + 8).toNat, by omega⟩
    dsimp only at this
    rwa [show (((x + 8).toNat : Nat) : Int) - 8 = x by omega] at this
  have e1 : IntKind.i64.wrap (x.tmod 8) = x.tmod 8 := IntWalk.i64_in _ (by omega)
  have e2 : IntKind.i64.wrap (x.tmod 8 + 8) = x.tmod 8 + 8 := IntWalk.i64_in _ (by omega)
  have HV := Lib.hid (show IntKind.i64.wrap ((x.tmod 8 + 8).tmod 8) = (x + 8) % 8 by
    rw [t3]; exact IntWalk.i64_in _ (by omega))
  have HV2 := Lib.hid t3
  clear key t3
  go_enter Tryz.func109, Tryz.ntmps109
  go_wp2_with fail
  go_ret
  exact ⟨ret_int (by first | exact HV.out | exact HV2.out | exact (Int.tmod_eq_emod_of_nonneg (by omega)).symm.trans HV2.out), rfl⟩
set_option maxRecDepth 100000 in
set_option maxHeartbeats 8000000 in
theorem specSat_any (xs : List Sit) (ha : areS xs = true) (d : Dsc) (hd : d.Ok) (hi : isD d = true) (h1 : 0 ≤ sitIx d.a xs) (h2 : d.kind = 3 → 0 ≤ sitIx d.b xs) (px py : Int) (hp : Co px) (hq : Co py) (A : Option Addr) (c : Nat) (w : World) (h : HasSit w xs A) :
    Calls Tryz.prog 80 #[.slice A xs.length c, d.val, .agg #[.int .i64 px, .int .i64 py]] w fun e w' => e = .returned (.bool (satV xs d px py)) ∧ Below w.heap.size w w' := by
  obtain ⟨ka, hka, eka, epa⟩ := sit_at h1
  have HFA := Lib.hid (fun W (hb : Below w.heap.size w W) => specFind_any xs d.a A c W (h.below hb))
  have HFB := Lib.hid (fun W (hb : Below w.heap.size w W) => specFind_any xs d.b A c W (h.below hb))
  have HR := Lib.hid (fun W (hb : Below w.heap.size w W) => (h.below hb).1)
  have KN := Lib.hid (blks_two w 79 32 #[.int .i64 d.kind, .int .i64 d.count, .string d.unit, .int .i64 d.dir, .string d.a, .string d.b] #[.int .i64 px, .int .i64 py])
  obtain ⟨a1, a2⟩ := pAt_co ha d.a
  obtain ⟨b1, b2⟩ := pAt_co ha d.b
  have HX := Lib.hid (show satV xs d px py = (if d.kind = 0 then (decide (px = (pAt xs d.a).1) && decide (py = (pAt xs d.a).2))
    else if d.kind = 1 then decide (sq (pAt xs d.a).1 (pAt xs d.a).2 px py ≤ 64)
    else if d.kind = 2 then fromV d (pAt xs d.a).1 (pAt xs d.a).2 px py
    else betwV (pAt xs d.a).1 (pAt xs d.a).2 (pAt xs d.b).1 (pAt xs d.b).2 px py) from rfl)
  have HBt := Lib.hid (specBetw_any _ _ _ _ px py a1 a2 b1 b2 hp hq)
  have HSq := Lib.hid (specSq _ _ px py a1 a2 hp hq)
  have HDv := Lib.hid (specDir_any _ _ px py a1 a2 hp hq)
  obtain ⟨s1, s2⟩ := sq_all a1 a2 hp hq
  have HFv := Lib.hid (show fromV d (pAt xs d.a).1 (pAt xs d.a).2 px py = ((!(decide (px = (pAt xs d.a).1) && decide (py = (pAt xs d.a).2)) && inB (16 * sq (pAt xs d.a).1 (pAt xs d.a).2 px py) (9 * lenD d * lenD d) (25 * lenD d * lenD d)) && offB ((dirV (px - (pAt xs d.a).1) (py - (pAt xs d.a).2) - d.dir + 8) % 8)) from rfl)
  have HLn := Lib.hid (fun hk => lenD_bd hi hk)
  have HDr := Lib.hid (fun hk => (isD_from hi hk).2.2.1)
  have HUn := Lib.hid (specUnit_any d.unit hd.1 d.count)
  have HCn := Lib.hid (fun hk => (isD_from hi hk).1)
  have hub := unitD_bd d.unit d.count
  have hLd : lenD d = d.count * unitD d.unit d.count := rfl
  have hBx := Lib.hid (fun hk : d.kind = 3 => sit_at (h2 hk))
  have hK3 := Lib.hid (show d.kind ≠ 0 → d.kind ≠ 1 → d.kind ≠ 2 → d.kind = 3 from fun k0 k1 k2 => by
    have h' := hi
    unfold isD at h'
    rw [Bool.and_eq_true, if_neg k2, if_neg (by omega)] at h'
    simp only [Bool.and_eq_true, decide_eq_true_eq] at h'
    exact h'.2.2.1)
  rw [eka] at HFA
  clear eka h1 h2
  have hxa : xs[ka].x = (pAt xs d.a).1 := by rw [epa]
  have hya : xs[ka].y = (pAt xs d.a).2 := by rw [epa]
  generalize satV xs d px py = r at HX ⊢
  obtain ⟨v1, v2⟩ := dirV_bd (px - (pAt xs d.a).1) (py - (pAt xs d.a).2)
  have hEnd := Lib.hid (show ∀ (k : Nat) (hk : k < xs.length) (W : World), Below w.heap.size w W → ∃ b off, A = some ⟨b, off, none⟩ ∧ b < W.heap.size ∧ W.cell? ⟨b, off + k * 3 + 1, none⟩ = some (.int .i64 xs[k].x) ∧ W.cell? ⟨b, off + k * 3 + 2, none⟩ = some (.int .i64 xs[k].y) from fun k hk W hb => by
    obtain ⟨b, off, e, hlt, hc⟩ := (HR.out W hb).2 (by omega)
    obtain ⟨_, e1, e2⟩ := siC_get xs k hk
    have c1 := hc _ _ e1
    have c2 := hc _ _ e2
    rw [← Nat.add_assoc] at c1 c2
    exact ⟨b, off, e, hlt, c1, c2⟩)
  have hm := h.2.1
  clear hi hd h ha hp hq a1 a2 b1 b2 epa HR
  generalize (pAt xs d.a).1 = ax at *
  generalize (pAt xs d.a).2 = ay at *
  generalize fromV d ax ay px py = vf at *
  generalize dirV (px - ax) (py - ay) = dv at *
  generalize sq ax ay px py = s at *
  unfold Dsc.val
  have f3 := beq_dec px ax
  have f4 := beq_dec py ay
  obtain ⟨ex, hex⟩ : ∃ b, decide (px = ax) = b := ⟨_, rfl⟩
  obtain ⟨ey, hey⟩ : ∃ b, decide (py = ay) = b := ⟨_, rfl⟩
  rw [hex] at f3 HX HFv; rw [hey] at f4 HX HFv
  clear hex hey
  rcases (show d.kind = 0 ∨ d.kind = 1 ∨ d.kind = 2 ∨ (d.kind ≠ 0 ∧ d.kind ≠ 1 ∧ d.kind ≠ 2) by omega) with hk | hk | hk | ⟨hk0, hk1, hk2⟩
  · rw [if_pos hk] at HX
    have q0 : (d.kind == 0) = true := by simpa using hk
    clear hk
    cases ex <;> cases ey
    all_goals
      go_enter Tryz.func80, Tryz.ntmps80
      go_wp2_with fail
      generalize hW : (w.alloc (.cells #[.int .i64 d.kind, .int .i64 d.count, .string d.unit, .int .i64 d.dir, .string d.a, .string d.b] 79)).alloc (.cells #[.int .i64 px, .int .i64 py] 32) = W
      obtain ⟨kd, kp, bw, hsz⟩ := KN.out W hW.symm
      clear hW hsz
      refine (HFA.out W bw).mono ?_; rintro e w1 ⟨rfl, hw1⟩
      subst hw1
      have KD := Lib.hid kd; have KP := Lib.hid kp; have B1 := Lib.hid bw; clear kd kp bw
      obtain ⟨ab, ao, hA, hlt1, c1, c2⟩ := hEnd.out ka hka W B1.out
      cases hA
      rw [hxa] at c1
      rw [hya] at c2
      have T1 := Lib.hid (blks_one W 32 #[.int .i64 ax, .int .i64 ay])
      go_upto_region 2 with (fail)
      generalize hW : W.alloc (.cells #[.int .i64 ax, .int .i64 ay] 32) = W1
      obtain ⟨kpa, bw, hsz⟩ := T1.out W1 hW.symm
      clear hW hsz c1 c2
      have KD1 := Lib.hid (KD.out.below bw KD.out.lt); have KP1 := Lib.hid (KP.out.below bw KP.out.lt); have KA1 := Lib.hid kpa; have B2 := Lib.hid (B1.out.trans (bw.mono B1.out.size)); clear kpa bw
      obtain ⟨x0, x1, x2, x3, x4, x5⟩ := cells_6 KD1.out
      obtain ⟨y0, y1⟩ := cells_2 KP1.out
      obtain ⟨z0, z1⟩ := cells_2 KA1.out
      go_wp2_with fail
      refine (HSq.out W1).mono ?_; rintro e w3 ⟨rfl, b3⟩
      have KD3 := Lib.hid (KD1.out.below b3 KD1.out.lt); have KP3 := Lib.hid (KP1.out.below b3 KP1.out.lt); have KA3 := Lib.hid (KA1.out.below b3 KA1.out.lt); have B3 := Lib.hid (B2.out.trans (b3.mono B2.out.size)); clear b3 x0 x1 x2 x3 x4 x5 y0 y1 z0 z1
      obtain ⟨x0, x1, x2, x3, x4, x5⟩ := cells_6 KD3.out
      obtain ⟨y0, y1⟩ := cells_2 KP3.out
      obtain ⟨z0, z1⟩ := cells_2 KA3.out
      go_wp2_with fail
      go_ret
      exact ⟨ret_bool (by rw [HX.out]; first | rfl | simp), B3.out⟩
  · rw [if_neg (by omega), if_pos hk] at HX
    have q0 : (d.kind == 0) = false := by rw [hk]; rfl
    have q1 : (d.kind == 1) = true := by simpa using hk
    clear hk
    go_enter Tryz.func80, Tryz.ntmps80
    go_wp2_with fail
    generalize hW : (w.alloc (.cells #[.int .i64 d.kind, .int .i64 d.count, .string d.unit, .int .i64 d.dir, .string d.a, .string d.b] 79)).alloc (.cells #[.int .i64 px, .int .i64 py] 32) = W
    obtain ⟨kd, kp, bw, hsz⟩ := KN.out W hW.symm
    clear hW hsz
    refine (HFA.out W bw).mono ?_; rintro e w1 ⟨rfl, hw1⟩
    subst hw1
    have KD := Lib.hid kd; have KP := Lib.hid kp; have B1 := Lib.hid bw; clear kd kp bw
    obtain ⟨ab, ao, hA, hlt1, c1, c2⟩ := hEnd.out ka hka W B1.out
    cases hA
    rw [hxa] at c1
    rw [hya] at c2
    have T1 := Lib.hid (blks_one W 32 #[.int .i64 ax, .int .i64 ay])
    go_upto_region 2 with (fail)
    generalize hW : W.alloc (.cells #[.int .i64 ax, .int .i64 ay] 32) = W1
    obtain ⟨kpa, bw, hsz⟩ := T1.out W1 hW.symm
    clear hW hsz c1 c2
    have KD1 := Lib.hid (KD.out.below bw KD.out.lt); have KP1 := Lib.hid (KP.out.below bw KP.out.lt); have KA1 := Lib.hid kpa; have B2 := Lib.hid (B1.out.trans (bw.mono B1.out.size)); clear kpa bw
    obtain ⟨x0, x1, x2, x3, x4, x5⟩ := cells_6 KD1.out
    obtain ⟨y0, y1⟩ := cells_2 KP1.out
    obtain ⟨z0, z1⟩ := cells_2 KA1.out
    go_wp2_with fail
    refine (HSq.out W1).mono ?_; rintro e w3 ⟨rfl, b3⟩
    have KD3 := Lib.hid (KD1.out.below b3 KD1.out.lt); have KP3 := Lib.hid (KP1.out.below b3 KP1.out.lt); have KA3 := Lib.hid (KA1.out.below b3 KA1.out.lt); have B3 := Lib.hid (B2.out.trans (b3.mono B2.out.size)); clear b3 x0 x1 x2 x3 x4 x5 y0 y1 z0 z1
    obtain ⟨x0, x1, x2, x3, x4, x5⟩ := cells_6 KD3.out
    obtain ⟨y0, y1⟩ := cells_2 KP3.out
    obtain ⟨z0, z1⟩ := cells_2 KA3.out
    go_wp2_with fail
    go_ret
    exact ⟨ret_bool (by rw [HX.out]), B3.out⟩
  · rw [if_neg (by omega), if_neg (by omega), if_pos hk] at HX
    obtain ⟨n1, n2⟩ := HLn.out hk
    obtain ⟨g1, g2⟩ := HDr.out hk
    obtain ⟨cn1, cn2⟩ := HCn.out hk
    obtain ⟨un1, un2⟩ := hub
    have q0 : (d.kind == 0) = false := by rw [hk]; rfl
    have q1 : (d.kind == 1) = false := by rw [hk]; rfl
    have q2 : (d.kind == 2) = true := by simpa using hk
    have HXX := Lib.hid (HX.out.trans HFv.out)
    clear hk HX HFv HLn HDr HCn
    have eL : IntKind.i64.wrap (d.count * unitD d.unit d.count) = lenD d := by rw [← hLd]; exact IntWalk.i64_in _ (by omega)
    generalize hu : unitD d.unit d.count = un at *
    clear hu
    have hLd2 : d.count * un = lenD d := hLd.symm
    clear hLd
    generalize lenD d = n at *
    obtain ⟨m1, m2⟩ := nn_bd (u := 9 * n) (v := n) (by omega) (by omega) (by omega) (by omega)
    obtain ⟨m3, m4⟩ := nn_bd (u := 25 * n) (v := n) (by omega) (by omega) (by omega) (by omega)
    have HMd := Lib.hid (specMod_any (dv - d.dir) (by omega) (by omega))
    have HOf := Lib.hid (show offB ((dv - d.dir + 8) % 8) = (decide ((dv - d.dir + 8) % 8 = 0) || (decide ((dv - d.dir + 8) % 8 = 1) || decide ((dv - d.dir + 8) % 8 = 7))) from rfl)
    have eO : IntKind.i64.wrap (dv - d.dir) = dv - d.dir := IntWalk.i64_in _ (by omega)
    generalize offB ((dv - d.dir + 8) % 8) = ob at HXX HOf
    generalize ho : (dv - d.dir + 8) % 8 = o at *
    clear ho
    have HIn := Lib.hid (show inB (16 * s) (9 * n * n) (25 * n * n) = (decide (9 * n * n ≤ 16 * s) && decide (16 * s ≤ 25 * n * n)) from rfl)
    generalize inB (16 * s) (9 * n * n) (25 * n * n) = qi at HXX HIn
    by_cases w1c : 16 * s < 9 * n * n
    · have HV := Lib.hid (show r = false by rw [HXX.out, HIn.out, decide_eq_false (by omega)]; simp)
      go_enter Tryz.func80, Tryz.ntmps80
      go_wp2_with fail
      generalize hW : (w.alloc (.cells #[.int .i64 d.kind, .int .i64 d.count, .string d.unit, .int .i64 d.dir, .string d.a, .string d.b] 79)).alloc (.cells #[.int .i64 px, .int .i64 py] 32) = W
      obtain ⟨kd, kp, bw, hsz⟩ := KN.out W hW.symm
      clear hW hsz
      refine (HFA.out W bw).mono ?_; rintro e w1 ⟨rfl, hw1⟩
      subst hw1
      have KD := Lib.hid kd; have KP := Lib.hid kp; have B1 := Lib.hid bw; clear kd kp bw
      obtain ⟨ab, ao, hA, hlt1, c1, c2⟩ := hEnd.out ka hka W B1.out
      cases hA
      rw [hxa] at c1
      rw [hya] at c2
      have T1 := Lib.hid (blks_one W 32 #[.int .i64 ax, .int .i64 ay])
      go_upto_region 2 with (fail)
      generalize hW : W.alloc (.cells #[.int .i64 ax, .int .i64 ay] 32) = W1
      obtain ⟨kpa, bw, hsz⟩ := T1.out W1 hW.symm
      clear hW hsz c1 c2
      have KD1 := Lib.hid (KD.out.below bw KD.out.lt); have KP1 := Lib.hid (KP.out.below bw KP.out.lt); have KA1 := Lib.hid kpa; have B2 := Lib.hid (B1.out.trans (bw.mono B1.out.size)); clear kpa bw
      obtain ⟨x0, x1, x2, x3, x4, x5⟩ := cells_6 KD1.out
      obtain ⟨y0, y1⟩ := cells_2 KP1.out
      obtain ⟨z0, z1⟩ := cells_2 KA1.out
      go_wp2_with fail
      refine (HSq.out W1).mono ?_; rintro e w3 ⟨rfl, b3⟩
      have KD3 := Lib.hid (KD1.out.below b3 KD1.out.lt); have KP3 := Lib.hid (KP1.out.below b3 KP1.out.lt); have KA3 := Lib.hid (KA1.out.below b3 KA1.out.lt); have B3 := Lib.hid (B2.out.trans (b3.mono B2.out.size)); clear b3 x0 x1 x2 x3 x4 x5 y0 y1 z0 z1
      obtain ⟨x0, x1, x2, x3, x4, x5⟩ := cells_6 KD3.out
      obtain ⟨y0, y1⟩ := cells_2 KP3.out
      obtain ⟨z0, z1⟩ := cells_2 KA3.out
      go_upto_region 9 with (fail)
      have t1 := cell_regrown x1
      have t2 := cell_regrown x2
      clear x0 x1 x2 x3 x4 x5 y0 y1 z0 z1
      have r1 : ∀ e os, Calls Tryz.prog 108 #[.string d.unit, .int .i64 d.count] (grow (redrawn w3 e) os) (fun e w'' => e = .returned (.int .i64 un) ∧ ∃ p : Regrown, w'' = grow (redrawn w3 p.d) p.os) := fun e os => Calls.regrown_of (same_below (HUn.out _))
      refine wp_region_quiet_below (by kernel_rfl) (by kernel_rfl) ?_; (repeat (first | go_big_quiet_step ((first | with_reducible exact r1 _ _)))); refine wpQuiet_nil ?_; intro _ hw'; obtain ⟨⟨dq, osq⟩, rfl⟩ := hw'
      have KD4 := Lib.hid (KD3.out.below (below_regrown w3 dq osq) KD3.out.lt); have KP4 := Lib.hid (KP3.out.below (below_regrown w3 dq osq) KP3.out.lt); have KA4 := Lib.hid (KA3.out.below (below_regrown w3 dq osq) KA3.out.lt); have B4 := Lib.hid (B3.out.trans ((below_regrown w3 dq osq).mono B3.out.size))
      generalize grow (redrawn w3 dq) osq = w4 at KD4 KP4 KA4 B4 ⊢
      clear r1 t1 t2
      obtain ⟨x0, x1, x2, x3, x4, x5⟩ := cells_6 KD4.out
      obtain ⟨y0, y1⟩ := cells_2 KP4.out
      obtain ⟨z0, z1⟩ := cells_2 KA4.out
      go_wp2_with fail
      go_ret
      exact ⟨ret_bool HV.out.symm, B4.out⟩
    · by_cases w2c : 25 * n * n < 16 * s
      · have HV := Lib.hid (show r = false by rw [HXX.out, HIn.out, decide_eq_true (by omega), decide_eq_false (by omega)]; simp)
        go_enter Tryz.func80, Tryz.ntmps80
        go_wp2_with fail
        generalize hW : (w.alloc (.cells #[.int .i64 d.kind, .int .i64 d.count, .string d.unit, .int .i64 d.dir, .string d.a, .string d.b] 79)).alloc (.cells #[.int .i64 px, .int .i64 py] 32) = W
        obtain ⟨kd, kp, bw, hsz⟩ := KN.out W hW.symm
        clear hW hsz
        refine (HFA.out W bw).mono ?_; rintro e w1 ⟨rfl, hw1⟩
        subst hw1
        have KD := Lib.hid kd; have KP := Lib.hid kp; have B1 := Lib.hid bw; clear kd kp bw
        obtain ⟨ab, ao, hA, hlt1, c1, c2⟩ := hEnd.out ka hka W B1.out
        cases hA
        rw [hxa] at c1
        rw [hya] at c2
        have T1 := Lib.hid (blks_one W 32 #[.int .i64 ax, .int .i64 ay])
        go_upto_region 2 with (fail)
        generalize hW : W.alloc (.cells #[.int .i64 ax, .int .i64 ay] 32) = W1
        obtain ⟨kpa, bw, hsz⟩ := T1.out W1 hW.symm
        clear hW hsz c1 c2
        have KD1 := Lib.hid (KD.out.below bw KD.out.lt); have KP1 := Lib.hid (KP.out.below bw KP.out.lt); have KA1 := Lib.hid kpa; have B2 := Lib.hid (B1.out.trans (bw.mono B1.out.size)); clear kpa bw
        obtain ⟨x0, x1, x2, x3, x4, x5⟩ := cells_6 KD1.out
        obtain ⟨y0, y1⟩ := cells_2 KP1.out
        obtain ⟨z0, z1⟩ := cells_2 KA1.out
        go_wp2_with fail
        refine (HSq.out W1).mono ?_; rintro e w3 ⟨rfl, b3⟩
        have KD3 := Lib.hid (KD1.out.below b3 KD1.out.lt); have KP3 := Lib.hid (KP1.out.below b3 KP1.out.lt); have KA3 := Lib.hid (KA1.out.below b3 KA1.out.lt); have B3 := Lib.hid (B2.out.trans (b3.mono B2.out.size)); clear b3 x0 x1 x2 x3 x4 x5 y0 y1 z0 z1
        obtain ⟨x0, x1, x2, x3, x4, x5⟩ := cells_6 KD3.out
        obtain ⟨y0, y1⟩ := cells_2 KP3.out
        obtain ⟨z0, z1⟩ := cells_2 KA3.out
        go_upto_region 9 with (fail)
        have t1 := cell_regrown x1
        have t2 := cell_regrown x2
        clear x0 x1 x2 x3 x4 x5 y0 y1 z0 z1
        have r1 : ∀ e os, Calls Tryz.prog 108 #[.string d.unit, .int .i64 d.count] (grow (redrawn w3 e) os) (fun e w'' => e = .returned (.int .i64 un) ∧ ∃ p : Regrown, w'' = grow (redrawn w3 p.d) p.os) := fun e os => Calls.regrown_of (same_below (HUn.out _))
        refine wp_region_quiet_below (by kernel_rfl) (by kernel_rfl) ?_; (repeat (first | go_big_quiet_step ((first | with_reducible exact r1 _ _)))); refine wpQuiet_nil ?_; intro _ hw'; obtain ⟨⟨dq, osq⟩, rfl⟩ := hw'
        have KD4 := Lib.hid (KD3.out.below (below_regrown w3 dq osq) KD3.out.lt); have KP4 := Lib.hid (KP3.out.below (below_regrown w3 dq osq) KP3.out.lt); have KA4 := Lib.hid (KA3.out.below (below_regrown w3 dq osq) KA3.out.lt); have B4 := Lib.hid (B3.out.trans ((below_regrown w3 dq osq).mono B3.out.size))
        generalize grow (redrawn w3 dq) osq = w4 at KD4 KP4 KA4 B4 ⊢
        clear r1 t1 t2
        obtain ⟨x0, x1, x2, x3, x4, x5⟩ := cells_6 KD4.out
        obtain ⟨y0, y1⟩ := cells_2 KP4.out
        obtain ⟨z0, z1⟩ := cells_2 KA4.out
        go_wp2_with fail
        go_ret
        exact ⟨ret_bool HV.out.symm, B4.out⟩
      · have HQi := Lib.hid (show qi = true by rw [HIn.out, decide_eq_true (by omega), decide_eq_true (by omega)]; rfl)
        cases hxy : (ex && ey)
        · rcases (show o = 0 ∨ o = 1 ∨ o = 7 ∨ (o ≠ 0 ∧ o ≠ 1 ∧ o ≠ 7) by omega) with h | h | h | ⟨h, h', h''⟩
          all_goals
            have HOb := HOf.out
            simp only [h] at HOb
            have HV := Lib.hid (show r = ob by rw [HXX.out, hxy, HQi.out]; simp)
            cases ex <;> cases ey <;> first | (cases hxy; done) | skip
          all_goals
            clear hxy
            go_enter Tryz.func80, Tryz.ntmps80
            go_wp2_with fail
            generalize hW : (w.alloc (.cells #[.int .i64 d.kind, .int .i64 d.count, .string d.unit, .int .i64 d.dir, .string d.a, .string d.b] 79)).alloc (.cells #[.int .i64 px, .int .i64 py] 32) = W
            obtain ⟨kd, kp, bw, hsz⟩ := KN.out W hW.symm
            clear hW hsz
            refine (HFA.out W bw).mono ?_; rintro e w1 ⟨rfl, hw1⟩
            subst hw1
            have KD := Lib.hid kd; have KP := Lib.hid kp; have B1 := Lib.hid bw; clear kd kp bw
            obtain ⟨ab, ao, hA, hlt1, c1, c2⟩ := hEnd.out ka hka W B1.out
            cases hA
            rw [hxa] at c1
            rw [hya] at c2
            have T1 := Lib.hid (blks_one W 32 #[.int .i64 ax, .int .i64 ay])
            go_upto_region 2 with (fail)
            generalize hW : W.alloc (.cells #[.int .i64 ax, .int .i64 ay] 32) = W1
            obtain ⟨kpa, bw, hsz⟩ := T1.out W1 hW.symm
            clear hW hsz c1 c2
            have KD1 := Lib.hid (KD.out.below bw KD.out.lt); have KP1 := Lib.hid (KP.out.below bw KP.out.lt); have KA1 := Lib.hid kpa; have B2 := Lib.hid (B1.out.trans (bw.mono B1.out.size)); clear kpa bw
            obtain ⟨x0, x1, x2, x3, x4, x5⟩ := cells_6 KD1.out
            obtain ⟨y0, y1⟩ := cells_2 KP1.out
            obtain ⟨z0, z1⟩ := cells_2 KA1.out
            go_wp2_with fail
            refine (HSq.out W1).mono ?_; rintro e w3 ⟨rfl, b3⟩
            have KD3 := Lib.hid (KD1.out.below b3 KD1.out.lt); have KP3 := Lib.hid (KP1.out.below b3 KP1.out.lt); have KA3 := Lib.hid (KA1.out.below b3 KA1.out.lt); have B3 := Lib.hid (B2.out.trans (b3.mono B2.out.size)); clear b3 x0 x1 x2 x3 x4 x5 y0 y1 z0 z1
            obtain ⟨x0, x1, x2, x3, x4, x5⟩ := cells_6 KD3.out
            obtain ⟨y0, y1⟩ := cells_2 KP3.out
            obtain ⟨z0, z1⟩ := cells_2 KA3.out
            go_upto_region 9 with (fail)
            have t1 := cell_regrown x1
            have t2 := cell_regrown x2
            clear x0 x1 x2 x3 x4 x5 y0 y1 z0 z1
            have r1 : ∀ e os, Calls Tryz.prog 108 #[.string d.unit, .int .i64 d.count] (grow (redrawn w3 e) os) (fun e w'' => e = .returned (.int .i64 un) ∧ ∃ p : Regrown, w'' = grow (redrawn w3 p.d) p.os) := fun e os => Calls.regrown_of (same_below (HUn.out _))
            refine wp_region_quiet_below (by kernel_rfl) (by kernel_rfl) ?_; (repeat (first | go_big_quiet_step ((first | with_reducible exact r1 _ _)))); refine wpQuiet_nil ?_; intro _ hw'; obtain ⟨⟨dq, osq⟩, rfl⟩ := hw'
            have KD4 := Lib.hid (KD3.out.below (below_regrown w3 dq osq) KD3.out.lt); have KP4 := Lib.hid (KP3.out.below (below_regrown w3 dq osq) KP3.out.lt); have KA4 := Lib.hid (KA3.out.below (below_regrown w3 dq osq) KA3.out.lt); have B4 := Lib.hid (B3.out.trans ((below_regrown w3 dq osq).mono B3.out.size))
            generalize grow (redrawn w3 dq) osq = w4 at KD4 KP4 KA4 B4 ⊢
            clear r1 t1 t2
            obtain ⟨x0, x1, x2, x3, x4, x5⟩ := cells_6 KD4.out
            obtain ⟨y0, y1⟩ := cells_2 KP4.out
            obtain ⟨z0, z1⟩ := cells_2 KA4.out
            go_upto_region 12 with (fail)
            clear x0 x1 x2 x3 x4 x5 y0 y1 z0 z1
            obtain ⟨x0, x1, x2, x3, x4, x5⟩ := cells_6 KD4.out
            have t3 := cell_regrown x3
            obtain ⟨y0, y1⟩ := two_regrown KP4.out
            obtain ⟨z0, z1⟩ := two_regrown KA4.out
            clear x0 x1 x2 x3 x4 x5
            have r1 : ∀ e os, Calls Tryz.prog 110 #[.agg #[.int .i64 ax, .int .i64 ay], .agg #[.int .i64 px, .int .i64 py]] (grow (redrawn w4 e) os) (fun e w'' => e = .returned (.int .i64 dv) ∧ ∃ p : Regrown, w'' = grow (redrawn w4 p.d) p.os) := fun e os => Calls.regrown_of (HDv.out _)
            have r2 : ∀ e os, Calls Tryz.prog 109 #[.int .i64 (dv - d.dir), .int .i64 8] (grow (redrawn w4 e) os) (fun e w'' => e = .returned (.int .i64 o) ∧ ∃ p : Regrown, w'' = grow (redrawn w4 p.d) p.os) := fun e os => Calls.regrown_of (same_below (HMd.out _))
            refine wp_region_quiet_below (by kernel_rfl) (by kernel_rfl) ?_; (repeat (first | go_big_quiet_step ((first | with_reducible exact r1 _ _ | with_reducible exact r2 _ _)))); refine wpQuiet_nil ?_; intro _ hw'; obtain ⟨⟨dq, osq⟩, rfl⟩ := hw'
            have B5 := Lib.hid (B4.out.trans ((below_regrown w4 dq osq).mono B4.out.size))
            generalize grow (redrawn w4 dq) osq = w5 at B5 ⊢
            clear r1 r2 t3 y0 y1 z0 z1
            go_wp2_with fail
            go_ret
            exact ⟨ret_bool (by rw [HV.out, HOb]; simp_all), B5.out⟩
        · have HV := Lib.hid (show r = false by rw [HXX.out, hxy]; simp)
          have hcx : ex = true := by cases ex; cases hxy; rfl
          have hcy : ey = true := by cases ey; (cases ex <;> cases hxy); rfl
          subst hcx hcy
          clear hxy
          go_enter Tryz.func80, Tryz.ntmps80
          go_wp2_with fail
          generalize hW : (w.alloc (.cells #[.int .i64 d.kind, .int .i64 d.count, .string d.unit, .int .i64 d.dir, .string d.a, .string d.b] 79)).alloc (.cells #[.int .i64 px, .int .i64 py] 32) = W
          obtain ⟨kd, kp, bw, hsz⟩ := KN.out W hW.symm
          clear hW hsz
          refine (HFA.out W bw).mono ?_; rintro e w1 ⟨rfl, hw1⟩
          subst hw1
          have KD := Lib.hid kd; have KP := Lib.hid kp; have B1 := Lib.hid bw; clear kd kp bw
          obtain ⟨ab, ao, hA, hlt1, c1, c2⟩ := hEnd.out ka hka W B1.out
          cases hA
          rw [hxa] at c1
          rw [hya] at c2
          have T1 := Lib.hid (blks_one W 32 #[.int .i64 ax, .int .i64 ay])
          go_upto_region 2 with (fail)
          generalize hW : W.alloc (.cells #[.int .i64 ax, .int .i64 ay] 32) = W1
          obtain ⟨kpa, bw, hsz⟩ := T1.out W1 hW.symm
          clear hW hsz c1 c2
          have KD1 := Lib.hid (KD.out.below bw KD.out.lt); have KP1 := Lib.hid (KP.out.below bw KP.out.lt); have KA1 := Lib.hid kpa; have B2 := Lib.hid (B1.out.trans (bw.mono B1.out.size)); clear kpa bw
          obtain ⟨x0, x1, x2, x3, x4, x5⟩ := cells_6 KD1.out
          obtain ⟨y0, y1⟩ := cells_2 KP1.out
          obtain ⟨z0, z1⟩ := cells_2 KA1.out
          go_wp2_with fail
          refine (HSq.out W1).mono ?_; rintro e w3 ⟨rfl, b3⟩
          have KD3 := Lib.hid (KD1.out.below b3 KD1.out.lt); have KP3 := Lib.hid (KP1.out.below b3 KP1.out.lt); have KA3 := Lib.hid (KA1.out.below b3 KA1.out.lt); have B3 := Lib.hid (B2.out.trans (b3.mono B2.out.size)); clear b3 x0 x1 x2 x3 x4 x5 y0 y1 z0 z1
          obtain ⟨x0, x1, x2, x3, x4, x5⟩ := cells_6 KD3.out
          obtain ⟨y0, y1⟩ := cells_2 KP3.out
          obtain ⟨z0, z1⟩ := cells_2 KA3.out
          go_upto_region 9 with (fail)
          have t1 := cell_regrown x1
          have t2 := cell_regrown x2
          clear x0 x1 x2 x3 x4 x5 y0 y1 z0 z1
          have r1 : ∀ e os, Calls Tryz.prog 108 #[.string d.unit, .int .i64 d.count] (grow (redrawn w3 e) os) (fun e w'' => e = .returned (.int .i64 un) ∧ ∃ p : Regrown, w'' = grow (redrawn w3 p.d) p.os) := fun e os => Calls.regrown_of (same_below (HUn.out _))
          refine wp_region_quiet_below (by kernel_rfl) (by kernel_rfl) ?_; (repeat (first | go_big_quiet_step ((first | with_reducible exact r1 _ _)))); refine wpQuiet_nil ?_; intro _ hw'; obtain ⟨⟨dq, osq⟩, rfl⟩ := hw'
          have KD4 := Lib.hid (KD3.out.below (below_regrown w3 dq osq) KD3.out.lt); have KP4 := Lib.hid (KP3.out.below (below_regrown w3 dq osq) KP3.out.lt); have KA4 := Lib.hid (KA3.out.below (below_regrown w3 dq osq) KA3.out.lt); have B4 := Lib.hid (B3.out.trans ((below_regrown w3 dq osq).mono B3.out.size))
          generalize grow (redrawn w3 dq) osq = w4 at KD4 KP4 KA4 B4 ⊢
          clear r1 t1 t2
          obtain ⟨x0, x1, x2, x3, x4, x5⟩ := cells_6 KD4.out
          obtain ⟨y0, y1⟩ := cells_2 KP4.out
          obtain ⟨z0, z1⟩ := cells_2 KA4.out
          go_wp2_with fail
          go_ret
          exact ⟨ret_bool HV.out.symm, B4.out⟩
  · obtain ⟨kb, hkb, ekb, epb⟩ := hBx.out (hK3.out hk0 hk1 hk2)
    rw [if_neg hk0, if_neg hk1, if_neg hk2, epb] at HX
    rw [epb] at HBt
    rw [ekb] at HFB
    have q0 : (d.kind == 0) = false := by simpa using hk0
    have q1 : (d.kind == 1) = false := by simpa using hk1
    have q2 : (d.kind == 2) = false := by simpa using hk2
    clear hk0 hk1 hk2 epb ekb
    go_enter Tryz.func80, Tryz.ntmps80
    go_wp2_with fail
    generalize hW : (w.alloc (.cells #[.int .i64 d.kind, .int .i64 d.count, .string d.unit, .int .i64 d.dir, .string d.a, .string d.b] 79)).alloc (.cells #[.int .i64 px, .int .i64 py] 32) = W
    obtain ⟨kd, kp, bw, hsz⟩ := KN.out W hW.symm
    clear hW hsz
    refine (HFA.out W bw).mono ?_; rintro e w1 ⟨rfl, hw1⟩
    subst hw1
    have KD := Lib.hid kd; have KP := Lib.hid kp; have B1 := Lib.hid bw; clear kd kp bw
    obtain ⟨ab, ao, hA, hlt1, c1, c2⟩ := hEnd.out ka hka W B1.out
    cases hA
    rw [hxa] at c1
    rw [hya] at c2
    have T1 := Lib.hid (blks_one W 32 #[.int .i64 ax, .int .i64 ay])
    go_upto_region 2 with (fail)
    generalize hW : W.alloc (.cells #[.int .i64 ax, .int .i64 ay] 32) = W1
    obtain ⟨kpa, bw, hsz⟩ := T1.out W1 hW.symm
    clear hW hsz c1 c2
    have KD1 := Lib.hid (KD.out.below bw KD.out.lt); have KP1 := Lib.hid (KP.out.below bw KP.out.lt); have KA1 := Lib.hid kpa; have B2 := Lib.hid (B1.out.trans (bw.mono B1.out.size)); clear kpa bw
    obtain ⟨x0, x1, x2, x3, x4, x5⟩ := cells_6 KD1.out
    obtain ⟨y0, y1⟩ := cells_2 KP1.out
    obtain ⟨z0, z1⟩ := cells_2 KA1.out
    go_wp2_with fail
    refine (HSq.out W1).mono ?_; rintro e w3 ⟨rfl, b3⟩
    have KD3 := Lib.hid (KD1.out.below b3 KD1.out.lt); have KP3 := Lib.hid (KP1.out.below b3 KP1.out.lt); have KA3 := Lib.hid (KA1.out.below b3 KA1.out.lt); have B3 := Lib.hid (B2.out.trans (b3.mono B2.out.size)); clear b3 x0 x1 x2 x3 x4 x5 y0 y1 z0 z1
    obtain ⟨x0, x1, x2, x3, x4, x5⟩ := cells_6 KD3.out
    obtain ⟨y0, y1⟩ := cells_2 KP3.out
    obtain ⟨z0, z1⟩ := cells_2 KA3.out
    go_upto_region 14 with (fail)
    obtain ⟨ab2, ao2, hA2, hlt2, c1, c2⟩ := hEnd.out kb hkb w3 B3.out
    cases hA2
    clear x0 x1 x2 x3 x4 x5 y0 y1 z0 z1
    obtain ⟨x0, x1, x2, x3, x4, x5⟩ := cells_6 KD3.out
    have t5 := cell_regrown x5
    have u1 := cell_regrown c1
    have u2 := cell_regrown c2
    obtain ⟨y0, y1⟩ := two_regrown KP3.out
    obtain ⟨z0, z1⟩ := two_regrown KA3.out
    clear x0 x1 x2 x3 x4 x5 c1 c2
    generalize betwV ax ay xs[kb].x xs[kb].y px py = vb at *
    generalize xs[kb].x = bx at *
    generalize xs[kb].y = bY at *
    have r1 : ∀ e os, Calls Tryz.prog 107 #[.slice (some ⟨ab, ao, none⟩) xs.length c, .string d.b] (grow (redrawn w3 e) os) (fun e w'' => e = .returned (.int .i64 kb) ∧ ∃ p : Regrown, w'' = grow (redrawn w3 p.d) p.os) := fun e os => Calls.regrown_of (same_below (HFB.out _ (B3.out.trans ((below_regrown w3 e os).mono B3.out.size))))
    have r2 : ∀ e os, Calls Tryz.prog 111 #[.agg #[.int .i64 ax, .int .i64 ay], .agg #[.int .i64 bx, .int .i64 bY], .agg #[.int .i64 px, .int .i64 py]] (grow (redrawn w3 e) os) (fun e w'' => e = .returned (.bool vb) ∧ ∃ p : Regrown, w'' = grow (redrawn w3 p.d) p.os) := fun e os => Calls.regrown_of (HBt.out _)
    have zk0 : (0 : Int) ≤ (kb : Int) := by omega
    have zk1 : (kb : Int) < (xs.length : Int) := by omega
    refine wp_region_quiet_below (by kernel_rfl) (by kernel_rfl) ?_; (repeat (first | go_big_quiet_step ((first | with_reducible exact r1 _ _ | with_reducible exact r2 _ _)))); refine wpQuiet_nil ?_; intro _ hw'; obtain ⟨⟨dq, osq⟩, rfl⟩ := hw'
    go_wp2_with fail
    go_ret
    exact ⟨ret_bool HX.out.symm, B3.out.trans ((below_regrown w3 dq osq).mono B3.out.size)⟩
end Go.Proofs.YtaaioengebaebaaGreatDoor
