/- Whether a point satisfies a description whose places are sites: of the program. -/
import Derived.Test.YtaaioengebaebaaGreatDoorRows
import Derived.Test.YtaaioengebaebaaGreatDoorK8GA
import Derived.WalkKit
import Derived.ProofKit
import Derived.OpenShut
import Derived.BigQuiet
import Derived.Outline
import Derived.WalkSpells
import Derived.WalkLawsBesides
import Derived.Deep.DeepCutAuto
import Derived.Test.YtaaioengebaebaaGreatDoorK8HA
import Derived.Test.YtaaioengebaebaaGreatDoorK8H6
namespace Go.Proofs.YtaaioengebaebaaGreatDoor
open Go.ChangeShapes Go.WideShapes Go.ChangeAt Go.RowKit Go.Sort

def satV (xs : List Sit) (d : Dsc) (px py : Int) : Bool :=
  if d.kind = 0 then (decide (px = (pAt xs d.a).1) && decide (py = (pAt xs d.a).2))
  else if d.kind = 1 then decide (sq (pAt xs d.a).1 (pAt xs d.a).2 px py ≤ 64)
  else if d.kind = 2 then fromV d (pAt xs d.a).1 (pAt xs d.a).2 px py
  else betwV (pAt xs d.a).1 (pAt xs d.a).2 (pAt xs d.b).1 (pAt xs d.b).2 px py
theorem areS_bd {xs : List Sit} (h : areS xs = true) {b : Sit} (hb : b ∈ xs) : (-1000 ≤ b.x ∧ b.x ≤ 1000) ∧ (-1000 ≤ b.y ∧ b.y ≤ 1000) := by
  rw [areS, Bool.and_eq_true] at h
  obtain ⟨k, hk, rfl⟩ := List.getElem_of_mem hb
  have := areSTo_le (k := k + 1) hk h.1
  rw [areSTo, Bool.and_eq_true, goodS, List.getElem?_eq_getElem hk] at this
  have h2 := this.2
  simp only [Bool.and_eq_true, sitB, ptB, inB, decide_eq_true_eq] at h2
  omega
theorem pAt_co {xs : List Sit} (h : areS xs = true) (s : ByteArray) : Co (pAt xs s).1 ∧ Co (pAt xs s).2 := by
  unfold pAt
  split
  · cases hk : xs[(sitIx s xs).toNat]? with
    | none => exact ⟨by unfold Co; dsimp only; omega, by unfold Co; dsimp only; omega⟩
    | some b =>
      obtain ⟨⟨a1, a2⟩, a3, a4⟩ := areS_bd h (List.mem_of_getElem? hk)
      exact ⟨by unfold Co; dsimp only; omega, by unfold Co; dsimp only; omega⟩
  · exact ⟨by unfold Co; dsimp only; omega, by unfold Co; dsimp only; omega⟩
set_option maxRecDepth 100000 in
set_option maxHeartbeats 4000000 in
theorem implSat_any (xs : List Sit) (ha : areS xs = true) (d : Dsc) (hd : d.Ok) (hi : isD d = true) (px py : Int) (hp : Co px) (hq : Co py) (A : Option Addr) (c : Nat) (w : World) (h : HasSit w xs A) :
    Calls Tryz.prog 88 #[.slice A xs.length c, d.val, .agg #[.int .i64 px, .int .i64 py]] w fun e w' => e = .returned (.bool (satV xs d px py)) ∧ Below w.heap.size w w' := by
  have HF := Lib.hid (fun s W (hb : Below w.heap.size w W) => implFind_any xs ha s A c W (h.below hb))
  have KN := Lib.hid (blks_two w 79 32 #[.int .i64 d.kind, .int .i64 d.count, .string d.unit, .int .i64 d.dir, .string d.a, .string d.b] #[.int .i64 px, .int .i64 py])
  obtain ⟨a1, a2⟩ := pAt_co ha d.a
  obtain ⟨b1, b2⟩ := pAt_co ha d.b
  have HX := Lib.hid (show satV xs d px py = (if d.kind = 0 then (decide (px = (pAt xs d.a).1) && decide (py = (pAt xs d.a).2))
    else if d.kind = 1 then decide (sq (pAt xs d.a).1 (pAt xs d.a).2 px py ≤ 64)
    else if d.kind = 2 then fromV d (pAt xs d.a).1 (pAt xs d.a).2 px py
    else betwV (pAt xs d.a).1 (pAt xs d.a).2 (pAt xs d.b).1 (pAt xs d.b).2 px py) from rfl)
  have HFr := Lib.hid (fun hk => isFrom_any d hd hi hk _ _ px py a1 a2 hp hq)
  have HBt := Lib.hid (implBetw_any _ _ _ _ px py a1 a2 b1 b2 hp hq)
  have HSq := Lib.hid (implSq _ _ px py a1 a2 hp hq)
  have HFA := Lib.hid (HF.out d.a)
  have HFB := Lib.hid (HF.out d.b)
  generalize satV xs d px py = r at HX ⊢
  clear hi hd h ha hp hq a1 a2 b1 b2 HF
  generalize (pAt xs d.a).1 = ax at *
  generalize (pAt xs d.a).2 = ay at *
  generalize (pAt xs d.b).1 = bx at *
  generalize (pAt xs d.b).2 = bY at *
  generalize decide (0 ≤ sitIx d.a xs) = fa at HFA
  generalize decide (0 ≤ sitIx d.b xs) = fb at HFB
  generalize sq ax ay px py = s at *
  generalize fromV d ax ay px py = vf at *
  generalize betwV ax ay bx bY px py = vb at *
  unfold Dsc.val at HFr ⊢
  rcases (show d.kind = 0 ∨ d.kind = 1 ∨ d.kind = 2 ∨ (d.kind ≠ 0 ∧ d.kind ≠ 1 ∧ d.kind ≠ 2) by omega) with hk | hk | hk | ⟨hk0, hk1, hk2⟩
  · rw [if_pos hk] at HX
    have q0 : (d.kind == 0) = true := by simpa using hk
    clear hk
    have f3 := beq_dec px ax
    have f4 := beq_dec py ay
    obtain ⟨ex, hex⟩ : ∃ b, decide (px = ax) = b := ⟨_, rfl⟩
    obtain ⟨ey, hey⟩ : ∃ b, decide (py = ay) = b := ⟨_, rfl⟩
    rw [hex] at f3 HX; rw [hey] at f4 HX
    clear hex hey
    cases ex <;> cases ey
    all_goals
      go_enter Tryz.func88, Tryz.ntmps88
      go_wp2_with fail
      generalize hW : (w.alloc (.cells #[.int .i64 d.kind, .int .i64 d.count, .string d.unit, .int .i64 d.dir, .string d.a, .string d.b] 79)).alloc (.cells #[.int .i64 px, .int .i64 py] 32) = W
      obtain ⟨kd, kp, bw, hsz⟩ := KN.out W hW.symm
      clear hW hsz
      refine (HFA.out W bw).mono ?_; rintro e w1 ⟨rfl, b1⟩
      have KD := Lib.hid (kd.below b1 kd.lt); have KP := Lib.hid (kp.below b1 kp.lt)
      have B1 := Lib.hid (bw.trans (b1.mono bw.size)); clear kd kp bw b1
      have T1 := Lib.hid (blks_one w1 32 #[.int .i64 ax, .int .i64 ay])
      go_upto_region 2 with (fail)
      generalize hW : w1.alloc (.cells #[.int .i64 ax, .int .i64 ay] 32) = W1
      obtain ⟨ka, bw, hsz⟩ := T1.out W1 hW.symm
      clear hW hsz
      have KD1 := Lib.hid (KD.out.below bw KD.out.lt); have KP1 := Lib.hid (KP.out.below bw KP.out.lt); have KA1 := Lib.hid ka; have B2 := Lib.hid (B1.out.trans (bw.mono B1.out.size)); clear ka bw
      obtain ⟨x0, x1, x2, x3, x4, x5⟩ := cells_6 KD1.out
      obtain ⟨y0, y1⟩ := cells_2 KP1.out
      obtain ⟨z0, z1⟩ := cells_2 KA1.out
      go_wp2_with fail
      go_ret
      exact ⟨ret_bool (by rw [HX.out]; first | rfl | simp), B2.out⟩
  · rw [if_neg (by omega), if_pos hk] at HX
    have q0 : (d.kind == 0) = false := by rw [hk]; rfl
    have q1 : (d.kind == 1) = true := by simpa using hk
    clear hk
    go_enter Tryz.func88, Tryz.ntmps88
    go_wp2_with fail
    generalize hW : (w.alloc (.cells #[.int .i64 d.kind, .int .i64 d.count, .string d.unit, .int .i64 d.dir, .string d.a, .string d.b] 79)).alloc (.cells #[.int .i64 px, .int .i64 py] 32) = W
    obtain ⟨kd, kp, bw, hsz⟩ := KN.out W hW.symm
    clear hW hsz
    refine (HFA.out W bw).mono ?_; rintro e w1 ⟨rfl, b1⟩
    have KD := Lib.hid (kd.below b1 kd.lt); have KP := Lib.hid (kp.below b1 kp.lt)
    have B1 := Lib.hid (bw.trans (b1.mono bw.size)); clear kd kp bw b1
    have T1 := Lib.hid (blks_one w1 32 #[.int .i64 ax, .int .i64 ay])
    go_upto_region 2 with (fail)
    generalize hW : w1.alloc (.cells #[.int .i64 ax, .int .i64 ay] 32) = W1
    obtain ⟨ka, bw, hsz⟩ := T1.out W1 hW.symm
    clear hW hsz
    have KD1 := Lib.hid (KD.out.below bw KD.out.lt); have KP1 := Lib.hid (KP.out.below bw KP.out.lt); have KA1 := Lib.hid ka; have B2 := Lib.hid (B1.out.trans (bw.mono B1.out.size)); clear ka bw
    obtain ⟨x0, x1, x2, x3, x4, x5⟩ := cells_6 KD1.out
    obtain ⟨y0, y1⟩ := cells_2 KP1.out
    obtain ⟨z0, z1⟩ := cells_2 KA1.out
    go_wp2_with fail
    refine (HSq.out _).mono ?_; rintro e w2 ⟨rfl, b2⟩
    go_wp2_with fail
    go_ret
    exact ⟨ret_bool (by rw [HX.out]), B2.out.trans (b2.mono B2.out.size)⟩
  · rw [if_neg (by omega), if_neg (by omega), if_pos hk] at HX
    have HFr2 := Lib.hid (HFr.out hk)
    have q0 : (d.kind == 0) = false := by rw [hk]; rfl
    have q1 : (d.kind == 1) = false := by rw [hk]; rfl
    have q2 : (d.kind == 2) = true := by simpa using hk
    clear hk HFr
    go_enter Tryz.func88, Tryz.ntmps88
    go_wp2_with fail
    generalize hW : (w.alloc (.cells #[.int .i64 d.kind, .int .i64 d.count, .string d.unit, .int .i64 d.dir, .string d.a, .string d.b] 79)).alloc (.cells #[.int .i64 px, .int .i64 py] 32) = W
    obtain ⟨kd, kp, bw, hsz⟩ := KN.out W hW.symm
    clear hW hsz
    refine (HFA.out W bw).mono ?_; rintro e w1 ⟨rfl, b1⟩
    have KD := Lib.hid (kd.below b1 kd.lt); have KP := Lib.hid (kp.below b1 kp.lt)
    have B1 := Lib.hid (bw.trans (b1.mono bw.size)); clear kd kp bw b1
    have T1 := Lib.hid (blks_one w1 32 #[.int .i64 ax, .int .i64 ay])
    go_upto_region 2 with (fail)
    generalize hW : w1.alloc (.cells #[.int .i64 ax, .int .i64 ay] 32) = W1
    obtain ⟨ka, bw, hsz⟩ := T1.out W1 hW.symm
    clear hW hsz
    have KD1 := Lib.hid (KD.out.below bw KD.out.lt); have KP1 := Lib.hid (KP.out.below bw KP.out.lt); have KA1 := Lib.hid ka; have B2 := Lib.hid (B1.out.trans (bw.mono B1.out.size)); clear ka bw
    obtain ⟨x0, x1, x2, x3, x4, x5⟩ := cells_6 KD1.out
    obtain ⟨y0, y1⟩ := cells_2 KP1.out
    obtain ⟨z0, z1⟩ := cells_2 KA1.out
    go_wp2_with fail
    refine (HFr2.out _).mono ?_; rintro e w2 ⟨rfl, b2⟩
    go_wp2_with fail
    go_ret
    exact ⟨ret_bool (by rw [HX.out]), B2.out.trans (b2.mono B2.out.size)⟩
  · rw [if_neg hk0, if_neg hk1, if_neg hk2] at HX
    have q0 : (d.kind == 0) = false := by simpa using hk0
    have q1 : (d.kind == 1) = false := by simpa using hk1
    have q2 : (d.kind == 2) = false := by simpa using hk2
    clear hk0 hk1 hk2 HFr
    go_enter Tryz.func88, Tryz.ntmps88
    go_wp2_with fail
    generalize hW : (w.alloc (.cells #[.int .i64 d.kind, .int .i64 d.count, .string d.unit, .int .i64 d.dir, .string d.a, .string d.b] 79)).alloc (.cells #[.int .i64 px, .int .i64 py] 32) = W
    obtain ⟨kd, kp, bw, hsz⟩ := KN.out W hW.symm
    clear hW hsz
    refine (HFA.out W bw).mono ?_; rintro e w1 ⟨rfl, b1⟩
    have KD := Lib.hid (kd.below b1 kd.lt); have KP := Lib.hid (kp.below b1 kp.lt)
    have B1 := Lib.hid (bw.trans (b1.mono bw.size)); clear kd kp bw b1
    have T1 := Lib.hid (blks_one w1 32 #[.int .i64 ax, .int .i64 ay])
    go_upto_region 2 with (fail)
    generalize hW : w1.alloc (.cells #[.int .i64 ax, .int .i64 ay] 32) = W1
    obtain ⟨ka, bw, hsz⟩ := T1.out W1 hW.symm
    clear hW hsz
    have KD1 := Lib.hid (KD.out.below bw KD.out.lt); have KP1 := Lib.hid (KP.out.below bw KP.out.lt); have KA1 := Lib.hid ka; have B2 := Lib.hid (B1.out.trans (bw.mono B1.out.size)); clear ka bw
    obtain ⟨x0, x1, x2, x3, x4, x5⟩ := cells_6 KD1.out
    obtain ⟨y0, y1⟩ := cells_2 KP1.out
    obtain ⟨z0, z1⟩ := cells_2 KA1.out
    go_wp2_with fail
    refine (HFB.out W1 B2.out).mono ?_; rintro e w2 ⟨rfl, b2⟩
    have KP2 := Lib.hid (KP1.out.below b2 KP1.out.lt); have KA2 := Lib.hid (KA1.out.below b2 KA1.out.lt)
    have B3 := Lib.hid (B2.out.trans (b2.mono B2.out.size)); clear b2
    have T2 := Lib.hid (blks_one w2 32 #[.int .i64 bx, .int .i64 bY])
    go_upto_region 10 with (fail)
    generalize hW : w2.alloc (.cells #[.int .i64 bx, .int .i64 bY] 32) = W2
    obtain ⟨kb, bw, hsz⟩ := T2.out W2 hW.symm
    clear hW hsz x0 x1 x2 x3 x4 x5 y0 y1 z0 z1
    obtain ⟨y0, y1⟩ := cells_2 (KP2.out.below bw KP2.out.lt)
    obtain ⟨z0, z1⟩ := cells_2 (KA2.out.below bw KA2.out.lt)
    obtain ⟨u0, u1⟩ := cells_2 kb
    have B4 := Lib.hid (B3.out.trans (bw.mono B3.out.size)); clear kb bw
    go_wp2_with fail
    refine (HBt.out _).mono ?_; rintro e w3 ⟨rfl, b3⟩
    go_wp2_with fail
    go_ret
    exact ⟨ret_bool (by rw [HX.out]), B4.out.trans (b3.mono B4.out.size)⟩
end Go.Proofs.YtaaioengebaebaaGreatDoor
