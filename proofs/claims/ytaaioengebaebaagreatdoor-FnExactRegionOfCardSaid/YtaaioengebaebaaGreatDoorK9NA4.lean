/- The reference's CenterOf. -/
import Derived.Test.YtaaioengebaebaaGreatDoorRows
import Derived.Test.YtaaioengebaebaaGreatDoorK9GA
import Derived.WalkKit
import Derived.ProofKit
import Derived.OpenShut
import Derived.BigQuiet
import Derived.Outline
import Derived.WalkSpells
import Derived.WalkLawsBesides
import Derived.Deep.DeepCutAuto
import Derived.Test.YtaaioengebaebaaGreatDoorK9NA3
namespace Go.Proofs.YtaaioengebaebaaGreatDoor
open Go.ChangeShapes Go.WideShapes Go.ChangeAt Go.RowKit Go.Sort

/-- The best cell up to k, with its sum: the first of the least sums. -/
def cenTo (cs : List Bool) (g : Nat → Int) : Nat → Option (Nat × Int)
  | 0 => none
  | k + 1 => if cs[k]?.getD false = true then (match cenTo cs g k with | none => some (k, g k) | some (b, l) => if g k < l then some (k, g k) else some (b, l)) else cenTo cs g k
def bestV (o : Option (Nat × Int)) : Int := match o with | none => -1 | some p => p.1
def leastS (o : Option (Nat × Int)) : Int := match o with | none => 0 | some p => p.2
def leastI (o : Option (Nat × Int)) : Int := match o with | none => -1 | some p => p.2
theorem cenTo_no {cs : List Bool} {g : Nat → Int} {k : Nat} (h : k < cs.length) (hc : cs[k] = false) : cenTo cs g (k + 1) = cenTo cs g k := by
  simp [cenTo, h, hc]
theorem cenTo_first {cs : List Bool} {g : Nat → Int} {k : Nat} (h : k < cs.length) (hc : cs[k] = true) (h0 : cenTo cs g k = none) : cenTo cs g (k + 1) = some (k, g k) := by
  simp [cenTo, h, hc, h0]
theorem cenTo_less {cs : List Bool} {g : Nat → Int} {k b : Nat} {l : Int} (h : k < cs.length) (hc : cs[k] = true) (h0 : cenTo cs g k = some (b, l)) (hl : g k < l) : cenTo cs g (k + 1) = some (k, g k) := by
  simp [cenTo, h, hc, h0, hl]
theorem cenTo_more {cs : List Bool} {g : Nat → Int} {k b : Nat} {l : Int} (h : k < cs.length) (hc : cs[k] = true) (h0 : cenTo cs g k = some (b, l)) (hl : ¬ g k < l) : cenTo cs g (k + 1) = some (b, l) := by
  simp [cenTo, h, hc, h0, hl]
theorem cenTo_lt (cs : List Bool) (g : Nat → Int) : ∀ k b l, cenTo cs g k = some (b, l) → b < k ∧ l = g b := by
  intro k
  induction k with
  | zero => intro b l h; simp [cenTo] at h
  | succ k ih =>
    intro b l h
    unfold cenTo at h
    split at h
    · cases h0 : cenTo cs g k with
      | none => rw [h0] at h; simp at h; obtain ⟨rfl, rfl⟩ := h; exact ⟨by omega, rfl⟩
      | some p =>
        obtain ⟨b', l'⟩ := p
        rw [h0] at h
        simp only at h
        split at h
        · simp at h; obtain ⟨rfl, rfl⟩ := h; exact ⟨by omega, rfl⟩
        · simp at h; obtain ⟨rfl, rfl⟩ := h; have := ih _ _ h0; exact ⟨by omega, this.2⟩
    · have := ih _ _ h; exact ⟨by omega, this.2⟩

def gP (x y W : Int) (cs : List Bool) (i : Nat) : Int := sumTo cs (sqP x y W (pX x W i) (pY y W i)) cs.length
/-- What CenterOf answers. -/
def cenP (x y W H : Int) (cs : List Bool) : Int × Int × Int :=
  if maskB x y W H cs.length = true then
    (match cenTo cs (gP x y W cs) cs.length with | none => (0, 0, 4) | some p => (pX x W p.1, pY y W p.1, 0))
  else (0, 0, 1)
def cenVal (t : Int × Int × Int) : Value := .tuple #[.agg #[.int .i64 t.1, .int .i64 t.2.1], .int .i64 t.2.2]

theorem maskB_bd {x y W H : Int} {n : Nat} (h : maskB x y W H n = true) : -1000 ≤ x ∧ x ≤ 1000 ∧ -1000 ≤ y ∧ y ≤ 1000 ∧ 1 ≤ W ∧ W ≤ 24 ∧ n ≤ 576 := by
  simp only [maskB, ptB, inB, Bool.and_eq_true, decide_eq_true_eq, beq_iff_eq] at h
  obtain ⟨a, b, c, d, e⟩ := h
  have : W * H ≤ 24 * 24 := Int.mul_le_mul (by omega) (by omega) (by omega) (by omega)
  refine ⟨by omega, by omega, by omega, by omega, by omega, by omega, by omega⟩

set_option maxRecDepth 100000 in
set_option maxHeartbeats 4000000 in
theorem specCenter_no (x y W H : Int) (A : Option Addr) (c n : Nat) (hn : n ≤ 9223372036854775807) (hm : maskB x y W H n = false) (w : World) :
    Calls Tryz.prog 34 #[maskV x y W H A n c] w fun e w' => e = .returned (cenVal (0, 0, 1)) ∧ Below w.heap.size w w' := by
  obtain ⟨k0, k1, k2, k3, k4, k5, k6, hb⟩ := two_blocks w 40 32 (.int .i64 x) (.int .i64 y) (.int .i64 W) (.int .i64 H) (.slice A n c)
  have HM := Lib.hid hm; clear hm
  unfold maskV
  go_enter Tryz.func34, Tryz.ntmps34
  go_upto_region 1 with (fail)
  generalize (w.alloc (.cells #[.int .i64 x, .int .i64 y, .int .i64 W, .int .i64 H, .slice A n c] 40)).alloc (.cells #[.int .i64 0, .int .i64 0] 32) = W0 at *
  have r1 : ∀ W1, Calls Tryz.prog 71 #[.agg #[.int .i64 x, .int .i64 y, .int .i64 W, .int .i64 H, .slice A n c]] W1 fun e w' => e = .returned (.bool false) ∧ Below W1.heap.size W1 w' := fun W1 => by rw [← HM.out]; exact specMask x y W H A n c hn W1
  go_wp2_with (go_at_call 71; refine (r1 _).mono ?_; rintro e w1 ⟨rfl, p1⟩; have k5' := k5.below p1 (by omega); have e7 : w1.cell? ⟨w.heap.size + 1, 0, none⟩ = some (.int .i64 0) := (by rw [k5'.cell]; rfl); have e8 : w1.frozen? ⟨w.heap.size + 1, 0, none⟩ = false := k5'.frozen 0; have e9 : ∀ v, (w1.setCell ⟨w.heap.size + 1, 0, none⟩ v).cell? ⟨w.heap.size + 1, 1, none⟩ = some (.int .i64 0) := (fun v => by rw [(k5'.set_ 0 v).cell]; rfl); have e10 : ∀ v, (w1.setCell ⟨w.heap.size + 1, 0, none⟩ v).frozen? ⟨w.heap.size + 1, 1, none⟩ = false := (fun v => (k5'.set_ 0 v).frozen 1); have e11 : ∀ u v, ((w1.setCell ⟨w.heap.size + 1, 0, none⟩ u).setCell ⟨w.heap.size + 1, 1, none⟩ v).cell? ⟨w.heap.size + 1, 0, none⟩ = some u := (fun u v => by rw [((k5'.set_ 0 u).set_ 1 v).cell]; rfl); have e12 : ∀ u v, ((w1.setCell ⟨w.heap.size + 1, 0, none⟩ u).setCell ⟨w.heap.size + 1, 1, none⟩ v).cell? ⟨w.heap.size + 1, 1, none⟩ = some v := (fun u v => by rw [((k5'.set_ 0 u).set_ 1 v).cell]; rfl))
  refine bodyPost_ret (v := cenVal (0, 0, 1)) (by simp [results, Tryz.results34, go_sem, cenVal, e11, e12]) rfl ⟨rfl, ((hb.trans (p1.mono (by omega))).setCell (by simp) _).setCell (by simp) _⟩

/-- A block of two cells: what a store of both needs, and what it leaves. -/
theorem pair_facts {W : World} {g : Nat} {t : TypeId} {a b : Value} (h : Blk W g t #[a, b]) :
    W.cell? ⟨g, 0, none⟩ = some a ∧ W.cell? ⟨g, 1, none⟩ = some b ∧ W.frozen? ⟨g, 0, none⟩ = false ∧ (∀ v, (W.setCell ⟨g, 0, none⟩ v).cell? ⟨g, 1, none⟩ = some b) ∧ (∀ v, (W.setCell ⟨g, 0, none⟩ v).frozen? ⟨g, 1, none⟩ = false) ∧
      (∀ u v, ((W.setCell ⟨g, 0, none⟩ u).setCell ⟨g, 1, none⟩ v).cell? ⟨g, 0, none⟩ = some u) ∧ (∀ u v, ((W.setCell ⟨g, 0, none⟩ u).setCell ⟨g, 1, none⟩ v).cell? ⟨g, 1, none⟩ = some v) :=
  ⟨by rw [h.cell]; rfl, by rw [h.cell]; rfl, h.frozen 0, fun v => by rw [(h.set_ 0 v).cell]; rfl, fun v => (h.set_ 0 v).frozen 1, fun u v => by rw [((h.set_ 0 u).set_ 1 v).cell]; rfl, fun u v => by rw [((h.set_ 0 u).set_ 1 v).cell]; rfl⟩
theorem mask_cells {W : World} {g : Nat} {t : TypeId} {a b c d e : Value} (h : Blk W g t #[a, b, c, d, e]) :
    W.cell? ⟨g, 0, none⟩ = some a ∧ W.cell? ⟨g, 1, none⟩ = some b ∧ W.cell? ⟨g, 2, none⟩ = some c ∧ W.cell? ⟨g, 3, none⟩ = some d ∧ W.cell? ⟨g, 4, none⟩ = some e :=
  ⟨by rw [h.cell]; rfl, by rw [h.cell]; rfl, by rw [h.cell]; rfl, by rw [h.cell]; rfl, by rw [h.cell]; rfl⟩

set_option maxRecDepth 100000 in
set_option maxHeartbeats 8000000 in
theorem specCenter_yes (x y W H : Int) (A : Option Addr) (c : Nat) (cs : List Bool) (hm : maskB x y W H cs.length = true) (w : World) (hr : Reads w w.heap.size 1 A cs.length (bC cs)) :
    Calls Tryz.prog 34 #[maskV x y W H A cs.length c] w fun e w' => e = .returned (cenVal (cenP x y W H cs)) ∧ Below w.heap.size w w' := by
  obtain ⟨hx, hx', hy, hy', h1, h2, hn⟩ := maskB_bd hm
  have hB := (Blk.new w 40 #[.int .i64 x, .int .i64 y, .int .i64 W, .int .i64 H, .slice A cs.length c]).alloc (.cells #[.int .i64 0, .int .i64 0] 32)
  obtain ⟨_, _, _, _, _, k5, k6, hb⟩ := two_blocks w 40 32 (.int .i64 x) (.int .i64 y) (.int .i64 W) (.int .i64 H) (.slice A cs.length c)
  have HM := Lib.hid hm; clear hm
  have GB : ∀ i, i < cs.length → ∀ k, k ≤ cs.length → 0 ≤ sumTo cs (sqP x y W (pX x W i) (pY y W i)) k ∧ sumTo cs (sqP x y W (pX x W i) (pY y W i)) k ≤ 72000000 * (k : Int) := fun i hi k hk => sumTo_bd cs _ cs.length (fun j hj => sq_all (pX_co j hx hx' h1 h2 (by omega)) (pY_co j hy hy' h1 h2 (by omega)) (pX_co i hx hx' h1 h2 (by omega)) (pY_co i hy hy' h1 h2 (by omega))) k hk
  have HGB := Lib.hid GB; clear GB
  have HP : cenP x y W H cs = (match cenTo cs (gP x y W cs) cs.length with | none => (0, 0, 4) | some p => (pX x W p.1, pY y W p.1, 0)) := by rw [cenP, HM.out]; rfl
  have HCP := Lib.hid HP; clear HP
  unfold maskV
  go_enter Tryz.func34, Tryz.ntmps34
  go_upto_region 1 with (fail)
  generalize (w.alloc (.cells #[.int .i64 x, .int .i64 y, .int .i64 W, .int .i64 H, .slice A cs.length c] 40)).alloc (.cells #[.int .i64 0, .int .i64 0] 32) = W0 at *
  obtain ⟨b0, b1, b2, b3, b4⟩ := mask_cells hB
  have r1 : ∀ W1, Calls Tryz.prog 71 #[.agg #[.int .i64 x, .int .i64 y, .int .i64 W, .int .i64 H, .slice A cs.length c]] W1 fun e w' => e = .returned (.bool true) ∧ Below W1.heap.size W1 w' := fun W1 => by rw [← HM.out]; exact specMask x y W H A cs.length c (by omega) W1
  go_upto_region 4 with (go_at_call 71; refine (r1 _).mono ?_; rintro e w1 ⟨rfl, p1⟩)
  have hB1 := hB.below p1 (by omega)
  have k51 := k5.below p1 (by omega)
  have hb1 : Below w.heap.size w w1 := hb.trans (p1.mono (by omega))
  have hz1 : w.heap.size + 2 ≤ w1.heap.size := by have := p1.size; omega
  obtain ⟨d0, d1, d2, d3, d4⟩ := mask_cells hB1
  go_wp2_with fail
  go_loopw [4, 5, 16] (fun v4 v5 v16 wr => ∃ i : Nat, i ≤ cs.length ∧ Below w1.heap.size w1 wr ∧ v4 = .int .i64 (bestV (cenTo cs (gP x y W cs) i)) ∧ v5 = .int .i64 (leastS (cenTo cs (gP x y W cs) i)) ∧ v16 = .int .i64 i) (fun _ _ i _ => cs.length - (intOf i).toNat)
  case atStart => exact ⟨0, Nat.zero_le _, Below.refl _ _, rfl, rfl, rfl⟩
  case round =>
    obtain ⟨i, hi, hbr, rfl, rfl, rfl⟩ := hrel
    have hBr := hB1.below hbr (by omega)
    have k5r := k51.below hbr (by omega)
    obtain ⟨e0, e1, e2, e3, e4⟩ := mask_cells hBr
    by_cases hlt : i < cs.length
    · have RR := ((hr.below hb1).more (B' := w1.heap.size) (by omega)).below hbr
      obtain ⟨ab, ao, rfl, hadb, hcell⟩ := RR.2 (by omega)
      have c0 := hcell _ _ (bC_get cs i hlt)
      have hlt' : (i : Int) < (cs.length : Int) := by omega
      have HC := Lib.hid hcell; clear hcell
      cases hv : cs[i]
      · rw [hv] at c0
        have HN := Lib.hid (cenTo_no (g := gP x y W cs) hlt hv)
        clear hv
        go_wp2_with fail
        go_roundw
        case rel => exact ⟨i + 1, by omega, hbr, by rw [HN.out], by rw [HN.out], by go_num⟩
        case measure => simp [intOf]; omega
      · rw [hv] at c0
        have HV := Lib.hid hv
        clear hv
        go_wp2_with fail
        have pI1 := pX_co (x := x) i hx hx' h1 h2 (by omega)
        have pI2 := pY_co (y := y) i hy hy' h1 h2 (by omega)
        clear hBr k5r e0 e1 e2 e3 e4 c0 HC RR
        go_loopw [7, 28] (fun v7 v28 wr => ∃ k : Nat, k ≤ cs.length ∧ Below w1.heap.size w1 wr ∧ v7 = .int .i64 (sumTo cs (sqP x y W (pX x W i) (pY y W i)) k) ∧ v28 = .int .i64 k) (fun _ i _ => cs.length - (intOf i).toNat)
        case atStart => exact ⟨0, Nat.zero_le _, hbr, rfl, rfl⟩
        case round =>
          obtain ⟨k, hk, hbq, rfl, rfl⟩ := hrel
          have hBq := hB1.below hbq (by omega)
          have k5q := k51.below hbq (by omega)
          obtain ⟨f0, f1, f2, f3, f4⟩ := mask_cells hBq
          by_cases hkt : k < cs.length
          · obtain ⟨ab', ao', hsame, _, hcell⟩ := (((hr.below hb1).more (B' := w1.heap.size) (by omega)).below hbq).2 (by omega)
            obtain ⟨rfl, rfl⟩ : ab = ab' ∧ ao = ao' := by injection hsame with h; injection h with h1 h2; exact ⟨h1, h2⟩
            have c1 := hcell _ _ (bC_get cs k hkt)
            clear hcell hsame
            have hkt' : (k : Int) < (cs.length : Int) := by omega
            cases hv : cs[k]
            · rw [hv] at c1
              have HN := Lib.hid (sumTo_no cs (sqP x y W (pX x W i) (pY y W i)) k hkt hv)
              clear hv
              go_wp2_with fail
              go_roundw
              case rel => exact ⟨k + 1, by omega, hbq, by rw [HN.out], by go_num⟩
              case measure => simp [intOf]; omega
            · rw [hv] at c1
              have HN := Lib.hid (sumTo_yes cs (sqP x y W (pX x W i) (pY y W i)) k hkt hv)
              clear hv
              go_wp2_with fail
              obtain ⟨g0, g1, g2, g3, g4⟩ := mask_regrown hBq
              have p1 := pX_co (x := x) k hx hx' h1 h2 (by omega)
              have p2 := pY_co (y := y) k hy hy' h1 h2 (by omega)
              have r2 : ∀ d os, Calls Tryz.prog 46 #[maskV x y W H (some ⟨ab, ao, none⟩) cs.length c, .int .i64 i] (grow (redrawn wr d) os) (fun e w'' => e = .returned (.agg #[.int .i64 (pX x W i), .int .i64 (pY y W i)]) ∧ ∃ p : Regrown, w'' = grow (redrawn wr p.d) p.os) := fun d os => Calls.regrown_of (specPoint x y W H _ _ c i hx hx' hy hy' h1 h2 (by omega) _)
              have r3 : ∀ d os, Calls Tryz.prog 46 #[maskV x y W H (some ⟨ab, ao, none⟩) cs.length c, .int .i64 k] (grow (redrawn wr d) os) (fun e w'' => e = .returned (.agg #[.int .i64 (pX x W k), .int .i64 (pY y W k)]) ∧ ∃ p : Regrown, w'' = grow (redrawn wr p.d) p.os) := fun d os => Calls.regrown_of (specPoint x y W H _ _ c k hx hx' hy hy' h1 h2 (by omega) _)
              have r4 : ∀ d os, Calls Tryz.prog 72 #[.agg #[.int .i64 (pX x W i), .int .i64 (pY y W i)], .agg #[.int .i64 (pX x W k), .int .i64 (pY y W k)]] (grow (redrawn wr d) os) (fun e w'' => e = .returned (.int .i64 (sqP x y W (pX x W i) (pY y W i) k)) ∧ ∃ p : Regrown, w'' = grow (redrawn wr p.d) p.os) := fun d os => Calls.regrown_of (by unfold sqP; rw [sq_comm]; exact specSq _ _ _ _ pI1 pI2 p1 p2 _)
              have q1 := HGB.out i hlt k hk
              have q2 := sq_all p1 p2 pI1 pI2
              have hs : IntKind.i64.wrap (sumTo cs (sqP x y W (pX x W i) (pY y W i)) k + sqP x y W (pX x W i) (pY y W i) k) = sumTo cs (sqP x y W (pX x W i) (pY y W i)) (k + 1) := by rw [HN.out]; exact IntWalk.i64_in _ (by unfold sqP; unfold sqP at q1; omega)
              unfold maskV at r2 r3
              refine wp_region_quiet_below (by kernel_rfl) (by kernel_rfl) ?_
              repeat (first | go_big_quiet_step ((first | with_reducible exact r2 _ _ | with_reducible exact r3 _ _ | with_reducible exact r4 _ _)))
              refine wpQuiet_nil ?_
              intro _ hw'
              obtain ⟨⟨dq, osq⟩, rfl⟩ := hw'
              go_wp2_with fail
              go_roundw
              case rel => exact ⟨k + 1, by omega, hbq.trans ((below_regrown wr dq osq).mono hbq.size), rfl, by go_num⟩
              case measure => simp [intOf]; omega
          · obtain rfl : k = cs.length := by omega
            have hg : sumTo cs (sqP x y W (pX x W i) (pY y W i)) cs.length = gP x y W cs i := rfl
            rw [hg]
            clear hg
            cases hc : cenTo cs (gP x y W cs) i with
            | none =>
              have HN := Lib.hid (cenTo_first (g := gP x y W cs) hlt HV.out hc)
              clear hc
              simp only [bestV, leastS]
              generalize hG : gP x y W cs i = G at *
              go_wp2_with fail
              go_roundw
              case rel => exact ⟨i + 1, by omega, hbq, by rw [HN.out]; rfl, by rw [HN.out]; rfl, by go_num⟩
              case measure => simp [intOf]; omega
            | some p =>
              obtain ⟨b, l⟩ := p
              by_cases hl : gP x y W cs i < l
              · have HN := Lib.hid (cenTo_less (g := gP x y W cs) hlt HV.out hc hl)
                clear hc
                have hbn : ¬ ((b : Int) < 0) := by omega
                simp only [bestV, leastS]
                generalize hG : gP x y W cs i = G at *
                go_wp2_with fail
                go_roundw
                case rel => exact ⟨i + 1, by omega, hbq, by rw [HN.out]; rfl, by rw [HN.out]; rfl, by go_num⟩
                case measure => simp [intOf]; omega
              · have HN := Lib.hid (cenTo_more (g := gP x y W cs) hlt HV.out hc hl)
                clear hc
                have hbn : ¬ ((b : Int) < 0) := by omega
                simp only [bestV, leastS]
                generalize hG : gP x y W cs i = G at *
                go_wp2_with fail
                go_roundw
                case rel => exact ⟨i + 1, by omega, hbq, by rw [HN.out]; rfl, by rw [HN.out]; rfl, by go_num⟩
                case measure => simp [intOf]; omega
    · obtain rfl : i = cs.length := by omega
      obtain ⟨f5, f6, f7, f8, f9, f10, f11⟩ := pair_facts k5r
      cases hc : cenTo cs (gP x y W cs) cs.length with
      | none =>
        have HN := Lib.hid (show cenP x y W H cs = (0, 0, 4) by rw [HCP.out, hc])
        clear hc
        simp only [bestV, leastS]
        go_wp2_with fail
        refine bodyPost_ret (v := cenVal (cenP x y W H cs)) (by simp [results, Tryz.results34, go_sem, cenVal, HN.out, f10, f11]) rfl ⟨rfl, ((hb1.trans (hbr.mono (by omega))).setCell (by simp) _).setCell (by simp) _⟩
      | some p =>
        obtain ⟨b, l⟩ := p
        have HN := Lib.hid (show cenP x y W H cs = (pX x W b, pY y W b, 0) by rw [HCP.out, hc])
        have hbn : ¬ ((b : Int) < 0) := by omega
        have hbi := (cenTo_lt _ _ _ _ _ hc).1
        clear hc
        simp only [bestV, leastS]
        go_wp2_with (go_at_call 46; refine (specPoint x y W H A cs.length c b hx hx' hy hy' h1 h2 (by omega) _).mono ?_; rintro e w2 ⟨rfl, p2⟩; obtain ⟨m5, m6, m7, m8, m9, m10, m11⟩ := pair_facts (k5r.below p2 (by have := hbr.size; omega)))
        refine bodyPost_ret (v := cenVal (cenP x y W H cs)) (by simp [results, Tryz.results34, go_sem, cenVal, HN.out, m10, m11]) rfl ⟨rfl, (((hb1.trans (hbr.mono (by omega))).trans (p2.mono (by have := hbr.size; omega))).setCell (by simp) _).setCell (by simp) _⟩
end Go.Proofs.YtaaioengebaebaaGreatDoor
