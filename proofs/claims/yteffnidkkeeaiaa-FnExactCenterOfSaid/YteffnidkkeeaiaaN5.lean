/- The program's CenterOf. -/
import Derived.Test.YteffnidkkeeaiaaRows
import Derived.Test.YteffnidkkeeaiaaL0
import Derived.Test.YteffnidkkeeaiaaM0
import Derived.WalkKit
import Derived.ProofKit
import Derived.OpenShut
import Derived.BigQuiet
import Derived.Outline
import Derived.WalkSpells
import Derived.WalkLawsBesides
import Derived.Deep.DeepCutAuto
import Derived.Test.YteffnidkkeeaiaaN4
namespace Go.Proofs.Yteffnidkkeeaiaa
open Go.ChangeShapes Go.WideShapes Go.ChangeAt Go.RowKit Go.Sort

def bestX (x W : Int) (o : Option (Nat × Int)) : Int := match o with | none => 0 | some p => pX x W p.1
def bestY (y W : Int) (o : Option (Nat × Int)) : Int := match o with | none => 0 | some p => pY y W p.1
theorem Reads.regrown {w : World} {size n : Nat} {A : Option Addr} {xs : List Value} (h : Reads w w.heap.size size A n xs) (d : Nat) (os : Array Obj) : Reads (grow (redrawn w d) os) (grow (redrawn w d) os).heap.size size A n xs :=
  (h.below (below_regrown w d os)).more (below_regrown w d os).size

set_option maxRecDepth 100000 in
set_option maxHeartbeats 4000000 in
theorem implCenter_no (x y W H : Int) (A : Option Addr) (c n : Nat) (hn : n ≤ 9223372036854775807) (hm : maskB x y W H n = false) (w : World) :
    Calls Try.prog 16 #[maskV x y W H A n c] w fun e w' => e = .returned (cenVal (0, 0, 1)) ∧ Below w.heap.size w w' := by
  obtain ⟨k0, k1, k2, k3, k4, k5, k6, hb⟩ := two_blocks w 32 28 (.int .i64 x) (.int .i64 y) (.int .i64 W) (.int .i64 H) (.slice A n c)
  have HM := Lib.hid hm; clear hm
  unfold maskV
  go_enter Try.func16, Try.ntmps16
  go_upto_region 1 with (fail)
  generalize (w.alloc (.cells #[.int .i64 x, .int .i64 y, .int .i64 W, .int .i64 H, .slice A n c] 32)).alloc (.cells #[.int .i64 0, .int .i64 0] 28) = W0 at *
  have r1 : ∀ W1, Calls Try.prog 56 #[.agg #[.int .i64 x, .int .i64 y, .int .i64 W, .int .i64 H, .slice A n c]] W1 fun e w' => e = .returned (.bool false) ∧ Below W1.heap.size W1 w' := fun W1 => by rw [← HM.out]; exact implMask x y W H A n c hn W1
  go_wp2_with (go_at_call 56; refine (r1 _).mono ?_; rintro e w1 ⟨rfl, p1⟩; have k5' := k5.below p1 (by omega); have e7 : w1.cell? ⟨w.heap.size + 1, 0, none⟩ = some (.int .i64 0) := (by rw [k5'.cell]; rfl); have e8 : w1.frozen? ⟨w.heap.size + 1, 0, none⟩ = false := k5'.frozen 0; have e9 : ∀ v, (w1.setCell ⟨w.heap.size + 1, 0, none⟩ v).cell? ⟨w.heap.size + 1, 1, none⟩ = some (.int .i64 0) := (fun v => by rw [(k5'.set_ 0 v).cell]; rfl); have e10 : ∀ v, (w1.setCell ⟨w.heap.size + 1, 0, none⟩ v).frozen? ⟨w.heap.size + 1, 1, none⟩ = false := (fun v => (k5'.set_ 0 v).frozen 1); have e11 : ∀ u v, ((w1.setCell ⟨w.heap.size + 1, 0, none⟩ u).setCell ⟨w.heap.size + 1, 1, none⟩ v).cell? ⟨w.heap.size + 1, 0, none⟩ = some u := (fun u v => by rw [((k5'.set_ 0 u).set_ 1 v).cell]; rfl); have e12 : ∀ u v, ((w1.setCell ⟨w.heap.size + 1, 0, none⟩ u).setCell ⟨w.heap.size + 1, 1, none⟩ v).cell? ⟨w.heap.size + 1, 1, none⟩ = some v := (fun u v => by rw [((k5'.set_ 0 u).set_ 1 v).cell]; rfl))
  refine bodyPost_ret (v := cenVal (0, 0, 1)) (by simp [results, Try.results16, go_sem, cenVal, e11, e12]) rfl ⟨rfl, ((hb.trans (p1.mono (by omega))).setCell (by simp) _).setCell (by simp) _⟩


set_option maxRecDepth 100000 in
set_option maxHeartbeats 8000000 in
theorem implCenter_yes (x y W H : Int) (A : Option Addr) (c : Nat) (cs : List Bool) (hm : maskB x y W H cs.length = true) (w : World) (hr : Reads w w.heap.size 1 A cs.length (bC cs)) :
    Calls Try.prog 16 #[maskV x y W H A cs.length c] w fun e w' => e = .returned (cenVal (cenP x y W H cs)) ∧ Below w.heap.size w w' := by
  obtain ⟨hx, hx', hy, hy', h1, h2, hn⟩ := maskB_bd hm
  have hB := (Blk.new w 32 #[.int .i64 x, .int .i64 y, .int .i64 W, .int .i64 H, .slice A cs.length c]).alloc (.cells #[.int .i64 0, .int .i64 0] 28)
  obtain ⟨_, _, _, _, _, k5, k6, hb⟩ := two_blocks w 32 28 (.int .i64 x) (.int .i64 y) (.int .i64 W) (.int .i64 H) (.slice A cs.length c)
  have HM := Lib.hid hm; clear hm
  have GB : ∀ i, i < cs.length → ∀ k, k ≤ cs.length → 0 ≤ sumTo cs (sqP x y W (pX x W i) (pY y W i)) k ∧ sumTo cs (sqP x y W (pX x W i) (pY y W i)) k ≤ 72000000 * (k : Int) := fun i hi k hk => sumTo_bd cs _ cs.length (fun j hj => sq_all (pX_co j hx hx' h1 h2 (by omega)) (pY_co j hy hy' h1 h2 (by omega)) (pX_co i hx hx' h1 h2 (by omega)) (pY_co i hy hy' h1 h2 (by omega))) k hk
  have HGB := Lib.hid GB; clear GB
  have HP : cenP x y W H cs = (match cenTo cs (gP x y W cs) cs.length with | none => (0, 0, 4) | some p => (pX x W p.1, pY y W p.1, 0)) := by rw [cenP, HM.out]; rfl
  have HCP := Lib.hid HP; clear HP
  unfold maskV
  go_enter Try.func16, Try.ntmps16
  go_upto_region 1 with (fail)
  generalize (w.alloc (.cells #[.int .i64 x, .int .i64 y, .int .i64 W, .int .i64 H, .slice A cs.length c] 32)).alloc (.cells #[.int .i64 0, .int .i64 0] 28) = W0 at *
  obtain ⟨b0, b1, b2, b3, b4⟩ := mask_cells hB
  have r1 : ∀ W1, Calls Try.prog 56 #[.agg #[.int .i64 x, .int .i64 y, .int .i64 W, .int .i64 H, .slice A cs.length c]] W1 fun e w' => e = .returned (.bool true) ∧ Below W1.heap.size W1 w' := fun W1 => by rw [← HM.out]; exact implMask x y W H A cs.length c (by omega) W1
  go_upto_region 3 with (go_at_call 56; refine (r1 _).mono ?_; rintro e w1 ⟨rfl, p1⟩)
  have hB1 := hB.below p1 (by omega)
  have k51 := k5.below p1 (by omega)
  have hb1 : Below w.heap.size w w1 := hb.trans (p1.mono (by omega))
  have hz1 : w.heap.size + 2 ≤ w1.heap.size := by have := p1.size; omega
  obtain ⟨d0, d1, d2, d3, d4⟩ := mask_cells hB1
  go_upto_region 4 with (fail)
  have hBest := Blk.new w1 28 #[.int .i64 0, .int .i64 0]
  have hB2 := hB1.alloc (.cells #[.int .i64 0, .int .i64 0] 28)
  have p12 : Below w1.heap.size w1 (w1.alloc (.cells #[.int .i64 0, .int .i64 0] 28)) := (Below.refl _ _).alloc (Nat.le_refl _) _
  clear d0 d1 d2 d3 d4
  obtain ⟨d0, d1, d2, d3, d4⟩ := mask_cells hB2
  generalize w1.alloc (.cells #[.int .i64 0, .int .i64 0] 28) = W2 at *
  go_wp2_with fail
  go_loopw [5, 17] (fun v5 v17 wr => ∃ i : Nat, i ≤ cs.length ∧ Below w1.heap.size w1 wr ∧ Blk wr w1.heap.size 28 #[.int .i64 (bestX x W (cenTo cs (gP x y W cs) i)), .int .i64 (bestY y W (cenTo cs (gP x y W cs) i))] ∧ v5 = .int .i64 (leastI (cenTo cs (gP x y W cs) i)) ∧ v17 = .int .i64 i) (fun _ i _ => cs.length - (intOf i).toNat)
  case atStart => exact ⟨0, Nat.zero_le _, p12, hBest, rfl, rfl⟩
  case round =>
    obtain ⟨i, hi, hbr, hBb, rfl, rfl⟩ := hrel
    have hBr := hB1.below hbr (by omega)
    have k5r := k51.below hbr (by omega)
    have hwr := hBb.lt
    obtain ⟨e0, e1, e2, e3, e4⟩ := mask_cells hBr
    by_cases hlt : i < cs.length
    · have RR := ((hr.below hb1).more (B' := w1.heap.size) (by omega)).below hbr
      obtain ⟨ab, ao, rfl, hadb, hcell⟩ := RR.2 (by omega)
      have c0 := hcell _ _ (bC_get cs i hlt)
      have hlt' : (i : Int) < (cs.length : Int) := by omega
      clear hcell
      cases hv : cs[i]
      · rw [hv] at c0
        have HN := Lib.hid (cenTo_no (g := gP x y W cs) hlt hv)
        clear hv
        have HBb := Lib.hid hBb; clear hBb
        go_wp2_with fail
        go_roundw
        case rel => exact ⟨i + 1, by omega, hbr, by rw [HN.out]; exact HBb.out, by rw [HN.out], by go_num⟩
        case measure => simp [intOf]; omega
      · rw [hv] at c0
        have HV := Lib.hid hv
        clear hv
        have HBb := Lib.hid hBb; clear hBb
        go_wp2_with fail
        have pI1 := pX_co (x := x) i hx hx' h1 h2 (by omega)
        have pI2 := pY_co (y := y) i hy hy' h1 h2 (by omega)
        obtain ⟨g0, g1, g2, g3, g4⟩ := mask_regrown hBr
        have r2 : ∀ d os, Calls Try.prog 58 #[maskV x y W H (some ⟨ab, ao, none⟩) cs.length c, .int .i64 i] (grow (redrawn wr d) os) (fun e w'' => e = .returned (.agg #[.int .i64 (pX x W i), .int .i64 (pY y W i)]) ∧ ∃ p : Regrown, w'' = grow (redrawn wr p.d) p.os) := fun d os => Calls.regrown_of (implPoint x y W H _ _ c i hx hx' hy hy' h1 h2 (by omega) _)
        have r3 : ∀ d os, Calls Try.prog 57 #[maskV x y W H (some ⟨ab, ao, none⟩) cs.length c, .agg #[.int .i64 (pX x W i), .int .i64 (pY y W i)]] (grow (redrawn wr d) os) (fun e w'' => e = .returned (.int .i64 (gP x y W cs i)) ∧ ∃ p : Regrown, w'' = grow (redrawn wr p.d) p.os) := fun d os => Calls.regrown_of (spread_any x y W H _ _ _ c cs hx hx' hy hy' h1 h2 hn pI1 pI2 _ ((RR.more (Nat.le_of_lt hwr)).regrown d os))
        unfold maskV at r2 r3
        refine wp_region_quiet_below (by kernel_rfl) (by kernel_rfl) ?_
        repeat (first | go_big_quiet_step ((first | with_reducible exact r2 _ _ | with_reducible exact r3 _ _)))
        refine wpQuiet_nil ?_
        intro _ hw'
        obtain ⟨⟨dq, osq⟩, rfl⟩ := hw'
        have hbg := below_regrown wr dq osq
        generalize grow (redrawn wr dq) osq = W3 at *
        have hbr3 : Below w1.heap.size w1 W3 := hbr.trans (hbg.mono (by omega))
        have hBb3 : Blk W3 w1.heap.size 28 #[.int .i64 (bestX x W (cenTo cs (gP x y W cs) i)), .int .i64 (bestY y W (cenTo cs (gP x y W cs) i))] := HBb.out.below hbg hwr
        have hB3 := hBr.below hbg (by omega)
        have hsz3 := hbg.size
        clear e0 e1 e2 e3 e4 g0 g1 g2 g3 g4 c0 r2 r3
        obtain ⟨e0, e1, e2, e3, e4⟩ := mask_cells hB3
        have HB3 := Lib.hid hBb3; clear hBb3
        cases hc : cenTo cs (gP x y W cs) i with
        | none =>
          have HN := Lib.hid (cenTo_first (g := gP x y W cs) hlt HV.out hc)
          clear hc
          simp only [leastI]
          go_wp2_with (go_at_call 58; refine (implPoint x y W H _ _ c i hx hx' hy hy' h1 h2 (by omega) _).mono ?_; rintro e w4 ⟨rfl, p4⟩; obtain ⟨m5, m6, m7, m8, m9, m10, m11⟩ := pair_facts (HB3.out.below p4 (by omega)))
          go_roundw
          case rel =>
            refine ⟨i + 1, by omega, ((hbr3.trans (p4.mono (by omega))).setCell (Nat.le_refl _) _).setCell (Nat.le_refl _) _, ?_, by rw [HN.out]; rfl, by go_num⟩
            rw [HN.out]
            exact ((HB3.out.below p4 (by omega)).set_ 0 _).set_ 1 _
          case measure => simp [intOf]; omega
        | some p =>
          obtain ⟨b, l⟩ := p
          have hbi := cenTo_lt _ _ _ _ _ hc
          have hl0 := (HGB.out b (by omega) cs.length (Nat.le_refl _)).1
          have hl1 : ¬ (l < 0) := by rw [hbi.2]; unfold gP; omega
          clear hbi hl0
          by_cases hl : gP x y W cs i < l
          · have HN := Lib.hid (cenTo_less (g := gP x y W cs) hlt HV.out hc hl)
            clear hc
            simp only [leastI]
            go_wp2_with (go_at_call 58; refine (implPoint x y W H _ _ c i hx hx' hy hy' h1 h2 (by omega) _).mono ?_; rintro e w4 ⟨rfl, p4⟩; obtain ⟨m5, m6, m7, m8, m9, m10, m11⟩ := pair_facts (HB3.out.below p4 (by omega)))
            go_roundw
            case rel =>
              refine ⟨i + 1, by omega, ((hbr3.trans (p4.mono (by omega))).setCell (Nat.le_refl _) _).setCell (Nat.le_refl _) _, ?_, by rw [HN.out]; rfl, by go_num⟩
              rw [HN.out]
              exact ((HB3.out.below p4 (by omega)).set_ 0 _).set_ 1 _
            case measure => simp [intOf]; omega
          · have HN := Lib.hid (cenTo_more (g := gP x y W cs) hlt HV.out hc hl)
            have HC := Lib.hid hc
            clear hc
            simp only [leastI]
            go_wp2_with fail
            go_roundw
            case rel => exact ⟨i + 1, by omega, hbr3, by rw [HN.out, ← HC.out]; exact HB3.out, by rw [HN.out]; rfl, by go_num⟩
            case measure => simp [intOf]; omega
    · obtain rfl : i = cs.length := by omega
      obtain ⟨f5, f6, f7, f8, f9, f10, f11⟩ := pair_facts k5r
      obtain ⟨g5, g6, _⟩ := pair_facts hBb
      clear hBb
      cases hc : cenTo cs (gP x y W cs) cs.length with
      | none =>
        have HN := Lib.hid (show cenP x y W H cs = (0, 0, 4) by rw [HCP.out, hc])
        rw [hc] at g5 g6
        clear hc
        simp only [bestX, bestY, leastI] at g5 g6 ⊢
        go_wp2_with fail
        refine bodyPost_ret (v := cenVal (cenP x y W H cs)) (by simp [results, Try.results16, go_sem, cenVal, HN.out, f10, f11]) rfl ⟨rfl, ((hb1.trans (hbr.mono (by omega))).setCell (by simp) _).setCell (by simp) _⟩
      | some p =>
        obtain ⟨b, l⟩ := p
        have HN := Lib.hid (show cenP x y W H cs = (pX x W b, pY y W b, 0) by rw [HCP.out, hc])
        rw [hc] at g5 g6
        have hbi := cenTo_lt _ _ _ _ _ hc
        have hl0 := (HGB.out b hbi.1 cs.length (Nat.le_refl _)).1
        have hl1 : ¬ (l < 0) := by rw [hbi.2]; unfold gP; omega
        clear hc
        simp only [bestX, bestY, leastI] at g5 g6 ⊢
        go_wp2_with fail
        refine bodyPost_ret (v := cenVal (cenP x y W H cs)) (by simp [results, Try.results16, go_sem, cenVal, HN.out, f10, f11]) rfl ⟨rfl, ((hb1.trans (hbr.mono (by omega))).setCell (by simp) _).setCell (by simp) _⟩
end Go.Proofs.Yteffnidkkeeaiaa
