/- BestPoint of the reference; the plain law of the best point. BestPoint of the program. -/
import Derived.Test.YtaaioengebaebaaGreatDoorRows
import Derived.Test.YtaaioengebaebaaGreatDoorK8GA
import Derived.WalkKit
import Derived.ProofKit
import Derived.OpenShut
import Derived.BigQuiet
import Derived.Outline
import Derived.WalkSpells
import Derived.WalkLawsBesides
import Derived.Deep.DeepCutAuto
import Derived.Test.YtaaioengebaebaaGreatDoorK8HF
import Derived.Test.YtaaioengebaebaaGreatDoorK8GG
import Derived.Lib.QuietBelow
import Derived.Deep.QuietTactic
namespace Go.Proofs.YtaaioengebaebaaGreatDoor
open Go.ChangeShapes Go.WideShapes Go.ChangeAt Go.RowKit Go.Sort

theorem codeS_no (xs : List Sit) (ds : List Dsc) : codeS xs ds false = 1 := by
  unfold codeS
  rw [if_neg (by simp)]
theorem mask_bd {x y W H : Int} {n : Nat} (h : maskB x y W H n = true) : -1000 ≤ x ∧ x ≤ 1000 ∧ -1000 ≤ y ∧ y ≤ 1000 ∧ 1 ≤ W ∧ W ≤ 24 ∧ 1 ≤ H ∧ H ≤ 24 ∧ n ≤ 576 ∧ (n : Int) = W * H ∧ x + W - 1 ≤ 1000 ∧ y + H - 1 ≤ 1000 := by
  simp only [maskB, ptB, inB, Bool.and_eq_true, decide_eq_true_eq, beq_iff_eq] at h
  have h1 := h.1
  have h2 := h.2.1
  have h3 : (n : Int) = W * H := h.2.2.2.2
  have h4 : W * H ≤ 24 * 24 := Int.mul_le_mul h1.2 h2.2 (by omega) (by omega)
  have h5 := h.2.2.1
  have h6 := h.2.2.2.1
  exact ⟨by omega, by omega, by omega, by omega, by omega, by omega, by omega, by omega, by omega, h3, by omega, by omega⟩
/-- The index of the first greatest value below k. -/
def bestTo (f : Nat → Int) : Nat → Nat
  | 0 => 0
  | k + 1 => if f (bestTo f k) < f k then k else bestTo f k
theorem bestTo_lt (f : Nat → Int) : ∀ k, 0 < k → bestTo f k < k
  | 0, h => by omega
  | k + 1, _ => by
    rw [bestTo]
    split
    · omega
    · cases k with
      | zero => simp [bestTo]
      | succ k => have := bestTo_lt f (k + 1) (by omega); omega
theorem bestTo_le (f : Nat → Int) (k : Nat) : bestTo f k ≤ k := by
  cases k with
  | zero => simp [bestTo]
  | succ k => have := bestTo_lt f (k + 1) (by omega); omega
theorem bestTo_max (f : Nat → Int) : ∀ k i, i < k → f i ≤ f (bestTo f k)
  | 0, i, h => by omega
  | k + 1, i, h => by
    rw [bestTo]
    split
    · next hc =>
      rcases Nat.lt_or_ge i k with h1 | h1
      · have := bestTo_max f k i h1; omega
      · obtain rfl : i = k := by omega
        exact Int.le_refl _
    · next hc =>
      rcases Nat.lt_or_ge i k with h1 | h1
      · exact bestTo_max f k i h1
      · obtain rfl : i = k := by omega
        omega
/-- How many descriptions the point of a cell satisfies. -/
def cellF (xs : List Sit) (ds : List Dsc) (x y W : Int) (i : Nat) : Int := cntTo xs ds (pX x W i) (pY y W i) ds.length
theorem cellF_bd (xs : List Sit) (ds : List Dsc) (x y W : Int) (i : Nat) : 0 ≤ cellF xs ds x y W i ∧ cellF xs ds x y W i ≤ ds.length := cntTo_bd _ _ _ _ _
def bestP (xs : List Sit) (ds : List Dsc) (x y W H : Int) (n : Nat) : Int × Int × Int :=
  if codeS xs ds (maskB x y W H n) = 0 then (pX x W (bestTo (cellF xs ds x y W) n), pY y W (bestTo (cellF xs ds x y W) n), 0) else (0, 0, codeS xs ds (maskB x y W H n))
theorem codeS_mask {xs : List Sit} {ds : List Dsc} {b : Bool} (h : codeS xs ds b = 0) : b = true ∧ codeS xs ds true = 0 := by
  cases b
  · rw [codeS_no] at h; exact absurd h (by decide)
  · exact ⟨rfl, h⟩
set_option maxRecDepth 100000 in
theorem specBox_any (xs : List Sit) (ds : List Dsc) (x y W H : Int) (A B Am : Option Addr) (c d n cm : Nat) (hn : n ≤ 9223372036854775807) (w : World) (h : HasSit w xs A) (h2 : HasDsc w ds B) :
    Calls Tryz.prog 44 #[.slice A xs.length c, .slice B ds.length d, maskV x y W H Am n cm] w fun e w' => e = .returned (.int .i64 (codeS xs ds (maskB x y W H n))) ∧ Below w.heap.size w w' := by
  have CM := Lib.hid (specMask x y W H Am n cm hn)
  have CC := Lib.hid (fun W' (hb : Below w.heap.size w W') => specCodeS_any xs ds A B c d W' (h.below hb) (h2.below hb))
  have KN := Lib.hid (blks_one w 40 #[.int .i64 x, .int .i64 y, .int .i64 W, .int .i64 H, .slice Am n cm])
  have HN := Lib.hid (codeS_no xs ds)
  clear h h2
  generalize maskB x y W H n = mb at CM ⊢
  unfold maskV at CM ⊢
  cases mb
  all_goals
    go_enter Tryz.func44, Tryz.ntmps44
    go_wp2_with fail
    generalize hW : w.alloc (.cells #[.int .i64 x, .int .i64 y, .int .i64 W, .int .i64 H, .slice Am n cm] 40) = W0
    obtain ⟨_, bw, _⟩ := KN.out W0 hW.symm
    clear hW
    refine (CM.out W0).mono ?_; rintro e w1 ⟨rfl, b1⟩
    have B1 := Lib.hid (bw.trans (b1.mono bw.size)); clear b1 bw
    go_wp2_with fail
  · go_ret
    exact ⟨by rw [HN.out]; rfl, B1.out⟩
  · refine (CC.out w1 B1.out).mono ?_; rintro e w2 ⟨rfl, b2⟩
    go_wp2_with fail
    go_ret
    exact ⟨rfl, B1.out.trans (b2.mono B1.out.size)⟩
set_option maxRecDepth 100000 in
set_option maxHeartbeats 2000000 in
theorem specBest_any (xs : List Sit) (ds : List Dsc) (x y W H : Int) (A B Am : Option Addr) (c d n cm : Nat) (hn : n ≤ 9223372036854775807) (w : World) (h : HasSit w xs A) (h2 : HasDsc w ds B) :
    Calls Tryz.prog 11 #[.slice A xs.length c, .slice B ds.length d, maskV x y W H Am n cm] w fun e w' => e = .returned (.tuple #[.agg #[.int .i64 (bestP xs ds x y W H n).1, .int .i64 (bestP xs ds x y W H n).2.1], .int .i64 (bestP xs ds x y W H n).2.2]) ∧ Below w.heap.size w w' := by
  have CB := Lib.hid (fun W' (hb : Below w.heap.size w W') => specBox_any xs ds x y W H A B Am c d n cm hn W' (h.below hb) (h2.below hb))
  have HV := Lib.hid (show bestP xs ds x y W H n = if codeS xs ds (maskB x y W H n) = 0 then (pX x W (bestTo (cellF xs ds x y W) n), pY y W (bestTo (cellF xs ds x y W) n), 0) else (0, 0, codeS xs ds (maskB x y W H n)) from rfl)
  have KN := Lib.hid (blks_two w 40 32 #[.int .i64 x, .int .i64 y, .int .i64 W, .int .i64 H, .slice Am n cm] #[.int .i64 0, .int .i64 0])
  generalize bestP xs ds x y W H n = r at HV ⊢
  by_cases hz : codeS xs ds (maskB x y W H n) = 0
  rotate_left
  · rw [if_neg hz] at HV
    generalize codeS xs ds (maskB x y W H n) = code at hz CB HV
    have hz1 : (code != 0) = true := by simpa using hz
    clear hz h h2
    unfold maskV at CB ⊢
    go_enter Tryz.func11, Tryz.ntmps11
    go_wp2_with fail
    generalize hW : ((w.alloc (.cells #[.int .i64 x, .int .i64 y, .int .i64 W, .int .i64 H, .slice Am n cm] 40)).alloc (.cells #[.int .i64 0, .int .i64 0] 32)) = W0
    obtain ⟨km, kr, b, hz0⟩ := KN.out W0 hW.symm
    clear hW
    have z0 := Nat.le_of_eq hz0.symm; clear hz0
    have B1 := Lib.hid (show Below w.heap.size w W0 from b)
    have Km1 := Lib.hid (km)
    have Kr1 := Lib.hid (kr)
    clear b
    clear km kr
    obtain ⟨cm0, cm1, cm2, cm3, cm4⟩ := cells_5 Km1.out
    refine (CB.out W0 B1.out).mono ?_
    rintro e w2 ⟨rfl, b⟩
    have B2 := Lib.hid (B1.out.trans (b.mono B1.out.size))
    have Km2 := Lib.hid (Km1.out.below b Km1.out.lt)
    have Kr2 := Lib.hid (Kr1.out.below b Kr1.out.lt)
    clear b B1 Km1 Kr1
    clear cm0 cm1 cm2 cm3 cm4
    obtain ⟨fr0, fr1, fr2, fr3, fr4, fr5⟩ := facts_2 Kr2.out
    skip
    go_wp2_with fail
    exact bodyPost_ret (v := .tuple #[.agg #[.int .i64 0, .int .i64 0], .int .i64 code]) (by simp [results, Tryz.results11, go_sem, fr4, fr5]) rfl ⟨by rw [HV.out], ((B2.out).setCell (p := ⟨_, 0, none⟩) (by first | omega | (simp; done) | (simp; omega)) _).setCell (p := ⟨_, 1, none⟩) (by first | omega | (simp; done) | (simp; omega)) _⟩
  obtain ⟨hm, hz2⟩ := codeS_mask hz
  rw [if_pos hz] at HV
  rw [hz] at CB
  obtain ⟨hx, hx', hy, hy', h1, h1', hH, hH', hn6, hnW, _, _⟩ := mask_bd hm
  have npos : 0 < n := by have : 1 ≤ W * H := Int.mul_le_mul h1 hH (by omega) (by omega); omega
  clear hm hz hnW
  have CP := Lib.hid (fun i (hi : i ≤ n) W' => specPoint x y W H Am n cm i hx hx' hy hy' h1 h1' (by omega) W')
  have CC := Lib.hid (fun i (hi : i ≤ n) W' (hb : Below w.heap.size w W') => specCnt_any xs ds hz2 (pX x W i) (pY y W i) (pX_co i hx hx' h1 h1' (by omega)) (pY_co i hy hy' h1 h1' (by omega)) A B c d W' (h.below hb) (h2.below hb))
  have HF := Lib.hid (fun i => (show cntTo xs ds (pX x W i) (pY y W i) ds.length = cellF xs ds x y W i from rfl))
  have HB := Lib.hid (fun i => cellF_bd xs ds x y W i)
  clear h h2 hz2 hx hx' hy hy' h1 h1' hH hH'
  generalize cellF xs ds x y W = f at HV HF HB
  unfold maskV at CB CP ⊢
  go_enter Tryz.func11, Tryz.ntmps11
  go_wp2_with fail
  generalize hW : ((w.alloc (.cells #[.int .i64 x, .int .i64 y, .int .i64 W, .int .i64 H, .slice Am n cm] 40)).alloc (.cells #[.int .i64 0, .int .i64 0] 32)) = W0
  obtain ⟨km, kr, b, hz0⟩ := KN.out W0 hW.symm
  clear hW
  have z0 := Nat.le_of_eq hz0.symm; clear hz0
  have B1 := Lib.hid (show Below w.heap.size w W0 from b)
  have Km1 := Lib.hid (km)
  have Kr1 := Lib.hid (kr)
  clear b
  clear km kr
  obtain ⟨cm0, cm1, cm2, cm3, cm4⟩ := cells_5 Km1.out
  refine (CB.out W0 B1.out).mono ?_
  rintro e w2 ⟨rfl, b⟩
  have B2 := Lib.hid (B1.out.trans (b.mono B1.out.size))
  have Km2 := Lib.hid (Km1.out.below b Km1.out.lt)
  have Kr2 := Lib.hid (Kr1.out.below b Kr1.out.lt)
  clear b B1 Km1 Kr1
  clear cm0 cm1 cm2 cm3 cm4
  obtain ⟨cm0, cm1, cm2, cm3, cm4⟩ := cells_5 Km2.out
  go_wp2_with fail
  clear cm0 cm1 cm2 cm3 cm4
  go_loopw [9, 10, 24] (fun v9 v10 v24 wr => ∃ (i : Nat) (q : Int), i ≤ n ∧ Hid (q = if i = 0 then -1 else f (bestTo f i)) ∧ Hid (Below w.heap.size w wr) ∧ Hid (Blk wr w.heap.size 40 #[.int .i64 x, .int .i64 y, .int .i64 W, .int .i64 H, .slice Am n cm]) ∧ Hid (Blk wr (w.heap.size + 1) 32 #[.int .i64 0, .int .i64 0]) ∧ v9 = .int .i64 (bestTo f i : Nat) ∧ v10 = .int .i64 q ∧ v24 = .int .i64 (i : Int)) (fun _ _ i _ => n - (intOf i).toNat)
  case atStart => exact ⟨0, -1, by omega, rfl, B2.out, Km2.out, Kr2.out, rfl, rfl, rfl⟩
  case round =>
    clear B2 Km2 Kr2
    obtain ⟨i, q, hi, HQ, B2, Km2, Kr2, rfl, rfl, rfl⟩ := hrel
    have hbi := bestTo_le f i
    by_cases hlt : i < n
    · have hlt' : (i : Int) < (n : Int) := by omega
      obtain ⟨cm0, cm1, cm2, cm3, cm4⟩ := cells_5 Km2.out
      go_wp2_with fail
      refine (CP.out i (by omega) wr).mono ?_
      rintro e w3 ⟨rfl, b⟩
      have B3 := Lib.hid (B2.out.trans (b.mono B2.out.size))
      have Km3 := Lib.hid (Km2.out.below b Km2.out.lt)
      have Kr3 := Lib.hid (Kr2.out.below b Kr2.out.lt)
      clear b B2 Km2 Kr2
      clear cm0 cm1 cm2 cm3 cm4
      go_wp2_with fail
      refine (CC.out i (by omega) _ B3.out).mono ?_
      rintro e w4 ⟨rfl, b⟩
      rw [HF.out i]
      have B4 := Lib.hid (B3.out.trans (b.mono B3.out.size))
      have Km4 := Lib.hid (Km3.out.below b Km3.out.lt)
      have Kr4 := Lib.hid (Kr3.out.below b Kr3.out.lt)
      clear b B3 Km3 Kr3
      have hfi := HB.out i
      by_cases hq : q < f i
      · have HN := Lib.hid (show bestTo f (i + 1) = i by
          rw [bestTo]
          have h1 := HQ.out
          by_cases hi0 : i = 0
          · subst hi0
            rw [if_neg (by simp [bestTo])]; rfl
          · rw [if_neg hi0] at h1
            rw [if_pos (by omega)])
        go_wp2_with fail
        go_roundw
        case rel => exact ⟨i + 1, f i, by omega, (show f i = if i + 1 = 0 then -1 else f (bestTo f (i + 1)) by rw [if_neg (by omega), HN.out]), B4.out, Km4.out, Kr4.out, by rw [HN.out], rfl, by go_num⟩
        case measure => simp [intOf]; omega
      · have HN := Lib.hid (show bestTo f (i + 1) = bestTo f i ∧ q = f (bestTo f i) by
          have h1 := HQ.out
          by_cases hi0 : i = 0
          · rw [if_pos hi0] at h1; omega
          · rw [if_neg hi0] at h1
            rw [bestTo, if_neg (by omega)]
            exact ⟨rfl, h1⟩)
        go_wp2_with fail
        go_roundw
        case rel => exact ⟨i + 1, q, by omega, (show q = if i + 1 = 0 then -1 else f (bestTo f (i + 1)) by rw [if_neg (by omega), HN.out.1]; exact HN.out.2), B4.out, Km4.out, Kr4.out, by rw [HN.out.1], rfl, by go_num⟩
        case measure => simp [intOf]; omega
    · obtain rfl : i = n := by omega
      obtain ⟨cm0, cm1, cm2, cm3, cm4⟩ := cells_5 Km2.out
      go_wp2_with fail
      refine (CP.out (bestTo f i) hbi wr).mono ?_
      rintro e w3 ⟨rfl, b⟩
      have B3 := Lib.hid (B2.out.trans (b.mono B2.out.size))
      have Km3 := Lib.hid (Km2.out.below b Km2.out.lt)
      have Kr3 := Lib.hid (Kr2.out.below b Kr2.out.lt)
      clear b B2 Km2 Kr2
      clear cm0 cm1 cm2 cm3 cm4
      obtain ⟨fr0, fr1, fr2, fr3, fr4, fr5⟩ := facts_2 Kr3.out
      skip
      go_wp2_with fail
      exact bodyPost_ret (v := .tuple #[.agg #[.int .i64 (pX x W (bestTo f i)), .int .i64 (pY y W (bestTo f i))], .int .i64 0]) (by simp [results, Tryz.results11, go_sem, fr4, fr5]) rfl ⟨by rw [HV.out], ((B3.out).setCell (p := ⟨_, 0, none⟩) (by first | omega | (simp; done) | (simp; omega)) _).setCell (p := ⟨_, 1, none⟩) (by first | omega | (simp; done) | (simp; omega)) _⟩
end Go.Proofs.YtaaioengebaebaaGreatDoor
namespace Go.Proofs.YtaaioengebaebaaGreatDoor
open Go.ChangeShapes Go.WideShapes Go.ChangeAt Go.RowKit Go.Sort

set_option maxRecDepth 100000 in
set_option maxHeartbeats 4000000 in
theorem implBest_any (xs : List Sit) (ds : List Dsc) (x y W H : Int) (A B Am : Option Addr) (c d n cm : Nat) (hn : n ≤ 9223372036854775807) (w : World) (h : HasSit w xs A) (h2 : HasDsc w ds B) (hdir : Dirs w) :
    Calls Tryz.prog 15 #[.slice A xs.length c, .slice B ds.length d, maskV x y W H Am n cm] w fun e w' => e = .returned (.tuple #[.agg #[.int .i64 (bestP xs ds x y W H n).1, .int .i64 (bestP xs ds x y W H n).2.1], .int .i64 (bestP xs ds x y W H n).2.2]) ∧ Below w.heap.size w w' := by
  have CM := Lib.hid (implMask x y W H Am n cm hn)
  have CB := Lib.hid (fun W' (hb : Below w.heap.size w W') => implCodeS_any xs ds (maskB x y W H n) A B c d W' (h.below hb) (h2.below hb) (hdir.below hb))
  have HV := Lib.hid (show bestP xs ds x y W H n = if codeS xs ds (maskB x y W H n) = 0 then (pX x W (bestTo (cellF xs ds x y W) n), pY y W (bestTo (cellF xs ds x y W) n), 0) else (0, 0, codeS xs ds (maskB x y W H n)) from rfl)
  have KN := Lib.hid (blks_two w 40 32 #[.int .i64 x, .int .i64 y, .int .i64 W, .int .i64 H, .slice Am n cm] #[.int .i64 0, .int .i64 0])
  generalize bestP xs ds x y W H n = r at HV ⊢
  by_cases hz : codeS xs ds (maskB x y W H n) = 0
  rotate_left
  · rw [if_neg hz] at HV
    generalize codeS xs ds (maskB x y W H n) = code at hz CB HV
    have hz1 : (code != 0) = true := by simpa using hz
    clear hz h h2 hdir
    generalize maskB x y W H n = mb at CM CB
    unfold maskV at CM ⊢
    go_enter Tryz.func15, Tryz.ntmps15
    go_wp2_with fail
    generalize hW : ((w.alloc (.cells #[.int .i64 x, .int .i64 y, .int .i64 W, .int .i64 H, .slice Am n cm] 40)).alloc (.cells #[.int .i64 0, .int .i64 0] 32)) = W0
    obtain ⟨km, kr, b, hz0⟩ := KN.out W0 hW.symm
    clear hW
    have z0 := Nat.le_of_eq hz0.symm; clear hz0
    have B1 := Lib.hid (show Below w.heap.size w W0 from b)
    have Km1 := Lib.hid (km)
    have Kr1 := Lib.hid (kr)
    clear b
    clear km kr
    obtain ⟨cm0, cm1, cm2, cm3, cm4⟩ := cells_5 Km1.out
    refine (CM.out W0).mono ?_
    rintro e w2 ⟨rfl, b⟩
    have B2 := Lib.hid (B1.out.trans (b.mono B1.out.size))
    have Km2 := Lib.hid (Km1.out.below b Km1.out.lt)
    have Kr2 := Lib.hid (Kr1.out.below b Kr1.out.lt)
    clear b B1 Km1 Kr1
    clear cm0 cm1 cm2 cm3 cm4
    go_wp2_with fail
    refine (CB.out w2 B2.out).mono ?_
    rintro e w3 ⟨rfl, b⟩
    have B3 := Lib.hid (B2.out.trans (b.mono B2.out.size))
    have Km3 := Lib.hid (Km2.out.below b Km2.out.lt)
    have Kr3 := Lib.hid (Kr2.out.below b Kr2.out.lt)
    clear b B2 Km2 Kr2
    obtain ⟨fr0, fr1, fr2, fr3, fr4, fr5⟩ := facts_2 Kr3.out
    skip
    go_wp2_with fail
    exact bodyPost_ret (v := .tuple #[.agg #[.int .i64 0, .int .i64 0], .int .i64 code]) (by simp [results, Tryz.results15, go_sem, fr4, fr5]) rfl ⟨by rw [HV.out], ((B3.out).setCell (p := ⟨_, 0, none⟩) (by first | omega | (simp; done) | (simp; omega)) _).setCell (p := ⟨_, 1, none⟩) (by first | omega | (simp; done) | (simp; omega)) _⟩
  obtain ⟨hm, hz2⟩ := codeS_mask hz
  rw [if_pos hz] at HV
  rw [hz] at CB
  rw [hm] at CM CB
  obtain ⟨hx, hx', hy, hy', h1, h1', hH, hH', hn6, hnW, _, _⟩ := mask_bd hm
  have npos : 0 < n := by have : 1 ≤ W * H := Int.mul_le_mul h1 hH (by omega) (by omega); omega
  clear hm hz hnW
  have CP := Lib.hid (fun i (hi : i ≤ n) W' => implPoint x y W H Am n cm i hx hx' hy hy' h1 h1' (by omega) W')
  have CC := Lib.hid (fun i (hi : i ≤ n) W' (hb : Below w.heap.size w W') => implCnt_any xs ds true hz2 (pX x W i) (pY y W i) (pX_co i hx hx' h1 h1' (by omega)) (pY_co i hy hy' h1 h1' (by omega)) A B c d W' (h.below hb) (h2.below hb))
  have HF := Lib.hid (fun i => (show cntTo xs ds (pX x W i) (pY y W i) ds.length = cellF xs ds x y W i from rfl))
  have HP0 := Lib.hid (show pX x W 0 = x ∧ pY y W 0 = y by unfold pX pY; simp)
  clear h h2 hdir hz2 hx hx' hy hy' hH hH'
  generalize cellF xs ds x y W = f at HV HF
  unfold maskV at CM CP ⊢
  go_enter Tryz.func15, Tryz.ntmps15
  go_wp2_with fail
  generalize hW : ((w.alloc (.cells #[.int .i64 x, .int .i64 y, .int .i64 W, .int .i64 H, .slice Am n cm] 40)).alloc (.cells #[.int .i64 0, .int .i64 0] 32)) = W0
  obtain ⟨km, kr, b, hz0⟩ := KN.out W0 hW.symm
  clear hW
  have z0 := Nat.le_of_eq hz0.symm; clear hz0
  have B1 := Lib.hid (show Below w.heap.size w W0 from b)
  have Km1 := Lib.hid (km)
  have Kr1 := Lib.hid (kr)
  clear b
  clear km kr
  obtain ⟨cm0, cm1, cm2, cm3, cm4⟩ := cells_5 Km1.out
  refine (CM.out W0).mono ?_
  rintro e w2 ⟨rfl, b⟩
  have B2 := Lib.hid (B1.out.trans (b.mono B1.out.size))
  have Km2 := Lib.hid (Km1.out.below b Km1.out.lt)
  have Kr2 := Lib.hid (Kr1.out.below b Kr1.out.lt)
  clear b B1 Km1 Kr1
  clear cm0 cm1 cm2 cm3 cm4
  go_wp2_with fail
  refine (CB.out w2 B2.out).mono ?_
  rintro e w3 ⟨rfl, b⟩
  have B3 := Lib.hid (B2.out.trans (b.mono B2.out.size))
  have Km3 := Lib.hid (Km2.out.below b Km2.out.lt)
  have Kr3 := Lib.hid (Kr2.out.below b Kr2.out.lt)
  clear b B2 Km2 Kr2
  obtain ⟨cm0, cm1, cm2, cm3, cm4⟩ := cells_5 Km3.out
  have zr := Kr3.out.lt
  go_upto_region 5 with (fail)
  generalize hW : w3.alloc (.cells #[.int .i64 x, .int .i64 y] 32) = w4
  have b : Below w3.heap.size w3 w4 := by rw [← hW]; exact (Below.refl _ _).alloc (Nat.le_refl _) _
  have kp : Blk w4 w3.heap.size 32 #[.int .i64 x, .int .i64 y] := by rw [← hW]; exact Blk.new _ _ _
  obtain ⟨pb, hpb⟩ : ∃ p, p = w3.heap.size := ⟨_, rfl⟩
  rw [← hpb] at kp ⊢
  clear hW
  clear cm0 cm1 cm2 cm3 cm4
  have B4 := Lib.hid (B3.out.trans (b.mono B3.out.size))
  have Km4 := Lib.hid (Km3.out.below b Km3.out.lt)
  have Kr4 := Lib.hid (Kr3.out.below b Kr3.out.lt)
  have Kp4 := Lib.hid (kp)
  clear b B3 Km3 Kr3
  skip
  have zpb : w.heap.size + 2 ≤ pb := by omega
  clear hpb kp
  obtain ⟨cm0, cm1, cm2, cm3, cm4⟩ := cells_5 Km4.out
  have hpz := Kp4.out.lt
  go_wp2_with fail
  clear cm0 cm1 cm2 cm3 cm4
  go_loopw [26] (fun v26 wr => ∃ (i : Nat), i ≤ n ∧ Hid (Below w.heap.size w wr) ∧ Hid (Blk wr w.heap.size 40 #[.int .i64 x, .int .i64 y, .int .i64 W, .int .i64 H, .slice Am n cm]) ∧ Hid (Blk wr (w.heap.size + 1) 32 #[.int .i64 0, .int .i64 0]) ∧ Hid (Blk wr pb 32 #[.int .i64 (pX x W (bestTo f i)), .int .i64 (pY y W (bestTo f i))]) ∧ v26 = .int .i64 (i : Int)) (fun i _ => n - (intOf i).toNat)
  case atStart => exact ⟨0, by omega, B4.out, Km4.out, Kr4.out, by have h := Kp4.out; rw [← HP0.out.1, ← HP0.out.2] at h; exact h, rfl⟩
  case round =>
    clear B4 Km4 Kr4 Kp4
    obtain ⟨i, hi, B4, Km4, Kr4, Kp4, rfl⟩ := hrel
    have hbi := bestTo_le f i
    by_cases hlt : i < n
    · have hlt' : (i : Int) < (n : Int) := by omega
      obtain ⟨cm0, cm1, cm2, cm3, cm4⟩ := cells_5 Km4.out
      go_wp2_with fail
      refine (CP.out i (by omega) wr).mono ?_
      rintro e w5 ⟨rfl, b⟩
      have B5 := Lib.hid (B4.out.trans (b.mono B4.out.size))
      have Km5 := Lib.hid (Km4.out.below b Km4.out.lt)
      have Kr5 := Lib.hid (Kr4.out.below b Kr4.out.lt)
      have Kp5 := Lib.hid (Kp4.out.below b Kp4.out.lt)
      clear b B4 Km4 Kr4 Kp4
      clear cm0 cm1 cm2 cm3 cm4
      go_upto_region 9 with (fail)
      generalize hW : w5.alloc (.cells #[.int .i64 (pX x W i), .int .i64 (pY y W i)] 32) = w6
      have b : Below w5.heap.size w5 w6 := by rw [← hW]; exact (Below.refl _ _).alloc (Nat.le_refl _) _
      have kq : Blk w6 w5.heap.size 32 #[.int .i64 (pX x W i), .int .i64 (pY y W i)] := by rw [← hW]; exact Blk.new _ _ _
      obtain ⟨qb, hqb⟩ : ∃ p, p = w5.heap.size := ⟨_, rfl⟩
      have hqp : pb < qb := by have := Kp5.out.lt; omega
      rw [← hqb] at kq ⊢
      clear hW
      have B6 := Lib.hid (B5.out.trans (b.mono B5.out.size))
      have Km6 := Lib.hid (Km5.out.below b Km5.out.lt)
      have Kr6 := Lib.hid (Kr5.out.below b Kr5.out.lt)
      have Kp6 := Lib.hid (Kp5.out.below b Kp5.out.lt)
      have Kq6 := Lib.hid (kq)
      clear b B5 Km5 Kr5 Kp5
      clear kq hqb
      obtain ⟨y0, y1⟩ := two_regrown Kq6.out
      obtain ⟨u0, u1⟩ := two_regrown Kp6.out
      have r1 : ∀ e os, Calls Tryz.prog 54 #[.slice A xs.length c, .slice B ds.length d, .agg #[.int .i64 (pX x W i), .int .i64 (pY y W i)]] (grow (redrawn w6 e) os) (fun e w'' => e = .returned (.int .i64 (f i)) ∧ ∃ p : Regrown, w'' = grow (redrawn w6 p.d) p.os) := fun e os => Calls.regrown_of (by have := CC.out i (by omega) _ (B6.out.trans ((below_regrown w6 e os).mono B6.out.size)); rw [HF.out] at this; exact this)
      have r2 : ∀ e os, Calls Tryz.prog 54 #[.slice A xs.length c, .slice B ds.length d, .agg #[.int .i64 (pX x W (bestTo f i)), .int .i64 (pY y W (bestTo f i))]] (grow (redrawn w6 e) os) (fun e w'' => e = .returned (.int .i64 (f (bestTo f i))) ∧ ∃ p : Regrown, w'' = grow (redrawn w6 p.d) p.os) := fun e os => Calls.regrown_of (by have := CC.out (bestTo f i) (by omega) _ (B6.out.trans ((below_regrown w6 e os).mono B6.out.size)); rw [HF.out] at this; exact this)
      by_cases hq : f (bestTo f i) < f i
      · have HN := Lib.hid (show bestTo f (i + 1) = i by rw [bestTo, if_pos hq])
        refine wp_region_quiet_below (by kernel_rfl) (by kernel_rfl) ?_; (repeat (first | go_big_quiet_step ((first | with_reducible exact r1 _ _ | with_reducible exact r2 _ _)))); refine wpQuiet_nil ?_; intro _ hw'; obtain ⟨⟨dq, osq⟩, rfl⟩ := hw'
        have b := below_regrown w6 dq osq
        generalize grow (redrawn w6 dq) osq = w7 at b ⊢
        clear r1 r2 y0 y1 u0 u1
        have B7 := Lib.hid (B6.out.trans (b.mono B6.out.size))
        have Km7 := Lib.hid (Km6.out.below b Km6.out.lt)
        have Kr7 := Lib.hid (Kr6.out.below b Kr6.out.lt)
        have Kp7 := Lib.hid (Kp6.out.below b Kp6.out.lt)
        have Kq7 := Lib.hid (Kq6.out.below b Kq6.out.lt)
        clear b B6 Km6 Kr6 Kp6 Kq6
        obtain ⟨cq0, cq1⟩ := cells_2 Kq7.out
        obtain ⟨fp0, fp1, fp2, fp3, fp4, fp5⟩ := facts_2 Kp7.out
        go_wp2_with fail
        go_roundw
        case rel =>
          refine ⟨i + 1, by omega, (B7.out.setCell (p := ⟨_, 0, none⟩) (by dsimp only; omega) _).setCell (p := ⟨_, 1, none⟩) (by dsimp only; omega) _, (Km7.out.far (p := ⟨pb, 0, none⟩) (by simp; omega) _).far (p := ⟨pb, 1, none⟩) (by simp; omega) _, (Kr7.out.far (p := ⟨pb, 0, none⟩) (by simp; omega) _).far (p := ⟨pb, 1, none⟩) (by simp; omega) _, ?_, by go_num⟩
          refine Lib.hid ?_
          rw [HN.out]
          simpa using (Kp7.out.set_ 0 _).set_ 1 _
        case measure => simp [intOf]; omega
      · have HN := Lib.hid (show bestTo f (i + 1) = bestTo f i by rw [bestTo, if_neg hq])
        refine wp_region_quiet_below (by kernel_rfl) (by kernel_rfl) ?_; (repeat (first | go_big_quiet_step ((first | with_reducible exact r1 _ _ | with_reducible exact r2 _ _)))); refine wpQuiet_nil ?_; intro _ hw'; obtain ⟨⟨dq, osq⟩, rfl⟩ := hw'
        have b := below_regrown w6 dq osq
        generalize grow (redrawn w6 dq) osq = w7 at b ⊢
        clear r1 r2 y0 y1 u0 u1
        have B7 := Lib.hid (B6.out.trans (b.mono B6.out.size))
        have Km7 := Lib.hid (Km6.out.below b Km6.out.lt)
        have Kr7 := Lib.hid (Kr6.out.below b Kr6.out.lt)
        have Kp7 := Lib.hid (Kp6.out.below b Kp6.out.lt)
        have Kq7 := Lib.hid (Kq6.out.below b Kq6.out.lt)
        clear b B6 Km6 Kr6 Kp6 Kq6
        go_wp2_with fail
        go_roundw
        case rel => exact ⟨i + 1, by omega, B7.out, Km7.out, Kr7.out, by rw [HN.out]; exact Kp7.out, by go_num⟩
        case measure => simp [intOf]; omega
    · obtain rfl : i = n := by omega
      obtain ⟨cp0, cp1⟩ := cells_2 Kp4.out
      obtain ⟨fr0, fr1, fr2, fr3, fr4, fr5⟩ := facts_2 Kr4.out
      skip
      go_wp2_with fail
      exact bodyPost_ret (v := .tuple #[.agg #[.int .i64 (pX x W (bestTo f i)), .int .i64 (pY y W (bestTo f i))], .int .i64 0]) (by simp [results, Tryz.results15, go_sem, fr4, fr5]) rfl ⟨by rw [HV.out], ((B4.out).setCell (p := ⟨_, 0, none⟩) (by first | omega | (simp; done) | (simp; omega)) _).setCell (p := ⟨_, 1, none⟩) (by first | omega | (simp; done) | (simp; omega)) _⟩
end Go.Proofs.YtaaioengebaebaaGreatDoor
