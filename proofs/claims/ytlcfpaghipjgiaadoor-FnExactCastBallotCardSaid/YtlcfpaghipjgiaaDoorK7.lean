/- The law of CastBallot returns true for every list of ballots and further ballot: the walk of the law. -/
import Derived.Test.YtlcfpaghipjgiaaDoorRows
import Derived.Test.YtlcfpaghipjgiaaDoorL0
import Derived.Test.YtlcfpaghipjgiaaDoorM0
import Derived.WalkKit
import Derived.ProofKit
import Derived.OpenShut
import Derived.BigQuiet
import Derived.Outline
import Derived.WalkSpells
import Derived.WalkLawsBesides
import Derived.Deep.DeepCutAuto
import Derived.Test.YtlcfpaghipjgiaaDoorK5
import Derived.Test.YtlcfpaghipjgiaaDoorK6
import Derived.Test.YtlcfpaghipjgiaaDoorT5
import Derived.Test.YtlcfpaghipjgiaaDoorV5
import Derived.Deep.RegionHeld3
import Derived.Deep.AppendLies
import Derived.Lib.Hide
namespace Go.Proofs.YtlcfpaghipjgiaaDoor
open Go.ChangeShapes Go.WideShapes Go.ChangeAt Go.RowKit Go.Sort

theorem eqBalS_same {L : List Bal} {n : Nat} (hn : L.length = n) (A A' : Option Addr) (c c' : Nat) (w : World) (hr : Reads w w.heap.size 3 A n (baC L)) (hr' : Reads w w.heap.size 3 A' n (baC L)) (hm : n ≤ 9223372036854775807) :
    Calls Tryd.prog 17 #[.slice A n c, .slice A' n c'] w fun e w' => e = .returned (.bool true) ∧ Below w.heap.size w w' := by
  subst hn
  have := eqBalS_any L L A A' c c' w hr hr' hm
  rwa [decide_eq_true rfl] at this
theorem toBalV_any (nm : ByteArray) (ct wt : Int) (w : World) :
    Calls Tryd.prog 34 #[.agg #[.string nm, .int .i64 ct, .int .i64 wt]] w fun e w' => e = .returned (.agg #[.string nm, .int .i64 ct, .int .i64 wt]) ∧ Below w.heap.size w w' := toBal_any ⟨nm, ct, wt⟩ w
theorem szTo_le {left : Int} (xs : List Bal) (h : -1 ≤ left) : szTo left xs ≤ left := by
  induction xs generalizing left with
  | nil => exact Int.le_refl _
  | cons x r ih =>
    unfold szTo
    split
    · exact h
    · have := ih (left := left - x.name.size) (by omega); omega
theorem szB_le (xs : List Bal) : szB xs ≤ 1048576 := by
  unfold szB
  split
  · omega
  · have := szTo_le xs (left := (1048576 : Int) - xs.length) (by omega); omega
theorem castL_len (xs : List Bal) (y : Bal) : (castL xs y).length ≤ 10 := by
  unfold castL
  split
  · split
    · exact (fits_of ‹_›).1.1
    · simp
  · simp
set_option maxRecDepth 100000 in
set_option maxHeartbeats 4000000 in
theorem lawCast_any (xs : List Bal) (nm : ByteArray) (ct wt : Int) (hy : nm.size ≤ 9223372036854775807) (A : Option Addr) (c : Nat) (w : World) (h : HasBal w xs A) :
    Calls Tryd.prog 9 #[.slice A xs.length c, .agg #[.string nm, .int .i64 ct, .int .i64 wt]] w fun e w' => e = .returned (.bool true) ∧ Below w.heap.size w w' := by
  have hL0 := castL_len xs ⟨nm, ct, wt⟩
  have hm' := h.2.1
  have HNm := h.2.2
  have S : ∀ A c w, Reads w w.heap.size 3 A xs.length (baC xs) → Calls Tryd.prog 33 #[.slice A xs.length c, .agg #[.string nm, .int .i64 ct, .int .i64 wt]] w fun e w' => ∃ v, e = .returned (.tuple #[v, .int .i64 (castC xs ⟨nm, ct, wt⟩)]) ∧ w'.ownsRow w.heap.size 49 3 v (castL xs ⟨nm, ct, wt⟩).length (baC (castL xs ⟨nm, ct, wt⟩)) ∧ Below w.heap.size w w' := fun A c w hr => specCast_any xs ⟨nm, ct, wt⟩ hy A c w ⟨hr, hm', HNm⟩
  have I : ∀ A c w, Reads w w.heap.size 3 A xs.length (baC xs) → (A = none → c = 0) → Calls Tryd.prog 35 #[.slice A xs.length c, .agg #[.string nm, .int .i64 ct, .int .i64 wt]] w fun e w' => ∃ v, e = .returned (.tuple #[v, .int .i64 (castC xs ⟨nm, ct, wt⟩)]) ∧ w'.ownsRow w.heap.size 49 3 v (castL xs ⟨nm, ct, wt⟩).length (baC (castL xs ⟨nm, ct, wt⟩)) ∧ Below w.heap.size w w' := fun A c w hr hA => implCast_any xs ⟨nm, ct, wt⟩ hy A c hA w ⟨hr, hm', HNm⟩
  generalize castL xs ⟨nm, ct, wt⟩ = L at hL0 S I
  generalize castC xs ⟨nm, ct, wt⟩ = code at S I
  have HS := Lib.hid S; have HI := Lib.hid I; clear S I
  have hL : L.length ≤ 9223372036854775807 := by omega
  have HR := Lib.hid (fun W (hb : Below w.heap.size w W) => (h.below hb).1)
  have HSZ := Lib.hid (fun W (hb : Below w.heap.size w W) => szBalS_any xs A c W (h.below hb).1 hm' HNm)
  have hsp := fun h0 => (szB_pos (xs := xs) h0).1
  have HZ0 := Lib.hid (show szB xs ≤ 1048576 from szB_le xs)
  generalize szB xs = z at HSZ hsp HZ0
  have HSY := Lib.hid (fun (h0 : 0 ≤ z) W => szBal_any ⟨nm, ct, wt⟩ z h0 HZ0.out hy W)
  unfold Bal.val at HSY
  dsimp only at HSY
  clear h HNm
  have KN := Lib.hid (blks_one w 45 #[.string nm, .int .i64 ct, .int .i64 wt])
  by_cases hz : z < 0
  · go_enter Tryd.func9, Tryd.ntmps9
    go_wp2_with fail
    generalize hW : w.alloc (.cells #[.string nm, .int .i64 ct, .int .i64 wt] 45) = W0
    obtain ⟨bk, bw, _⟩ := KN.out W0 hW.symm
    clear hW
    refine (HSZ.out W0 bw).mono ?_; rintro e w1 ⟨rfl, b1⟩
    go_wp2_with fail
    go_ret
    exact ⟨rfl, bw.trans (b1.mono bw.size)⟩
  have hm := hsp (by omega)
  have SY := Lib.hid (HSY.out (by omega))
  clear hsp HSY
  generalize hz2 : (if z - nm.size < 0 then -1 else z - (nm.size : Int)) = z2 at SY
  clear hz2
  by_cases hq : z2 < 0
  · go_enter Tryd.func9, Tryd.ntmps9
    go_wp2_with fail
    generalize hW : w.alloc (.cells #[.string nm, .int .i64 ct, .int .i64 wt] 45) = W0
    obtain ⟨bk, bw, _⟩ := KN.out W0 hW.symm
    clear hW
    refine (HSZ.out W0 bw).mono ?_; rintro e w1 ⟨rfl, b1⟩
    have B1 := Lib.hid (bw.trans (b1.mono bw.size))
    obtain ⟨q0, q1, q2⟩ := cells_3 (bk.below b1 bk.lt)
    clear bk bw b1
    go_wp2_with fail
    refine (SY.out w1).mono ?_; rintro e w2 ⟨rfl, b2⟩
    go_wp2_with fail
    go_ret
    exact ⟨rfl, B1.out.trans (b2.mono B1.out.size)⟩
  go_enter Tryd.func9, Tryd.ntmps9
  go_wp2_with fail
  generalize hW : w.alloc (.cells #[.string nm, .int .i64 ct, .int .i64 wt] 45) = W0
  obtain ⟨bk, bw, _⟩ := KN.out W0 hW.symm
  clear hW
  refine (HSZ.out W0 bw).mono ?_; rintro e w1 ⟨rfl, b1⟩
  have B1 := Lib.hid (bw.trans (b1.mono bw.size))
  have K1 := Lib.hid (bk.below b1 bk.lt)
  obtain ⟨q0, q1, q2⟩ := cells_3 K1.out
  clear bk bw b1
  go_wp2_with fail
  refine (SY.out w1).mono ?_; rintro e W ⟨rfl, b2⟩
  have hbW : Below w.heap.size w W := B1.out.trans (b2.mono B1.out.size)
  have SB := Lib.hid (K1.out.below b2 K1.out.lt)
  clear q0 q1 q2 B1 K1 b2
  go_upto_region 8 with (fail)
  have s0 := SB.out.cell 0
  have s1 := SB.out.cell 1
  have s2 := SB.out.cell 2
  simp only [List.getElem?_toArray, List.getElem?_cons_succ, List.getElem?_cons_zero] at s0 s1 s2
  have z1 := SB.out.lt
  go_cut [6, 7] (fun va vb wx => ∃ A0 c0, va = .slice A0 L.length c0 ∧ vb = .int .i64 code ∧ wx.ownsRow W.heap.size 49 3 (.slice A0 L.length c0) L.length (baC L) ∧ Below W.heap.size W wx)
  case first =>
    go_region_held3 (fun w' => w'.cell? ⟨w.heap.size, 0, none⟩ = some (.string nm) ∧ w'.cell? ⟨w.heap.size, 1, none⟩ = some (.int .i64 ct) ∧ w'.cell? ⟨w.heap.size, 2, none⟩ = some (.int .i64 wt))
      (first | exact ⟨k0, k1, k2⟩ | (go_keep; done) | ((try dsimp only); (repeat' apply And.intro) <;> (go_keep; done)))
      (first | (go_at_call 15; refine (toBalS_any xs A c W.drew (by exact HR.out _ hbW.drew) hm).mono ?_; rintro e wa ⟨rfl, ha, ba⟩; have Ba : Below W.heap.size W wa := (Below.refl W.heap.size W).drew.trans ba; have Ra := Lib.hid (blk_rd ha (baC_len xs)); clear ha; have k0 := (Ba.cell (p := ⟨w.heap.size, 0, none⟩) z1).trans s0; have k1 := (Ba.cell (p := ⟨w.heap.size, 1, none⟩) z1).trans s1; have k2 := (Ba.cell (p := ⟨w.heap.size, 2, none⟩) z1).trans s2) | (go_at_call 34; refine (toBalV_any nm ct wt wa).mono ?_; rintro e wb ⟨rfl, bb⟩; have Bb : Below W.heap.size W wb := Ba.trans (bb.mono Ba.size); have Rb := Lib.hid ((Ra.out.below bb).more bb.size); have k0 := (Bb.cell (p := ⟨w.heap.size, 0, none⟩) z1).trans s0; have k1 := (Bb.cell (p := ⟨w.heap.size, 1, none⟩) z1).trans s1; have k2 := (Bb.cell (p := ⟨w.heap.size, 2, none⟩) z1).trans s2) | (go_at_call 34; refine (toBalV_any nm ct wt W.drew).mono ?_; rintro e wc ⟨rfl, bc⟩; have Bc : Below W.heap.size W wc := (Below.refl W.heap.size W).drew.trans bc; have k0 := (Bc.cell (p := ⟨w.heap.size, 0, none⟩) z1).trans s0; have k1 := (Bc.cell (p := ⟨w.heap.size, 1, none⟩) z1).trans s1; have k2 := (Bc.cell (p := ⟨w.heap.size, 2, none⟩) z1).trans s2) | (go_at_call 15; refine (toBalS_any xs A c wc (by exact HR.out _ (hbW.trans (Bc.mono hbW.size))) hm).mono ?_; rintro e wb ⟨rfl, ha, bb⟩; have Bb : Below W.heap.size W wb := Bc.trans (bb.mono Bc.size); have Rb := Lib.hid (blk_rd ha (baC_len xs)); clear ha; have k0 := (Bb.cell (p := ⟨w.heap.size, 0, none⟩) z1).trans s0; have k1 := (Bb.cell (p := ⟨w.heap.size, 1, none⟩) z1).trans s1; have k2 := (Bb.cell (p := ⟨w.heap.size, 2, none⟩) z1).trans s2) | (go_at_call 33; refine (HS.out _ _ wb Rb.out).mono ?_; rintro e wd ⟨vd, rfl, od, bd⟩; have Bd : Below W.heap.size W wd := Bb.trans (bd.mono Bb.size); have Od := Lib.hid (own_mono od Bb.size); clear od bd; have k0 := (Bd.cell (p := ⟨w.heap.size, 0, none⟩) z1).trans s0; have k1 := (Bd.cell (p := ⟨w.heap.size, 1, none⟩) z1).trans s1; have k2 := (Bd.cell (p := ⟨w.heap.size, 2, none⟩) z1).trans s2) | fail)
    all_goals
      go_wp2_with fail
      go_meet
      obtain ⟨A0, c0, rfl, _⟩ := own_shape Od.out
      exact ⟨A0, c0, rfl, rfl, Od.out, Bd⟩
  case rest =>
    obtain ⟨A0, c0, rfl, rfl, own0, b0⟩ := hcut
    have B0 := Lib.hid (hbW.trans (b0.mono hbW.size))
    have SB0 := Lib.hid (SB.out.below b0 z1)
    have OW0 := Lib.hid (own_mono own0 hbW.size)
    clear own0 b0 hbW SB s0 s1 s2 z1
    -- the copy that is given to the program
    go_wp2_with fail
    refine (toBalS_any xs A c wc (HR.out _ B0.out) hm).mono ?_; rintro e w1 ⟨rfl, h1, b1⟩
    have B1 := Lib.hid (B0.out.trans (b1.mono B0.out.size))
    have SB1 := Lib.hid (SB0.out.below b1 SB0.out.lt)
    have OW1 := Lib.hid (own_below OW0.out b1)
    have NW := Lib.hid (fun k hk => (own_lt OW0.out k hk).2)
    have OX1 := Lib.hid (blk_own (base := w.heap.size) h1 (baC_len xs) B0.out.size (by unfold maxLen; omega))
    have zx := h1.lt
    have u0 := SB1.out.cell 0
    have u1 := SB1.out.cell 1
    have u2 := SB1.out.cell 2
    simp only [List.getElem?_toArray, List.getElem?_cons_succ, List.getElem?_cons_zero] at u0 u1 u2
    clear h1 b1
    go_wp2_with fail
    refine (toBalV_any nm ct wt w1).mono ?_; rintro e w2 ⟨rfl, b2⟩
    have zx2 : wc.heap.size < w2.heap.size := Nat.lt_of_lt_of_le zx b2.size
    have B2 := Lib.hid (B1.out.trans (b2.mono B1.out.size))
    have SB2 := Lib.hid (SB1.out.below b2 SB1.out.lt)
    have OW2 := Lib.hid (own_below OW1.out b2)
    have OX2 := Lib.hid (own_below OX1.out b2)
    clear b2 u0 u1 u2 zx
    go_wp2_with fail
    refine (HI.out _ _ w2 (Reads.of_own OX2.out) (by intro h; cases h)).mono ?_; rintro e w3 ⟨v3, rfl, og, b3⟩
    obtain ⟨Ag, cg, rfl, _⟩ := own_shape og
    have NG := Lib.hid (fun k hk => (own_lt og k hk).1)
    have B3 := Lib.hid (B2.out.trans (b3.mono B2.out.size))
    have SB3 := Lib.hid (SB2.out.below b3 SB2.out.lt)
    have OW3 := Lib.hid (own_below OW2.out b3)
    have OX3 := Lib.hid (own_below OX2.out b3)
    have OG3 := Lib.hid (own_mono og B2.out.size)
    clear b3 og
    go_wp2_with fail
    refine (eqBalS_same rfl _ _ _ _ w3 (Reads.of_own OG3.out) (Reads.of_own OW3.out) hL).mono ?_; rintro e w4 ⟨rfl, b4⟩
    have B4 := Lib.hid (B3.out.trans (b4.mono B3.out.size))
    have SB4 := Lib.hid (SB3.out.below b4 SB3.out.lt)
    have OW4 := Lib.hid (own_below OW3.out b4)
    have OX4 := Lib.hid (own_below OX3.out b4)
    have OG4 := Lib.hid (own_below OG3.out b4)
    clear b4
    go_wp2_with fail
    refine (toBalS_any xs A c w4 (HR.out _ B4.out) hm).mono ?_; rintro e w5 ⟨rfl, h5, b5⟩
    have B5 := Lib.hid (B4.out.trans (b5.mono B4.out.size))
    have SB5 := Lib.hid (SB4.out.below b5 SB4.out.lt)
    have OW5 := Lib.hid (own_below OW4.out b5)
    have OX5 := Lib.hid (own_below OX4.out b5)
    have OG5 := Lib.hid (own_below OG4.out b5)
    have R5 := Lib.hid (blk_rd h5 (baC_len xs))
    clear b5 h5
    go_wp2_with fail
    refine (eqBalS_same rfl _ _ _ _ w5 (Reads.of_own OX5.out) R5.out hm').mono ?_; rintro e w6 ⟨rfl, b6⟩
    have B6 := Lib.hid (B5.out.trans (b6.mono B5.out.size))
    have SB6 := Lib.hid (SB5.out.below b6 SB5.out.lt)
    have OW6 := Lib.hid (own_below OW5.out b6)
    have OX6 := Lib.hid (own_below OX5.out b6)
    have OG6 := Lib.hid (own_below OG5.out b6)
    clear b6
    -- the copy is marked
    go_wp2_with fail
    refine (markBalC_any xs _ _ _ _ 1 w6 OX6.out rfl (by omega) (by omega) (by omega)).mono ?_; rintro e w7 ⟨rfl, ox7, g7⟩
    have B7 := Lib.hid (below_own B6.out OX6.out g7 (Nat.le_refl _) B6.out.size)
    have OW7 := Lib.hid (OW6.out.kept g7 (own_far (m := wc.heap.size) NW.out (fun k hk => by simp [Value.ownBlock] at hk; omega)))
    have OG7 := Lib.hid (OG6.out.kept g7 (.inr (fun h => by have h' := NG.out _ h; dsimp only at h'; omega)))
    have SB7 := Lib.hid (SB6.out.grown g7 (by intro h; simp [Value.ownBlock] at h; have := SB0.out.lt; omega))
    clear ox7 g7
    go_wp2_with fail
    refine (eqBalS_same rfl _ _ _ _ w7 (Reads.of_own OG7.out) (Reads.of_own OW7.out) hL).mono ?_; rintro e w8 ⟨rfl, b8⟩
    have B8 := Lib.hid (B7.out.trans (b8.mono B7.out.size))
    have SB8 := Lib.hid (SB7.out.below b8 SB7.out.lt)
    have OW8 := Lib.hid (own_below OW7.out b8)
    have OG8 := Lib.hid (own_below OG7.out b8)
    clear b8
    -- the result is marked
    go_wp2_with fail
    refine (markBalC_any L _ _ _ _ 1 w8 OG8.out rfl (by omega) (by omega) (by omega)).mono ?_; rintro e m9 ⟨rfl, og9, g9⟩
    have BM := Lib.hid (below_own B8.out OG8.out g9 (Nat.le_refl _) B8.out.size)
    have OWM := Lib.hid (OW8.out.kept g9 (own_far (m := w2.heap.size) (fun k hk => by have := NW.out k hk; omega) NG.out))
    have SBM := Lib.hid (SB8.out.grown g9 (by intro h; have := NG.out _ h.symm; have := SB0.out.lt; omega))
    have OGM := Lib.hid og9
    clear og9 g9
    go_wp2_with fail
    refine (heldBal_any _ _ _ 1 m9 (Reads.of_own OGM.out) (by omega) (by omega) (by omega)).mono ?_; rintro e w9 ⟨rfl, b9⟩
    have B9 := Lib.hid (BM.out.trans (b9.mono BM.out.size))
    have SB9 := Lib.hid (SBM.out.below b9 SBM.out.lt)
    have OW9 := Lib.hid (own_below OWM.out b9)
    have OG9 := Lib.hid (own_below OGM.out b9)
    clear b9
    go_upto_region 27 with (fail)
    have s0 := SB9.out.cell 0
    have s1 := SB9.out.cell 1
    have s2 := SB9.out.cell 2
    simp only [List.getElem?_toArray, List.getElem?_cons_succ, List.getElem?_cons_zero] at s0 s1 s2
    have z1 := SB9.out.lt
    go_cut [14, 15] (fun va vb wx => ∃ A0 c0, va = .slice A0 L.length c0 ∧ vb = .int .i64 code ∧ wx.ownsRow w9.heap.size 49 3 (.slice A0 L.length c0) L.length (baC L) ∧ Below w9.heap.size w9 wx)
    case first =>
      go_region_held3 (fun w' => w'.cell? ⟨w.heap.size, 0, none⟩ = some (.string nm) ∧ w'.cell? ⟨w.heap.size, 1, none⟩ = some (.int .i64 ct) ∧ w'.cell? ⟨w.heap.size, 2, none⟩ = some (.int .i64 wt))
        (first | exact ⟨k0, k1, k2⟩ | (go_keep; done) | ((try dsimp only); (repeat' apply And.intro) <;> (go_keep; done)))
        (first | (go_at_call 15; refine (toBalS_any xs A c w9.drew (by exact HR.out _ B9.out.drew) hm).mono ?_; rintro e wa ⟨rfl, ha, ba⟩; have Ba : Below w9.heap.size w9 wa := (Below.refl w9.heap.size w9).drew.trans ba; have Ra := Lib.hid (blk_rd ha (baC_len xs)); clear ha; have k0 := (Ba.cell (p := ⟨w.heap.size, 0, none⟩) z1).trans s0; have k1 := (Ba.cell (p := ⟨w.heap.size, 1, none⟩) z1).trans s1; have k2 := (Ba.cell (p := ⟨w.heap.size, 2, none⟩) z1).trans s2) | (go_at_call 34; refine (toBalV_any nm ct wt wa).mono ?_; rintro e wb ⟨rfl, bb⟩; have Bb : Below w9.heap.size w9 wb := Ba.trans (bb.mono Ba.size); have Rb := Lib.hid ((Ra.out.below bb).more bb.size); have k0 := (Bb.cell (p := ⟨w.heap.size, 0, none⟩) z1).trans s0; have k1 := (Bb.cell (p := ⟨w.heap.size, 1, none⟩) z1).trans s1; have k2 := (Bb.cell (p := ⟨w.heap.size, 2, none⟩) z1).trans s2) | (go_at_call 34; refine (toBalV_any nm ct wt w9.drew).mono ?_; rintro e wc ⟨rfl, bc⟩; have Bc : Below w9.heap.size w9 wc := (Below.refl w9.heap.size w9).drew.trans bc; have k0 := (Bc.cell (p := ⟨w.heap.size, 0, none⟩) z1).trans s0; have k1 := (Bc.cell (p := ⟨w.heap.size, 1, none⟩) z1).trans s1; have k2 := (Bc.cell (p := ⟨w.heap.size, 2, none⟩) z1).trans s2) | (go_at_call 15; refine (toBalS_any xs A c wc (by exact HR.out _ (B9.out.trans (Bc.mono B9.out.size))) hm).mono ?_; rintro e wb ⟨rfl, ha, bb⟩; have Bb : Below w9.heap.size w9 wb := Bc.trans (bb.mono Bc.size); have Rb := Lib.hid (blk_rd ha (baC_len xs)); clear ha; have k0 := (Bb.cell (p := ⟨w.heap.size, 0, none⟩) z1).trans s0; have k1 := (Bb.cell (p := ⟨w.heap.size, 1, none⟩) z1).trans s1; have k2 := (Bb.cell (p := ⟨w.heap.size, 2, none⟩) z1).trans s2) | (go_at_call 35; refine (HI.out _ _ wb Rb.out (by intro h; cases h)).mono ?_; rintro e wd ⟨vd, rfl, od, bd⟩; have Bd : Below w9.heap.size w9 wd := Bb.trans (bd.mono Bb.size); have Od := Lib.hid (own_mono od Bb.size); clear od bd; have k0 := (Bd.cell (p := ⟨w.heap.size, 0, none⟩) z1).trans s0; have k1 := (Bd.cell (p := ⟨w.heap.size, 1, none⟩) z1).trans s1; have k2 := (Bd.cell (p := ⟨w.heap.size, 2, none⟩) z1).trans s2) | fail)
      all_goals
        go_wp2_with fail
        go_meet
        obtain ⟨A0, c0, rfl, _⟩ := own_shape Od.out
        exact ⟨A0, c0, rfl, rfl, Od.out, Bd⟩
    case rest =>
      clear s0 s1 s2 z1
      obtain ⟨Ah, ch, rfl, rfl, oh, b10⟩ := hcut
      rename_i wcc
      have B10 := Lib.hid (B9.out.trans (b10.mono B9.out.size))
      have OW10 := Lib.hid (own_below OW9.out b10)
      have OG10 := Lib.hid (own_below OG9.out b10)
      have OH10 := Lib.hid oh
      clear oh b10
      go_wp2_with fail
      refine (eqBalS_same rfl _ _ _ _ _ (Reads.of_own OH10.out) (Reads.of_own OW10.out) hL).mono ?_; rintro e w11 ⟨rfl, b11⟩
      have B11 := Lib.hid (B10.out.trans (b11.mono B10.out.size))
      have OG11 := Lib.hid (own_below OG10.out b11)
      clear b11
      go_wp2_with fail
      refine (heldBal_any _ _ _ 1 w11 (Reads.of_own OG11.out) (by omega) (by omega) (by omega)).mono ?_; rintro e w12 ⟨rfl, b12⟩
      go_wp2_with fail
      go_ret
      exact ⟨rfl, B11.out.trans (b12.mono B11.out.size)⟩
end Go.Proofs.YtlcfpaghipjgiaaDoor
