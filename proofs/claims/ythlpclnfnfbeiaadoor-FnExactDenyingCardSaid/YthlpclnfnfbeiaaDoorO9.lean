/- The law of Denying returns true for all arguments: the walk of the law. -/
import Derived.Test.YthlpclnfnfbeiaaDoorRows
import Derived.Test.YthlpclnfnfbeiaaDoorL0
import Derived.Test.YthlpclnfnfbeiaaDoorM0
import Derived.WalkKit
import Derived.ProofKit
import Derived.OpenShut
import Derived.BigQuiet
import Derived.Outline
import Derived.WalkSpells
import Derived.WalkLawsBesides
import Derived.Deep.DeepCutAuto
import Derived.Test.YthlpclnfnfbeiaaDoorMB
import Derived.Test.YthlpclnfnfbeiaaDoorO7
import Derived.Test.YthlpclnfnfbeiaaDoorFC2
import Derived.Test.YthlpclnfnfbeiaaDoorI7
import Derived.Deep.RegionHeld3
import Derived.Deep.AppendLies
import Derived.Lib.Hide
namespace Go.Proofs.YthlpclnfnfbeiaaDoor
open Go.ChangeShapes Go.WideShapes Go.ChangeAt Go.RowKit Go.Sort

set_option maxRecDepth 100000 in
set_option maxHeartbeats 8000000 in
theorem lawDenying_any (xs : List Clm) (f : Fct) (hf : f.Ok) (A : Option Addr) (c : Nat) (w : World) (hxs : HasClm w xs A) :
    Calls Tryd.prog 5 #[.slice A xs.length c, .agg #[.int .i64 f.kind, .string f.place, .string f.val_, .int .i64 f.year]] w fun e w' => e = .returned (.bool true) ∧ Below w.heap.size w w' := by
  have Hxs := Lib.hid (fun W (hB0 : Below w.heap.size w W) => hxs.below hB0)
  have Mxs := hxs.2.1
  have HZ0 := Lib.hid (fun W (hB0 : Below w.heap.size w W) => szClmS_any xs A c (1048576) (by omega) (by omega) W (Hxs.out W hB0).1 (Hxs.out W hB0).2.1 (Hxs.out W hB0).2.2)
  rcases (show szClmS (1048576) xs < 0 ∨ ¬ szClmS (1048576) xs < 0 by omega) with hz0 | hz0
  · have hz := hz0
    generalize szClmS (1048576) xs = z0 at *
    have KN := Lib.hid (blks_one w 24 #[.int .i64 f.kind, .string f.place, .string f.val_, .int .i64 f.year])
    go_enter Tryd.func5, Tryd.ntmps5
    go_wp2_with fail
    generalize hW : (w.alloc (.cells #[.int .i64 f.kind, .string f.place, .string f.val_, .int .i64 f.year] 24)) = w0
    obtain ⟨kf, bw, _⟩ := KN.out w0 hW.symm
    clear hW
    have SBf := Lib.hid kf; have SLf := Lib.hid kf.lt; clear kf
    have B0 := Lib.hid bw; clear bw
    refine (HZ0.out w0 B0.out).mono ?_; rintro e w1 ⟨rfl, b1⟩
    have B1 := Lib.hid (B0.out.trans (b1.mono B0.out.size))
    have SBf := Lib.hid (SBf.out.below b1 SLf.out); have SLf := Lib.hid SBf.out.lt
    obtain ⟨xf0, xf1, xf2, xf3⟩ := cells_4 SBf.out
    clear b1
    go_wp2_with fail
    go_ret
    exact ⟨rfl, B1.out⟩
  have q0 := szClmS_pos (left := 1048576) (xs := xs) (by omega) (by omega)
  have Nxs : xs.length ≤ 1048576 := q0.1
  have HZ1 := Lib.hid (fun W (hB0 : Below w.heap.size w W) => szFct_any f hf (szClmS (1048576) xs) (by omega) (by omega) W)
  unfold Fct.val at HZ1
  rcases (show szFct (szClmS (1048576) xs) f < 0 ∨ ¬ szFct (szClmS (1048576) xs) f < 0 by omega) with hz1 | hz1
  · have hz := hz1
    generalize szFct (szClmS (1048576) xs) f = z1 at *
    generalize szClmS (1048576) xs = z0 at *
    have KN := Lib.hid (blks_one w 24 #[.int .i64 f.kind, .string f.place, .string f.val_, .int .i64 f.year])
    go_enter Tryd.func5, Tryd.ntmps5
    go_wp2_with fail
    generalize hW : (w.alloc (.cells #[.int .i64 f.kind, .string f.place, .string f.val_, .int .i64 f.year] 24)) = w0
    obtain ⟨kf, bw, _⟩ := KN.out w0 hW.symm
    clear hW
    have SBf := Lib.hid kf; have SLf := Lib.hid kf.lt; clear kf
    have B0 := Lib.hid bw; clear bw
    refine (HZ0.out w0 B0.out).mono ?_; rintro e w1 ⟨rfl, b1⟩
    have B1 := Lib.hid (B0.out.trans (b1.mono B0.out.size))
    have SBf := Lib.hid (SBf.out.below b1 SLf.out); have SLf := Lib.hid SBf.out.lt
    obtain ⟨xf0, xf1, xf2, xf3⟩ := cells_4 SBf.out
    clear b1
    go_wp2_with fail
    refine (HZ1.out w1 B1.out).mono ?_; rintro e w2 ⟨rfl, b2⟩
    have B2 := Lib.hid (B1.out.trans (b2.mono B1.out.size))
    have SBf := Lib.hid (SBf.out.below b2 SLf.out); have SLf := Lib.hid SBf.out.lt
    obtain ⟨xf0, xf1, xf2, xf3⟩ := cells_4 SBf.out
    clear b2
    go_wp2_with fail
    go_ret
    exact ⟨rfl, B2.out⟩
  have q1 := szFct_pos (left := szClmS (1048576) xs) (b := f) (by omega)
  obtain ⟨L, hLe⟩ : ∃ L, rowF xs f (denB f) = L := ⟨_, rfl⟩
  obtain ⟨code, hCe⟩ : ∃ code, codeF xs f = code := ⟨_, rfl⟩
  have hL0 : L.length ≤ 1048576 := by rw [← hLe]; exact Nat.le_trans (rowF_len _ _ _) Nxs
  have HS := Lib.hid (show ∀ (A : Option Addr) (c : Nat) W, Below w.heap.size w W → HasClm W xs A → Calls Tryd.prog 19 #[.slice A xs.length c, .agg #[.int .i64 f.kind, .string f.place, .string f.val_, .int .i64 f.year]] W fun e w' => ∃ v, e = .returned (.tuple #[v, .int .i64 code]) ∧ w'.ownsRow W.heap.size 2 1 v L.length (inC L) ∧ Below W.heap.size W w' from fun A c W hB0 rxs => by
    rw [← hLe, ← hCe]; exact specDenying_any xs f (fun b hb => q0.2.1 b hb) ⟨by omega, by omega⟩ A c W rxs)
  have HI := Lib.hid (show ∀ (A' : Addr) (c : Nat) W, Below w.heap.size w W → HasClm W xs (some A') → Calls Tryd.prog 20 #[.slice (some A') xs.length c, .agg #[.int .i64 f.kind, .string f.place, .string f.val_, .int .i64 f.year]] W fun e w' => ∃ v, e = .returned (.tuple #[v, .int .i64 code]) ∧ w'.ownsRow W.heap.size 2 1 v L.length (inC L) ∧ Below W.heap.size W w' from fun A' c W hB0 rxs => by
    rw [← hLe, ← hCe]; exact implDenying_any xs f (fun b hb => q0.2.1 b hb) ⟨by omega, by omega⟩ (some A') c W rxs)
  clear hLe hCe
  have HTf := Lib.hid (toFct_any f)
  unfold Fct.val at HTf
  generalize szFct (szClmS (1048576) xs) f = z1 at *
  generalize szClmS (1048576) xs = z0 at *
  have KN := Lib.hid (blks_one w 24 #[.int .i64 f.kind, .string f.place, .string f.val_, .int .i64 f.year])
  have hL : L.length ≤ 9223372036854775807 := by omega
  go_enter Tryd.func5, Tryd.ntmps5
  go_wp2_with fail
  generalize hW : (w.alloc (.cells #[.int .i64 f.kind, .string f.place, .string f.val_, .int .i64 f.year] 24)) = w0
  obtain ⟨kf, bw, _⟩ := KN.out w0 hW.symm
  clear hW
  have SBf := Lib.hid kf; have SLf := Lib.hid kf.lt; clear kf
  have B0 := Lib.hid bw; clear bw
  refine (HZ0.out w0 B0.out).mono ?_; rintro e w1 ⟨rfl, b1⟩
  have B1 := Lib.hid (B0.out.trans (b1.mono B0.out.size))
  have SBf := Lib.hid (SBf.out.below b1 SLf.out); have SLf := Lib.hid SBf.out.lt
  obtain ⟨xf0, xf1, xf2, xf3⟩ := cells_4 SBf.out
  clear b1
  go_wp2_with fail
  refine (HZ1.out w1 B1.out).mono ?_; rintro e w2 ⟨rfl, b2⟩
  have B2 := Lib.hid (B1.out.trans (b2.mono B1.out.size))
  have SBf := Lib.hid (SBf.out.below b2 SLf.out); have SLf := Lib.hid SBf.out.lt
  obtain ⟨xf0, xf1, xf2, xf3⟩ := cells_4 SBf.out
  clear b2
  go_upto_region 8 with (fail)
  go_cut [6, 7] (fun va vb wx => ∃ A0 c0, va = .slice A0 L.length c0 ∧ vb = .int .i64 code ∧ wx.ownsRow w2.heap.size 2 1 (.slice A0 L.length c0) L.length (inC L) ∧ Below w2.heap.size w2 wx)
  case first =>
    have Bd := (Below.refl w2.heap.size w2).drew
    go_region_held3 (fun w' => w'.cell? ⟨w.heap.size, 0, none⟩ = some (.int .i64 f.kind) ∧ w'.cell? ⟨w.heap.size, 1, none⟩ = some (.string f.place) ∧ w'.cell? ⟨w.heap.size, 2, none⟩ = some (.string f.val_) ∧ w'.cell? ⟨w.heap.size, 3, none⟩ = some (.int .i64 f.year))
      (first | exact ⟨kf0, kf1, kf2, kf3⟩ | (go_keep; done) | ((try dsimp only); (repeat' apply And.intro) <;> (go_keep; done)))
      (first | (go_at_call 9; refine (toClmS_any xs A c _ (by exact (Hxs.out _ (B2.out.trans (Bd.mono B2.out.size))).1) Nxs).mono ?_; rintro e wn ⟨rfl, hn, bn⟩; (have Bd := Bd.trans (bn.mono Bd.size)); (have Rxs := Lib.hid (show HasClm wn xs _ from ⟨blk_rd hn (clC_len xs), Mxs, (Hxs.out w (Below.refl _ _)).2.2⟩)); have kf0 := (Bd.cell (p := ⟨w.heap.size, 0, none⟩) SLf.out).trans xf0; have kf1 := (Bd.cell (p := ⟨w.heap.size, 1, none⟩) SLf.out).trans xf1; have kf2 := (Bd.cell (p := ⟨w.heap.size, 2, none⟩) SLf.out).trans xf2; have kf3 := (Bd.cell (p := ⟨w.heap.size, 3, none⟩) SLf.out).trans xf3; clear hn bn) | (go_at_call 10; refine (HTf.out _).mono ?_; rintro e wn ⟨rfl, bn⟩; (have Bd := Bd.trans (bn.mono Bd.size)); (try have Rxs := Lib.hid (Rxs.out.below bn)); have kf0 := (Bd.cell (p := ⟨w.heap.size, 0, none⟩) SLf.out).trans xf0; have kf1 := (Bd.cell (p := ⟨w.heap.size, 1, none⟩) SLf.out).trans xf1; have kf2 := (Bd.cell (p := ⟨w.heap.size, 2, none⟩) SLf.out).trans xf2; have kf3 := (Bd.cell (p := ⟨w.heap.size, 3, none⟩) SLf.out).trans xf3; clear bn) | (go_at_call 19; refine (HS.out _ _ _ (B2.out.trans (Bd.mono B2.out.size)) Rxs.out).mono ?_; rintro e wn ⟨vd, rfl, od, bn⟩; (have Od := Lib.hid (own_mono od Bd.size)); (have Bd := Bd.trans (bn.mono Bd.size)); have kf0 := (Bd.cell (p := ⟨w.heap.size, 0, none⟩) SLf.out).trans xf0; have kf1 := (Bd.cell (p := ⟨w.heap.size, 1, none⟩) SLf.out).trans xf1; have kf2 := (Bd.cell (p := ⟨w.heap.size, 2, none⟩) SLf.out).trans xf2; have kf3 := (Bd.cell (p := ⟨w.heap.size, 3, none⟩) SLf.out).trans xf3; clear od bn) | fail)
    all_goals
      go_wp2_with fail
      go_meet
      obtain ⟨A0, c0, rfl, _⟩ := own_shape Od.out
      exact ⟨A0, c0, rfl, rfl, Od.out, Bd⟩
  case rest =>
    obtain ⟨A0, c0, rfl, rfl, own0, b3⟩ := hcut
    generalize wc = w3 at *
    clear wc
    have B3 := Lib.hid (B2.out.trans (b3.mono B2.out.size))
    have SBf := Lib.hid (SBf.out.below b3 SLf.out); have SLf := Lib.hid SBf.out.lt
    obtain ⟨xf0, xf1, xf2, xf3⟩ := cells_4 SBf.out
    have OW := Lib.hid (own_mono own0 B2.out.size); clear own0
    have NW := Lib.hid (fun k hk => (own_lt OW.out k hk).2)
    have SZf := Lib.hid (show w.heap.size < w3.heap.size from SLf.out)
    clear b3
    go_wp2_with fail
    refine (toClmS_any xs A c w3 (Hxs.out _ B3.out).1 Nxs).mono ?_; rintro e w4 ⟨rfl, h4, b4⟩
    have B4 := Lib.hid (B3.out.trans (b4.mono B3.out.size))
    have SBf := Lib.hid (SBf.out.below b4 SLf.out); have SLf := Lib.hid SBf.out.lt
    have OW := Lib.hid (own_below OW.out b4)
    have OXxs := Lib.hid (blk_own (base := w.heap.size) h4 (clC_len xs) B3.out.size (by unfold maxLen; omega))
    have zx := h4.lt
    obtain ⟨xf0, xf1, xf2, xf3⟩ := cells_4 SBf.out
    clear b4 h4
    go_wp2_with fail
    refine (HTf.out w4).mono ?_; rintro e w5 ⟨rfl, b5⟩
    have B5 := Lib.hid (B4.out.trans (b5.mono B4.out.size))
    have SBf := Lib.hid (SBf.out.below b5 SLf.out); have SLf := Lib.hid SBf.out.lt
    have OW := Lib.hid (own_below OW.out b5)
    have OXxs := Lib.hid (own_below OXxs.out b5)
    obtain ⟨xf0, xf1, xf2, xf3⟩ := cells_4 SBf.out
    have zx := Nat.lt_of_lt_of_le zx b5.size
    clear b5
    go_wp2_with fail
    refine (HI.out _ _ w5 B5.out ⟨Reads.of_own OXxs.out, Mxs, (Hxs.out w (Below.refl _ _)).2.2⟩).mono ?_; rintro e w6 ⟨v3, rfl, og, b6⟩
    obtain ⟨Ag, cg, rfl, _⟩ := own_shape og
    have NG := Lib.hid (fun k hk => (own_lt og k hk).1)
    have ZW := Lib.hid (show w3.heap.size < w5.heap.size from zx); clear zx
    have B6 := Lib.hid (B5.out.trans (b6.mono B5.out.size))
    have SBf := Lib.hid (SBf.out.below b6 SLf.out); have SLf := Lib.hid SBf.out.lt
    have OW := Lib.hid (own_below OW.out b6)
    have OXxs := Lib.hid (own_below OXxs.out b6)
    have OG := Lib.hid (own_mono og B5.out.size); clear og
    clear b6
    go_wp2_with fail
    refine (eqInt64S_same L _ rfl _ _ _ _ w6 (Reads.of_own OG.out) (Reads.of_own OW.out) hL).mono ?_; rintro e w7 ⟨rfl, b7⟩
    have B7 := Lib.hid (B6.out.trans (b7.mono B6.out.size))
    have SBf := Lib.hid (SBf.out.below b7 SLf.out); have SLf := Lib.hid SBf.out.lt
    have OW := Lib.hid (own_below OW.out b7)
    have OXxs := Lib.hid (own_below OXxs.out b7)
    have OG := Lib.hid (own_below OG.out b7)
    clear b7
    go_wp2_with fail
    refine (toClmS_any xs A c w7 (Hxs.out _ B7.out).1 Nxs).mono ?_; rintro e w8 ⟨rfl, h8, b8⟩
    have B8 := Lib.hid (B7.out.trans (b8.mono B7.out.size))
    have SBf := Lib.hid (SBf.out.below b8 SLf.out); have SLf := Lib.hid SBf.out.lt
    have OW := Lib.hid (own_below OW.out b8)
    have OXxs := Lib.hid (own_below OXxs.out b8)
    have OG := Lib.hid (own_below OG.out b8)
    have RF := Lib.hid (blk_rd h8 (clC_len xs)); clear h8 b8
    go_wp2_with fail
    refine (eqClmS_any xs xs _ _ _ _ w8 (Reads.of_own OXxs.out) RF.out Mxs).mono ?_; rw [decide_eq_true rfl]; rintro e w9 ⟨rfl, b9⟩
    have B9 := Lib.hid (B8.out.trans (b9.mono B8.out.size))
    have SBf := Lib.hid (SBf.out.below b9 SLf.out); have SLf := Lib.hid SBf.out.lt
    have OW := Lib.hid (own_below OW.out b9)
    have OXxs := Lib.hid (own_below OXxs.out b9)
    have OG := Lib.hid (own_below OG.out b9)
    clear b9 RF
    go_wp2_with fail
    refine (markClm_any _ _ _ _ _ 1 w9 OXxs.out Nxs (by omega) (by omega)).mono ?_; rintro e w10 ⟨rfl, g10⟩
    have B10 := Lib.hid (below_own B9.out OXxs.out g10 (Nat.le_refl _) B9.out.size)
    have OW := Lib.hid (OW.out.kept g10 (own_far (m := w3.heap.size) NW.out (fun k hk => by simp [Value.ownBlock] at hk; omega)))
    have OG := Lib.hid (OG.out.kept g10 (.inr (fun h => by have h' := NG.out _ h; have := ZW.out; dsimp only at h'; omega)))
    have SBf := Lib.hid (SBf.out.grown g10 (by intro h; simp [Value.ownBlock] at h; have := SZf.out; omega)); have SLf := Lib.hid SBf.out.lt
    clear g10 OXxs
    go_wp2_with fail
    refine (eqInt64S_same L _ rfl _ _ _ _ w10 (Reads.of_own OG.out) (Reads.of_own OW.out) hL).mono ?_; rintro e w11 ⟨rfl, b11⟩
    have B11 := Lib.hid (B10.out.trans (b11.mono B10.out.size))
    have SBf := Lib.hid (SBf.out.below b11 SLf.out); have SLf := Lib.hid SBf.out.lt
    have OW := Lib.hid (own_below OW.out b11)
    have OG := Lib.hid (own_below OG.out b11)
    clear b11
    go_wp2_with fail
    refine (markInt64S_any L _ _ _ _ 1 w11 OG.out rfl (by omega) (by omega) (by omega)).mono ?_; rintro e w12 ⟨rfl, og, g12⟩
    have B12 := Lib.hid (below_own B11.out OG.out g12 (Nat.le_refl _) B11.out.size)
    have OW := Lib.hid (OW.out.kept g12 (own_far (m := w5.heap.size) (fun k hk => by have := NW.out k hk; have := ZW.out; omega) NG.out))
    have SBf := Lib.hid (SBf.out.grown g12 (by intro h; have := NG.out _ h.symm; have := SZf.out; have := ZW.out; omega)); have SLf := Lib.hid SBf.out.lt
    have OG := Lib.hid og; clear og g12
    go_wp2_with fail
    refine (heldInt64S_any _ _ _ _ 1 w12 (Reads.of_own OG.out) (by omega) (by omega) (by omega)).mono ?_; rintro e w' ⟨rfl, rfl⟩
    obtain ⟨xf0, xf1, xf2, xf3⟩ := cells_4 SBf.out
    go_upto_region 27 with (fail)
    go_cut [14, 15] (fun va vb wx => ∃ A0 c0, va = .slice A0 L.length c0 ∧ vb = .int .i64 code ∧ wx.ownsRow w12.heap.size 2 1 (.slice A0 L.length c0) L.length (inC L) ∧ Below w12.heap.size w12 wx)
    case first =>
      have Bd := (Below.refl w12.heap.size w12).drew
      go_region_held3 (fun w' => w'.cell? ⟨w.heap.size, 0, none⟩ = some (.int .i64 f.kind) ∧ w'.cell? ⟨w.heap.size, 1, none⟩ = some (.string f.place) ∧ w'.cell? ⟨w.heap.size, 2, none⟩ = some (.string f.val_) ∧ w'.cell? ⟨w.heap.size, 3, none⟩ = some (.int .i64 f.year))
        (first | exact ⟨kf0, kf1, kf2, kf3⟩ | (go_keep; done) | ((try dsimp only); (repeat' apply And.intro) <;> (go_keep; done)))
        (first | (go_at_call 9; refine (toClmS_any xs A c _ (by exact (Hxs.out _ (B12.out.trans (Bd.mono B12.out.size))).1) Nxs).mono ?_; rintro e wn ⟨rfl, hn, bn⟩; (have Bd := Bd.trans (bn.mono Bd.size)); (have Rxs := Lib.hid (show HasClm wn xs _ from ⟨blk_rd hn (clC_len xs), Mxs, (Hxs.out w (Below.refl _ _)).2.2⟩)); have kf0 := (Bd.cell (p := ⟨w.heap.size, 0, none⟩) SLf.out).trans xf0; have kf1 := (Bd.cell (p := ⟨w.heap.size, 1, none⟩) SLf.out).trans xf1; have kf2 := (Bd.cell (p := ⟨w.heap.size, 2, none⟩) SLf.out).trans xf2; have kf3 := (Bd.cell (p := ⟨w.heap.size, 3, none⟩) SLf.out).trans xf3; clear hn bn) | (go_at_call 10; refine (HTf.out _).mono ?_; rintro e wn ⟨rfl, bn⟩; (have Bd := Bd.trans (bn.mono Bd.size)); (try have Rxs := Lib.hid (Rxs.out.below bn)); have kf0 := (Bd.cell (p := ⟨w.heap.size, 0, none⟩) SLf.out).trans xf0; have kf1 := (Bd.cell (p := ⟨w.heap.size, 1, none⟩) SLf.out).trans xf1; have kf2 := (Bd.cell (p := ⟨w.heap.size, 2, none⟩) SLf.out).trans xf2; have kf3 := (Bd.cell (p := ⟨w.heap.size, 3, none⟩) SLf.out).trans xf3; clear bn) | (go_at_call 20; refine (HI.out _ _ _ (B12.out.trans (Bd.mono B12.out.size)) Rxs.out).mono ?_; rintro e wn ⟨vd, rfl, od, bn⟩; (have Od := Lib.hid (own_mono od Bd.size)); (have Bd := Bd.trans (bn.mono Bd.size)); have kf0 := (Bd.cell (p := ⟨w.heap.size, 0, none⟩) SLf.out).trans xf0; have kf1 := (Bd.cell (p := ⟨w.heap.size, 1, none⟩) SLf.out).trans xf1; have kf2 := (Bd.cell (p := ⟨w.heap.size, 2, none⟩) SLf.out).trans xf2; have kf3 := (Bd.cell (p := ⟨w.heap.size, 3, none⟩) SLf.out).trans xf3; clear od bn) | fail)
      all_goals
        go_wp2_with fail
        go_meet
        obtain ⟨A0, c0, rfl, _⟩ := own_shape Od.out
        exact ⟨A0, c0, rfl, rfl, Od.out, Bd⟩
    case rest =>
      obtain ⟨Ah, ch, rfl, rfl, oh, b13⟩ := hcut
      first | (generalize wc = w13 at *; clear wc) | rename_i w13
      have B13 := Lib.hid (B12.out.trans (b13.mono B12.out.size))
      have SBf := Lib.hid (SBf.out.below b13 SLf.out); have SLf := Lib.hid SBf.out.lt
      have OW := Lib.hid (own_below OW.out b13)
      have OG := Lib.hid (own_below OG.out b13)
      have OH := Lib.hid oh; clear oh b13
      go_wp2_with fail
      refine (eqInt64S_same L _ rfl _ _ _ _ w13 (Reads.of_own OH.out) (Reads.of_own OW.out) hL).mono ?_; rintro e w14 ⟨rfl, b14⟩
      have B14 := Lib.hid (B13.out.trans (b14.mono B13.out.size))
      have SBf := Lib.hid (SBf.out.below b14 SLf.out); have SLf := Lib.hid SBf.out.lt
      have OW := Lib.hid (own_below OW.out b14)
      have OG := Lib.hid (own_below OG.out b14)
      have OH := Lib.hid (own_below OH.out b14)
      clear b14
      go_wp2_with fail
      refine (heldInt64S_any _ _ _ _ 1 w14 (Reads.of_own OG.out) (by omega) (by omega) (by omega)).mono ?_; rintro e w' ⟨rfl, rfl⟩
      go_wp2_with fail
      go_ret
      exact ⟨rfl, B14.out⟩
end Go.Proofs.YthlpclnfnfbeiaaDoor
