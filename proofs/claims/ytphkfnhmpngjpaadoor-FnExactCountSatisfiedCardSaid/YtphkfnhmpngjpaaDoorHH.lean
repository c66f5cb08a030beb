/- The law of CountSatisfied returns true for all arguments: the walk of the law. -/
import Derived.Test.YtphkfnhmpngjpaaDoorRows
import Derived.Test.YtphkfnhmpngjpaaDoorL0
import Derived.Test.YtphkfnhmpngjpaaDoorM0
import Derived.WalkKit
import Derived.ProofKit
import Derived.OpenShut
import Derived.BigQuiet
import Derived.Outline
import Derived.WalkSpells
import Derived.WalkLawsBesides
import Derived.Deep.DeepCutAuto
import Derived.Test.YtphkfnhmpngjpaaDoorHF
import Derived.Test.YtphkfnhmpngjpaaDoorQ7
import Derived.Deep.RegionHeld3
import Derived.Deep.AppendLies
import Derived.Lib.Hide
namespace Go.Proofs.YtphkfnhmpngjpaaDoor
open Go.ChangeShapes Go.WideShapes Go.ChangeAt Go.RowKit Go.Sort

set_option maxRecDepth 100000 in
set_option maxHeartbeats 8000000 in
theorem lawCnt_any (xs : List Sit) (ds : List Dsc) (px py : Int) (A : Option Addr) (c : Nat) (B : Option Addr) (e : Nat) (w : World) (hxs : HasSit w xs A) (hds : HasDsc w ds B) (hdir : Dirs w) :
    Calls Tryd.prog 14 #[.slice A xs.length c, .slice B ds.length e, .agg #[.int .i64 px, .int .i64 py]] w fun e w' => e = .returned (.bool true) ∧ Below w.heap.size w w' := by
  have Hxs := Lib.hid (fun W (hB0 : Below w.heap.size w W) => hxs.below hB0)
  have Mxs := hxs.2.1
  have Hds := Lib.hid (fun W (hB0 : Below w.heap.size w W) => hds.below hB0)
  have Mds := hds.2.1
  have HZ0 := Lib.hid (fun W (hB0 : Below w.heap.size w W) => szSitS_any xs A c W (Hxs.out W hB0).1 (Hxs.out W hB0).2.1 (Hxs.out W hB0).2.2)
  rcases (show szSi xs < 0 ∨ ¬ szSi xs < 0 by omega) with hz0 | hz0
  · have hz := hz0
    generalize szSi xs = z0 at *
    have KN := Lib.hid (blks_one w 61 #[.int .i64 px, .int .i64 py])
    go_enter Tryd.func14, Tryd.ntmps14
    go_wp2_with fail
    generalize hW : (w.alloc (.cells #[.int .i64 px, .int .i64 py] 61)) = w0
    obtain ⟨kpt, bw, _⟩ := KN.out w0 hW.symm
    clear hW
    have SBpt := Lib.hid kpt; have SLpt := Lib.hid kpt.lt; clear kpt
    have B0 := Lib.hid bw; clear bw
    refine (HZ0.out w0 B0.out).mono ?_; rintro e w1 ⟨rfl, b1⟩
    have B1 := Lib.hid (B0.out.trans (b1.mono B0.out.size))
    have SBpt := Lib.hid (SBpt.out.below b1 SLpt.out); have SLpt := Lib.hid SBpt.out.lt
    obtain ⟨xpt0, xpt1⟩ := cells_2 SBpt.out
    clear b1
    go_wp2_with fail
    go_ret
    exact ⟨rfl, B1.out⟩
  have q0 := szSi_all (xs := xs) (by omega)
  have Nxs : xs.length ≤ 1048576 := q0.1
  have HZ1 := Lib.hid (fun W (hB0 : Below w.heap.size w W) => szDscS_any ds B e (szSi xs) (by omega) (by omega) W (Hds.out W hB0).1 (Hds.out W hB0).2.1 (Hds.out W hB0).2.2)
  rcases (show szDscS (szSi xs) ds < 0 ∨ ¬ szDscS (szSi xs) ds < 0 by omega) with hz1 | hz1
  · have hz := hz1
    generalize szDscS (szSi xs) ds = z1 at *
    generalize szSi xs = z0 at *
    have KN := Lib.hid (blks_one w 61 #[.int .i64 px, .int .i64 py])
    go_enter Tryd.func14, Tryd.ntmps14
    go_wp2_with fail
    generalize hW : (w.alloc (.cells #[.int .i64 px, .int .i64 py] 61)) = w0
    obtain ⟨kpt, bw, _⟩ := KN.out w0 hW.symm
    clear hW
    have SBpt := Lib.hid kpt; have SLpt := Lib.hid kpt.lt; clear kpt
    have B0 := Lib.hid bw; clear bw
    refine (HZ0.out w0 B0.out).mono ?_; rintro e w1 ⟨rfl, b1⟩
    have B1 := Lib.hid (B0.out.trans (b1.mono B0.out.size))
    have SBpt := Lib.hid (SBpt.out.below b1 SLpt.out); have SLpt := Lib.hid SBpt.out.lt
    obtain ⟨xpt0, xpt1⟩ := cells_2 SBpt.out
    clear b1
    go_wp2_with fail
    refine (HZ1.out w1 B1.out).mono ?_; rintro e w2 ⟨rfl, b2⟩
    have B2 := Lib.hid (B1.out.trans (b2.mono B1.out.size))
    have SBpt := Lib.hid (SBpt.out.below b2 SLpt.out); have SLpt := Lib.hid SBpt.out.lt
    obtain ⟨xpt0, xpt1⟩ := cells_2 SBpt.out
    clear b2
    go_wp2_with fail
    go_ret
    exact ⟨rfl, B2.out⟩
  have q1 := szDscS_pos (left := szSi xs) (xs := ds) (by omega) (by omega)
  have Nds : ds.length ≤ 1048576 := q1.1
  obtain ⟨va, vc, hres⟩ : ∃ va vc, Value.tuple #[.int .i64 (cntT xs ds px py).1, .int .i64 (cntT xs ds px py).2] = .tuple #[.int .i64 va, .int .i64 vc] := ⟨_, _, rfl⟩
  have HS := Lib.hid (show ∀ (A : Option Addr) (c : Nat) (B : Option Addr) (e : Nat) W, Below w.heap.size w W → HasSit W xs A → HasDsc W ds B → Calls Tryd.prog 52 #[.slice A xs.length c, .slice B ds.length e, .agg #[.int .i64 px, .int .i64 py]] W fun e w' => e = .returned (.tuple #[.int .i64 va, .int .i64 vc]) ∧ Below W.heap.size W w' from fun A c B e W hB0 rxs rds => by
    rw [← hres]; exact specCntS_any xs ds px py A B c e W rxs rds)
  have HI := Lib.hid (show ∀ (A' : Addr) (c : Nat) (B' : Addr) (e : Nat) W, Below w.heap.size w W → HasSit W xs (some A') → HasDsc W ds (some B') → Calls Tryd.prog 51 #[.slice (some A') xs.length c, .slice (some B') ds.length e, .agg #[.int .i64 px, .int .i64 py]] W fun e w' => e = .returned (.tuple #[.int .i64 va, .int .i64 vc]) ∧ Below W.heap.size W w' from fun A' c B' e W hB0 rxs rds => by
    rw [← hres]; exact implCntS_any xs ds px py (some A') (some B') c e W rxs rds (hdir.below hB0))
  clear hres
  have HTpt := Lib.hid (toPt_any px py)
  generalize szDscS (szSi xs) ds = z1 at *
  generalize szSi xs = z0 at *
  have KN := Lib.hid (blks_one w 61 #[.int .i64 px, .int .i64 py])
  go_enter Tryd.func14, Tryd.ntmps14
  go_wp2_with fail
  generalize hW : (w.alloc (.cells #[.int .i64 px, .int .i64 py] 61)) = w0
  obtain ⟨kpt, bw, _⟩ := KN.out w0 hW.symm
  clear hW
  have SBpt := Lib.hid kpt; have SLpt := Lib.hid kpt.lt; clear kpt
  have B0 := Lib.hid bw; clear bw
  refine (HZ0.out w0 B0.out).mono ?_; rintro e w1 ⟨rfl, b1⟩
  have B1 := Lib.hid (B0.out.trans (b1.mono B0.out.size))
  have SBpt := Lib.hid (SBpt.out.below b1 SLpt.out); have SLpt := Lib.hid SBpt.out.lt
  obtain ⟨xpt0, xpt1⟩ := cells_2 SBpt.out
  clear b1
  go_wp2_with fail
  refine (HZ1.out w1 B1.out).mono ?_; rintro e w2 ⟨rfl, b2⟩
  have B2 := Lib.hid (B1.out.trans (b2.mono B1.out.size))
  have SBpt := Lib.hid (SBpt.out.below b2 SLpt.out); have SLpt := Lib.hid SBpt.out.lt
  obtain ⟨xpt0, xpt1⟩ := cells_2 SBpt.out
  clear b2
  go_upto_region 8 with (fail)
  go_cut [8, 9] (fun v0 v1 wx => v0 = .int .i64 va ∧ v1 = .int .i64 vc ∧ Below w2.heap.size w2 wx)
  case first =>
    have Bd := (Below.refl w2.heap.size w2).drew
    go_region_held3 (fun w' => w'.cell? ⟨w.heap.size, 0, none⟩ = some (.int .i64 px) ∧ w'.cell? ⟨w.heap.size, 1, none⟩ = some (.int .i64 py))
      (first | exact ⟨kpt0, kpt1⟩ | (go_keep; done) | ((try dsimp only); (repeat' apply And.intro) <;> (go_keep; done)))
      (first | (go_at_call 21; refine (toSitS_any xs A c _ (by exact (Hxs.out _ (B2.out.trans (Bd.mono B2.out.size))).1) Nxs).mono ?_; rintro e wn ⟨rfl, hn, bn⟩; (have Bd := Bd.trans (bn.mono Bd.size)); (have Rxs := Lib.hid (show HasSit wn xs _ from ⟨blk_rd hn (siC_len xs), Mxs, (Hxs.out w (Below.refl _ _)).2.2⟩)); (try have Rds := Lib.hid (Rds.out.below bn)); have kpt0 := (Bd.cell (p := ⟨w.heap.size, 0, none⟩) SLpt.out).trans xpt0; have kpt1 := (Bd.cell (p := ⟨w.heap.size, 1, none⟩) SLpt.out).trans xpt1; clear hn bn) | (go_at_call 55; refine (toDscS_any ds B e _ (by exact (Hds.out _ (B2.out.trans (Bd.mono B2.out.size))).1) Nds).mono ?_; rintro e wn ⟨rfl, hn, bn⟩; (have Bd := Bd.trans (bn.mono Bd.size)); (have Rds := Lib.hid (show HasDsc wn ds _ from ⟨blk_rd hn (dsC_len ds), Mds, (Hds.out w (Below.refl _ _)).2.2⟩)); (try have Rxs := Lib.hid (Rxs.out.below bn)); have kpt0 := (Bd.cell (p := ⟨w.heap.size, 0, none⟩) SLpt.out).trans xpt0; have kpt1 := (Bd.cell (p := ⟨w.heap.size, 1, none⟩) SLpt.out).trans xpt1; clear hn bn) | (go_at_call 48; refine (HTpt.out _).mono ?_; rintro e wn ⟨rfl, bn⟩; (have Bd := Bd.trans (bn.mono Bd.size)); (try have Rxs := Lib.hid (Rxs.out.below bn)); (try have Rds := Lib.hid (Rds.out.below bn)); have kpt0 := (Bd.cell (p := ⟨w.heap.size, 0, none⟩) SLpt.out).trans xpt0; have kpt1 := (Bd.cell (p := ⟨w.heap.size, 1, none⟩) SLpt.out).trans xpt1; clear bn) | (go_at_call 52; refine (HS.out _ _ _ _ _ (B2.out.trans (Bd.mono B2.out.size)) Rxs.out Rds.out).mono ?_; rintro e wn ⟨rfl, bn⟩; (have Bd := Bd.trans (bn.mono Bd.size)); have kpt0 := (Bd.cell (p := ⟨w.heap.size, 0, none⟩) SLpt.out).trans xpt0; have kpt1 := (Bd.cell (p := ⟨w.heap.size, 1, none⟩) SLpt.out).trans xpt1; clear bn) | fail)
    all_goals
      go_wp2_with fail
      go_meet
      exact ⟨rfl, rfl, Bd⟩
  case rest =>
    obtain ⟨rfl, rfl, b3⟩ := hcut
    generalize wc = w3 at *
    clear wc
    have B3 := Lib.hid (B2.out.trans (b3.mono B2.out.size))
    have SBpt := Lib.hid (SBpt.out.below b3 SLpt.out); have SLpt := Lib.hid SBpt.out.lt
    obtain ⟨xpt0, xpt1⟩ := cells_2 SBpt.out
    clear b3
    go_wp2_with fail
    refine (toSitS_any xs A c w3 (Hxs.out _ B3.out).1 Nxs).mono ?_; rintro e w4 ⟨rfl, h4, b4⟩
    have B4 := Lib.hid (B3.out.trans (b4.mono B3.out.size))
    have SBpt := Lib.hid (SBpt.out.below b4 SLpt.out); have SLpt := Lib.hid SBpt.out.lt
    have Rxs := Lib.hid (show HasSit w4 xs _ from ⟨blk_rd h4 (siC_len xs), Mxs, (Hxs.out w (Below.refl _ _)).2.2⟩)
    obtain ⟨xpt0, xpt1⟩ := cells_2 SBpt.out
    clear b4 h4
    go_wp2_with fail
    refine (toDscS_any ds B e w4 (Hds.out _ B4.out).1 Nds).mono ?_; rintro e w5 ⟨rfl, h5, b5⟩
    have B5 := Lib.hid (B4.out.trans (b5.mono B4.out.size))
    have SBpt := Lib.hid (SBpt.out.below b5 SLpt.out); have SLpt := Lib.hid SBpt.out.lt
    have Rxs := Lib.hid (Rxs.out.below b5)
    have Rds := Lib.hid (show HasDsc w5 ds _ from ⟨blk_rd h5 (dsC_len ds), Mds, (Hds.out w (Below.refl _ _)).2.2⟩)
    obtain ⟨xpt0, xpt1⟩ := cells_2 SBpt.out
    clear b5 h5
    go_wp2_with fail
    refine (HTpt.out w5).mono ?_; rintro e w6 ⟨rfl, b6⟩
    have B6 := Lib.hid (B5.out.trans (b6.mono B5.out.size))
    have SBpt := Lib.hid (SBpt.out.below b6 SLpt.out); have SLpt := Lib.hid SBpt.out.lt
    obtain ⟨xpt0, xpt1⟩ := cells_2 SBpt.out
    have Rxs := Lib.hid (Rxs.out.below b6)
    have Rds := Lib.hid (Rds.out.below b6)
    clear b6
    go_wp2_with fail
    refine (HI.out _ _ _ _ w6 B6.out Rxs.out Rds.out).mono ?_; rintro e w7 ⟨rfl, b7⟩
    have B7 := Lib.hid (B6.out.trans (b7.mono B6.out.size))
    have SBpt := Lib.hid (SBpt.out.below b7 SLpt.out); have SLpt := Lib.hid SBpt.out.lt
    have Rxs := Lib.hid (Rxs.out.below b7)
    have Rds := Lib.hid (Rds.out.below b7)
    clear b7
    go_wp2_with fail
    refine (toSitS_any xs A c w7 (Hxs.out _ B7.out).1 Nxs).mono ?_; rintro e w8 ⟨rfl, h8, b8⟩
    have B8 := Lib.hid (B7.out.trans (b8.mono B7.out.size))
    have SBpt := Lib.hid (SBpt.out.below b8 SLpt.out); have SLpt := Lib.hid SBpt.out.lt
    have Rxs := Lib.hid (Rxs.out.below b8)
    have Rds := Lib.hid (Rds.out.below b8)
    have RF := Lib.hid (blk_rd h8 (siC_len xs)); clear h8 b8
    go_wp2_with fail
    refine (eqSitS_any xs xs _ _ _ _ w8 Rxs.out.1 RF.out Mxs).mono ?_; rw [decide_eq_true rfl]; rintro e w9 ⟨rfl, b9⟩
    have B9 := Lib.hid (B8.out.trans (b9.mono B8.out.size))
    have SBpt := Lib.hid (SBpt.out.below b9 SLpt.out); have SLpt := Lib.hid SBpt.out.lt
    have Rxs := Lib.hid (Rxs.out.below b9)
    have Rds := Lib.hid (Rds.out.below b9)
    clear b9 RF
    go_wp2_with fail
    refine (toDscS_any ds B e w9 (Hds.out _ B9.out).1 Nds).mono ?_; rintro e w10 ⟨rfl, h10, b10⟩
    have B10 := Lib.hid (B9.out.trans (b10.mono B9.out.size))
    have SBpt := Lib.hid (SBpt.out.below b10 SLpt.out); have SLpt := Lib.hid SBpt.out.lt
    have Rxs := Lib.hid (Rxs.out.below b10)
    have Rds := Lib.hid (Rds.out.below b10)
    have RF := Lib.hid (blk_rd h10 (dsC_len ds)); clear h10 b10
    go_wp2_with fail
    refine (eqDscS_any ds ds _ _ _ _ w10 Rds.out.1 RF.out Mds).mono ?_; rw [decide_eq_true rfl]; rintro e w11 ⟨rfl, b11⟩
    have B11 := Lib.hid (B10.out.trans (b11.mono B10.out.size))
    have SBpt := Lib.hid (SBpt.out.below b11 SLpt.out); have SLpt := Lib.hid SBpt.out.lt
    have Rxs := Lib.hid (Rxs.out.below b11)
    have Rds := Lib.hid (Rds.out.below b11)
    clear b11 RF
    go_wp2_with fail
    go_ret
    exact ⟨rfl, B11.out⟩
end Go.Proofs.YtphkfnhmpngjpaaDoor
