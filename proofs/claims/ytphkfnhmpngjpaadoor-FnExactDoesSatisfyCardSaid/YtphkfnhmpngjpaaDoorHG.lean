/- The law of DoesSatisfy returns true for all arguments: the walk of the law. -/
import Derived.Test.YtphkfnhmpngjpaaDoorRows
import Derived.Test.YtphkfnhmpngjpaaDoorL0
import Derived.Test.YtphkfnhmpngjpaaDoorM0
import Derived.WalkKit
import Derived.ProofKit
import Derived.OpenShut
import Derived.BigQuiet
import Derived.Outline
import Derived.WalkSpells
import Derived.WalkLawsBesides
import Derived.Deep.DeepCutAuto
import Derived.Test.YtphkfnhmpngjpaaDoorHF
import Derived.Test.YtphkfnhmpngjpaaDoorQ7
import Derived.Deep.RegionHeld3
import Derived.Deep.AppendLies
import Derived.Lib.Hide
namespace Go.Proofs.YtphkfnhmpngjpaaDoor
open Go.ChangeShapes Go.WideShapes Go.ChangeAt Go.RowKit Go.Sort

set_option maxRecDepth 100000 in
set_option maxHeartbeats 8000000 in
theorem lawDoes_any (xs : List Sit) (ds : Dsc) (hds : ds.Ok) (px py : Int) (A : Option Addr) (c : Nat) (w : World) (hxs : HasSit w xs A) (hdir : Dirs w) :
    Calls Tryd.prog 12 #[.slice A xs.length c, .agg #[.int .i64 ds.kind, .int .i64 ds.count, .string ds.unit, .int .i64 ds.dir, .string ds.a, .string ds.b], .agg #[.int .i64 px, .int .i64 py]] w fun e w' => e = .returned (.bool true) ∧ Below w.heap.size w w' := by
  have Hxs := Lib.hid (fun W (hB0 : Below w.heap.size w W) => hxs.below hB0)
  have Mxs := hxs.2.1
  have HZ0 := Lib.hid (fun W (hB0 : Below w.heap.size w W) => szSitS_any xs A c W (Hxs.out W hB0).1 (Hxs.out W hB0).2.1 (Hxs.out W hB0).2.2)
  rcases (show szSi xs < 0 ∨ ¬ szSi xs < 0 by omega) with hz0 | hz0
  · have hz := hz0
    generalize szSi xs = z0 at *
    have KN := Lib.hid (blks_two w 23 61 #[.int .i64 ds.kind, .int .i64 ds.count, .string ds.unit, .int .i64 ds.dir, .string ds.a, .string ds.b] #[.int .i64 px, .int .i64 py])
    go_enter Tryd.func12, Tryd.ntmps12
    go_wp2_with fail
    generalize hW : ((w.alloc (.cells #[.int .i64 ds.kind, .int .i64 ds.count, .string ds.unit, .int .i64 ds.dir, .string ds.a, .string ds.b] 23)).alloc (.cells #[.int .i64 px, .int .i64 py] 61)) = w0
    obtain ⟨kds, kpt, bw, _⟩ := KN.out w0 hW.symm
    clear hW
    have SBds := Lib.hid kds; have SLds := Lib.hid kds.lt; clear kds
    have SBpt := Lib.hid kpt; have SLpt := Lib.hid kpt.lt; clear kpt
    have B0 := Lib.hid bw; clear bw
    refine (HZ0.out w0 B0.out).mono ?_; rintro e w1 ⟨rfl, b1⟩
    have B1 := Lib.hid (B0.out.trans (b1.mono B0.out.size))
    have SBds := Lib.hid (SBds.out.below b1 SLds.out); have SLds := Lib.hid SBds.out.lt
    have SBpt := Lib.hid (SBpt.out.below b1 SLpt.out); have SLpt := Lib.hid SBpt.out.lt
    obtain ⟨xds0, xds1, xds2, xds3, xds4, xds5⟩ := cells_6 SBds.out
    obtain ⟨xpt0, xpt1⟩ := cells_2 SBpt.out
    clear b1
    go_wp2_with fail
    go_ret
    exact ⟨rfl, B1.out⟩
  have q0 := szSi_all (xs := xs) (by omega)
  have Nxs : xs.length ≤ 1048576 := q0.1
  have HZ1 := Lib.hid (fun W (hB0 : Below w.heap.size w W) => szDsc_any ds hds (szSi xs) (by omega) (by omega) W)
  unfold Dsc.val at HZ1
  rcases (show szDsc (szSi xs) ds < 0 ∨ ¬ szDsc (szSi xs) ds < 0 by omega) with hz1 | hz1
  · have hz := hz1
    generalize szDsc (szSi xs) ds = z1 at *
    generalize szSi xs = z0 at *
    have KN := Lib.hid (blks_two w 23 61 #[.int .i64 ds.kind, .int .i64 ds.count, .string ds.unit, .int .i64 ds.dir, .string ds.a, .string ds.b] #[.int .i64 px, .int .i64 py])
    go_enter Tryd.func12, Tryd.ntmps12
    go_wp2_with fail
    generalize hW : ((w.alloc (.cells #[.int .i64 ds.kind, .int .i64 ds.count, .string ds.unit, .int .i64 ds.dir, .string ds.a, .string ds.b] 23)).alloc (.cells #[.int .i64 px, .int .i64 py] 61)) = w0
    obtain ⟨kds, kpt, bw, _⟩ := KN.out w0 hW.symm
    clear hW
    have SBds := Lib.hid kds; have SLds := Lib.hid kds.lt; clear kds
    have SBpt := Lib.hid kpt; have SLpt := Lib.hid kpt.lt; clear kpt
    have B0 := Lib.hid bw; clear bw
    refine (HZ0.out w0 B0.out).mono ?_; rintro e w1 ⟨rfl, b1⟩
    have B1 := Lib.hid (B0.out.trans (b1.mono B0.out.size))
    have SBds := Lib.hid (SBds.out.below b1 SLds.out); have SLds := Lib.hid SBds.out.lt
    have SBpt := Lib.hid (SBpt.out.below b1 SLpt.out); have SLpt := Lib.hid SBpt.out.lt
    obtain ⟨xds0, xds1, xds2, xds3, xds4, xds5⟩ := cells_6 SBds.out
    obtain ⟨xpt0, xpt1⟩ := cells_2 SBpt.out
    clear b1
    go_wp2_with fail
    refine (HZ1.out w1 B1.out).mono ?_; rintro e w2 ⟨rfl, b2⟩
    have B2 := Lib.hid (B1.out.trans (b2.mono B1.out.size))
    have SBds := Lib.hid (SBds.out.below b2 SLds.out); have SLds := Lib.hid SBds.out.lt
    have SBpt := Lib.hid (SBpt.out.below b2 SLpt.out); have SLpt := Lib.hid SBpt.out.lt
    obtain ⟨xds0, xds1, xds2, xds3, xds4, xds5⟩ := cells_6 SBds.out
    obtain ⟨xpt0, xpt1⟩ := cells_2 SBpt.out
    clear b2
    go_wp2_with fail
    go_ret
    exact ⟨rfl, B2.out⟩
  have q1 := szDsc_pos (left := szSi xs) (b := ds) (by omega)
  obtain ⟨va, vc, hres⟩ : ∃ va vc, Value.tuple #[.bool (doesT xs ds px py).1, .int .i64 (doesT xs ds px py).2] = .tuple #[.bool va, .int .i64 vc] := ⟨_, _, rfl⟩
  have HS := Lib.hid (show ∀ (A : Option Addr) (c : Nat) W, Below w.heap.size w W → HasSit W xs A → Calls Tryd.prog 47 #[.slice A xs.length c, .agg #[.int .i64 ds.kind, .int .i64 ds.count, .string ds.unit, .int .i64 ds.dir, .string ds.a, .string ds.b], .agg #[.int .i64 px, .int .i64 py]] W fun e w' => e = .returned (.tuple #[.bool va, .int .i64 vc]) ∧ Below W.heap.size W w' from fun A c W hB0 rxs => by
    rw [← hres]; exact specDoes_any xs ds hds px py A c W rxs)
  have HI := Lib.hid (show ∀ (A' : Addr) (c : Nat) W, Below w.heap.size w W → HasSit W xs (some A') → Calls Tryd.prog 49 #[.slice (some A') xs.length c, .agg #[.int .i64 ds.kind, .int .i64 ds.count, .string ds.unit, .int .i64 ds.dir, .string ds.a, .string ds.b], .agg #[.int .i64 px, .int .i64 py]] W fun e w' => e = .returned (.tuple #[.bool va, .int .i64 vc]) ∧ Below W.heap.size W w' from fun A' c W hB0 rxs => by
    rw [← hres]; exact implDoes_any xs ds hds px py (some A') c W rxs (hdir.below hB0))
  clear hres
  have HTds := Lib.hid (toD_any ds)
  unfold Dsc.val at HTds
  have HTpt := Lib.hid (toPt_any px py)
  generalize szDsc (szSi xs) ds = z1 at *
  generalize szSi xs = z0 at *
  have KN := Lib.hid (blks_two w 23 61 #[.int .i64 ds.kind, .int .i64 ds.count, .string ds.unit, .int .i64 ds.dir, .string ds.a, .string ds.b] #[.int .i64 px, .int .i64 py])
  go_enter Tryd.func12, Tryd.ntmps12
  go_wp2_with fail
  generalize hW : ((w.alloc (.cells #[.int .i64 ds.kind, .int .i64 ds.count, .string ds.unit, .int .i64 ds.dir, .string ds.a, .string ds.b] 23)).alloc (.cells #[.int .i64 px, .int .i64 py] 61)) = w0
  obtain ⟨kds, kpt, bw, _⟩ := KN.out w0 hW.symm
  clear hW
  have SBds := Lib.hid kds; have SLds := Lib.hid kds.lt; clear kds
  have SBpt := Lib.hid kpt; have SLpt := Lib.hid kpt.lt; clear kpt
  have B0 := Lib.hid bw; clear bw
  refine (HZ0.out w0 B0.out).mono ?_; rintro e w1 ⟨rfl, b1⟩
  have B1 := Lib.hid (B0.out.trans (b1.mono B0.out.size))
  have SBds := Lib.hid (SBds.out.below b1 SLds.out); have SLds := Lib.hid SBds.out.lt
  have SBpt := Lib.hid (SBpt.out.below b1 SLpt.out); have SLpt := Lib.hid SBpt.out.lt
  obtain ⟨xds0, xds1, xds2, xds3, xds4, xds5⟩ := cells_6 SBds.out
  obtain ⟨xpt0, xpt1⟩ := cells_2 SBpt.out
  clear b1
  go_wp2_with fail
  refine (HZ1.out w1 B1.out).mono ?_; rintro e w2 ⟨rfl, b2⟩
  have B2 := Lib.hid (B1.out.trans (b2.mono B1.out.size))
  have SBds := Lib.hid (SBds.out.below b2 SLds.out); have SLds := Lib.hid SBds.out.lt
  have SBpt := Lib.hid (SBpt.out.below b2 SLpt.out); have SLpt := Lib.hid SBpt.out.lt
  obtain ⟨xds0, xds1, xds2, xds3, xds4, xds5⟩ := cells_6 SBds.out
  obtain ⟨xpt0, xpt1⟩ := cells_2 SBpt.out
  clear b2
  go_upto_region 8 with (fail)
  go_cut [8, 9] (fun v0 v1 wx => v0 = .bool va ∧ v1 = .int .i64 vc ∧ Below w2.heap.size w2 wx)
  case first =>
    have Bd := (Below.refl w2.heap.size w2).drew
    go_region_held3 (fun w' => w'.cell? ⟨w.heap.size, 0, none⟩ = some (.int .i64 ds.kind) ∧ w'.cell? ⟨w.heap.size, 1, none⟩ = some (.int .i64 ds.count) ∧ w'.cell? ⟨w.heap.size, 2, none⟩ = some (.string ds.unit) ∧ w'.cell? ⟨w.heap.size, 3, none⟩ = some (.int .i64 ds.dir) ∧ w'.cell? ⟨w.heap.size, 4, none⟩ = some (.string ds.a) ∧ w'.cell? ⟨w.heap.size, 5, none⟩ = some (.string ds.b) ∧ w'.cell? ⟨w.heap.size + 1, 0, none⟩ = some (.int .i64 px) ∧ w'.cell? ⟨w.heap.size + 1, 1, none⟩ = some (.int .i64 py))
      (first | exact ⟨kds0, kds1, kds2, kds3, kds4, kds5, kpt0, kpt1⟩ | (go_keep; done) | ((try dsimp only); (repeat' apply And.intro) <;> (go_keep; done)))
      (first | (go_at_call 21; refine (toSitS_any xs A c _ (by exact (Hxs.out _ (B2.out.trans (Bd.mono B2.out.size))).1) Nxs).mono ?_; rintro e wn ⟨rfl, hn, bn⟩; (have Bd := Bd.trans (bn.mono Bd.size)); (have Rxs := Lib.hid (show HasSit wn xs _ from ⟨blk_rd hn (siC_len xs), Mxs, (Hxs.out w (Below.refl _ _)).2.2⟩)); have kds0 := (Bd.cell (p := ⟨w.heap.size, 0, none⟩) SLds.out).trans xds0; have kds1 := (Bd.cell (p := ⟨w.heap.size, 1, none⟩) SLds.out).trans xds1; have kds2 := (Bd.cell (p := ⟨w.heap.size, 2, none⟩) SLds.out).trans xds2; have kds3 := (Bd.cell (p := ⟨w.heap.size, 3, none⟩) SLds.out).trans xds3; have kds4 := (Bd.cell (p := ⟨w.heap.size, 4, none⟩) SLds.out).trans xds4; have kds5 := (Bd.cell (p := ⟨w.heap.size, 5, none⟩) SLds.out).trans xds5; have kpt0 := (Bd.cell (p := ⟨w.heap.size + 1, 0, none⟩) SLpt.out).trans xpt0; have kpt1 := (Bd.cell (p := ⟨w.heap.size + 1, 1, none⟩) SLpt.out).trans xpt1; clear hn bn) | (go_at_call 17; refine (HTds.out _).mono ?_; rintro e wn ⟨rfl, bn⟩; (have Bd := Bd.trans (bn.mono Bd.size)); (try have Rxs := Lib.hid (Rxs.out.below bn)); have kds0 := (Bd.cell (p := ⟨w.heap.size, 0, none⟩) SLds.out).trans xds0; have kds1 := (Bd.cell (p := ⟨w.heap.size, 1, none⟩) SLds.out).trans xds1; have kds2 := (Bd.cell (p := ⟨w.heap.size, 2, none⟩) SLds.out).trans xds2; have kds3 := (Bd.cell (p := ⟨w.heap.size, 3, none⟩) SLds.out).trans xds3; have kds4 := (Bd.cell (p := ⟨w.heap.size, 4, none⟩) SLds.out).trans xds4; have kds5 := (Bd.cell (p := ⟨w.heap.size, 5, none⟩) SLds.out).trans xds5; have kpt0 := (Bd.cell (p := ⟨w.heap.size + 1, 0, none⟩) SLpt.out).trans xpt0; have kpt1 := (Bd.cell (p := ⟨w.heap.size + 1, 1, none⟩) SLpt.out).trans xpt1; clear bn) | (go_at_call 48; refine (HTpt.out _).mono ?_; rintro e wn ⟨rfl, bn⟩; (have Bd := Bd.trans (bn.mono Bd.size)); (try have Rxs := Lib.hid (Rxs.out.below bn)); have kds0 := (Bd.cell (p := ⟨w.heap.size, 0, none⟩) SLds.out).trans xds0; have kds1 := (Bd.cell (p := ⟨w.heap.size, 1, none⟩) SLds.out).trans xds1; have kds2 := (Bd.cell (p := ⟨w.heap.size, 2, none⟩) SLds.out).trans xds2; have kds3 := (Bd.cell (p := ⟨w.heap.size, 3, none⟩) SLds.out).trans xds3; have kds4 := (Bd.cell (p := ⟨w.heap.size, 4, none⟩) SLds.out).trans xds4; have kds5 := (Bd.cell (p := ⟨w.heap.size, 5, none⟩) SLds.out).trans xds5; have kpt0 := (Bd.cell (p := ⟨w.heap.size + 1, 0, none⟩) SLpt.out).trans xpt0; have kpt1 := (Bd.cell (p := ⟨w.heap.size + 1, 1, none⟩) SLpt.out).trans xpt1; clear bn) | (go_at_call 47; refine (HS.out _ _ _ (B2.out.trans (Bd.mono B2.out.size)) Rxs.out).mono ?_; rintro e wn ⟨rfl, bn⟩; (have Bd := Bd.trans (bn.mono Bd.size)); have kds0 := (Bd.cell (p := ⟨w.heap.size, 0, none⟩) SLds.out).trans xds0; have kds1 := (Bd.cell (p := ⟨w.heap.size, 1, none⟩) SLds.out).trans xds1; have kds2 := (Bd.cell (p := ⟨w.heap.size, 2, none⟩) SLds.out).trans xds2; have kds3 := (Bd.cell (p := ⟨w.heap.size, 3, none⟩) SLds.out).trans xds3; have kds4 := (Bd.cell (p := ⟨w.heap.size, 4, none⟩) SLds.out).trans xds4; have kds5 := (Bd.cell (p := ⟨w.heap.size, 5, none⟩) SLds.out).trans xds5; have kpt0 := (Bd.cell (p := ⟨w.heap.size + 1, 0, none⟩) SLpt.out).trans xpt0; have kpt1 := (Bd.cell (p := ⟨w.heap.size + 1, 1, none⟩) SLpt.out).trans xpt1; clear bn) | fail)
    all_goals
      go_wp2_with fail
      go_meet
      exact ⟨rfl, rfl, Bd⟩
  case rest =>
    obtain ⟨rfl, rfl, b3⟩ := hcut
    generalize wc = w3 at *
    clear wc
    have B3 := Lib.hid (B2.out.trans (b3.mono B2.out.size))
    have SBds := Lib.hid (SBds.out.below b3 SLds.out); have SLds := Lib.hid SBds.out.lt
    have SBpt := Lib.hid (SBpt.out.below b3 SLpt.out); have SLpt := Lib.hid SBpt.out.lt
    obtain ⟨xds0, xds1, xds2, xds3, xds4, xds5⟩ := cells_6 SBds.out
    obtain ⟨xpt0, xpt1⟩ := cells_2 SBpt.out
    clear b3
    go_wp2_with fail
    refine (toSitS_any xs A c w3 (Hxs.out _ B3.out).1 Nxs).mono ?_; rintro e w4 ⟨rfl, h4, b4⟩
    have B4 := Lib.hid (B3.out.trans (b4.mono B3.out.size))
    have SBds := Lib.hid (SBds.out.below b4 SLds.out); have SLds := Lib.hid SBds.out.lt
    have SBpt := Lib.hid (SBpt.out.below b4 SLpt.out); have SLpt := Lib.hid SBpt.out.lt
    have Rxs := Lib.hid (show HasSit w4 xs _ from ⟨blk_rd h4 (siC_len xs), Mxs, (Hxs.out w (Below.refl _ _)).2.2⟩)
    obtain ⟨xds0, xds1, xds2, xds3, xds4, xds5⟩ := cells_6 SBds.out
    obtain ⟨xpt0, xpt1⟩ := cells_2 SBpt.out
    clear b4 h4
    go_upto_region 10 with (fail)
    have gds0 := cell_regrown xds0
    have gds1 := cell_regrown xds1
    have gds2 := cell_regrown xds2
    have gds3 := cell_regrown xds3
    have gds4 := cell_regrown xds4
    have gds5 := cell_regrown xds5
    have r1 : ∀ d os, Calls Tryd.prog 17 #[.agg #[.int .i64 ds.kind, .int .i64 ds.count, .string ds.unit, .int .i64 ds.dir, .string ds.a, .string ds.b]] (grow (redrawn w4 d) os) (fun e w'' => e = .returned (.agg #[.int .i64 ds.kind, .int .i64 ds.count, .string ds.unit, .int .i64 ds.dir, .string ds.a, .string ds.b]) ∧ ∃ p : Regrown, w'' = grow (redrawn w4 p.d) p.os) := fun d os => Calls.regrown_of (HTds.out _)
    have gpt0 := cell_regrown xpt0
    have gpt1 := cell_regrown xpt1
    have r2 : ∀ d os, Calls Tryd.prog 48 #[.agg #[.int .i64 px, .int .i64 py]] (grow (redrawn w4 d) os) (fun e w'' => e = .returned (.agg #[.int .i64 px, .int .i64 py]) ∧ ∃ p : Regrown, w'' = grow (redrawn w4 p.d) p.os) := fun d os => Calls.regrown_of (HTpt.out _)
    have r3 := fun (d : Nat) (os : Array Obj) => Calls.regrown_of (HI.out _ xs.length (grow (redrawn w4 d) os) (B4.out.trans ((below_regrown w4 d os).mono B4.out.size)) (Rxs.out.below (below_regrown w4 d os)))
    clear xds0 xds1 xds2 xds3 xds4 xds5 xpt0 xpt1
    refine wp_region_quiet_below (by kernel_rfl) (by kernel_rfl) ?_; (repeat (first | go_big_quiet_step ((first | with_reducible exact r1 _ _ | with_reducible exact r2 _ _ | with_reducible exact r3 _ _)))); refine wpQuiet_nil ?_; intro _ hw'; obtain ⟨⟨dq, osq⟩, rfl⟩ := hw'
    have b5 := below_regrown w4 dq osq
    generalize grow (redrawn w4 dq) osq = w5 at *
    clear r1 r2 r3 gds0 gds1 gds2 gds3 gds4 gds5 gpt0 gpt1
    have B5 := Lib.hid (B4.out.trans (b5.mono B4.out.size))
    have SBds := Lib.hid (SBds.out.below b5 SLds.out); have SLds := Lib.hid SBds.out.lt
    have SBpt := Lib.hid (SBpt.out.below b5 SLpt.out); have SLpt := Lib.hid SBpt.out.lt
    have Rxs := Lib.hid (Rxs.out.below b5)
    clear b5
    go_wp2_with fail
    refine (toSitS_any xs A c w5 (Hxs.out _ B5.out).1 Nxs).mono ?_; rintro e w6 ⟨rfl, h6, b6⟩
    have B6 := Lib.hid (B5.out.trans (b6.mono B5.out.size))
    have SBds := Lib.hid (SBds.out.below b6 SLds.out); have SLds := Lib.hid SBds.out.lt
    have SBpt := Lib.hid (SBpt.out.below b6 SLpt.out); have SLpt := Lib.hid SBpt.out.lt
    have Rxs := Lib.hid (Rxs.out.below b6)
    have RF := Lib.hid (blk_rd h6 (siC_len xs)); clear h6 b6
    go_wp2_with fail
    refine (eqSitS_any xs xs _ _ _ _ w6 Rxs.out.1 RF.out Mxs).mono ?_; rw [decide_eq_true rfl]; rintro e w7 ⟨rfl, b7⟩
    have B7 := Lib.hid (B6.out.trans (b7.mono B6.out.size))
    have SBds := Lib.hid (SBds.out.below b7 SLds.out); have SLds := Lib.hid SBds.out.lt
    have SBpt := Lib.hid (SBpt.out.below b7 SLpt.out); have SLpt := Lib.hid SBpt.out.lt
    have Rxs := Lib.hid (Rxs.out.below b7)
    clear b7 RF
    go_wp2_with fail
    go_ret
    exact ⟨rfl, B7.out⟩
end Go.Proofs.YtphkfnhmpngjpaaDoor
