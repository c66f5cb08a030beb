/- The law of IsCertain returns true for all arguments: the walk of the law. -/
import Derived.Test.YthlpclnfnfbeiaaGreatDoorRows
import Derived.Test.YthlpclnfnfbeiaaGreatDoorL0
import Derived.Test.YthlpclnfnfbeiaaGreatDoorM0
import Derived.WalkKit
import Derived.ProofKit
import Derived.OpenShut
import Derived.BigQuiet
import Derived.Outline
import Derived.WalkSpells
import Derived.WalkLawsBesides
import Derived.Deep.DeepCutAuto
import Derived.Test.YthlpclnfnfbeiaaGreatDoorMB
import Derived.Test.YthlpclnfnfbeiaaGreatDoorPC
import Derived.Deep.RegionHeld3
import Derived.Deep.AppendLies
import Derived.Lib.Hide
namespace Go.Proofs.YthlpclnfnfbeiaaGreatDoor
open Go.ChangeShapes Go.WideShapes Go.ChangeAt Go.RowKit Go.Sort

set_option maxRecDepth 100000 in
set_option maxHeartbeats 8000000 in
theorem lawIsCertain_any (xs : List Clm) (f : Fct) (hf : f.Ok) (A : Option Addr) (c : Nat) (w : World) (hxs : HasClm w xs A) :
    Calls Tryz.prog 6 #[.slice A xs.length c, .agg #[.int .i64 f.kind, .string f.place, .string f.val_, .int .i64 f.year]] w fun e w' => e = .returned (.bool true) ∧ Below w.heap.size w w' := by
  have Hxs := Lib.hid (fun W (hB0 : Below w.heap.size w W) => hxs.below hB0)
  have Mxs := hxs.2.1
  have HZ0 := Lib.hid (fun W (hB0 : Below w.heap.size w W) => szClmS_any xs A c (1048576) (by omega) (by omega) W (Hxs.out W hB0).1 (Hxs.out W hB0).2.1 (Hxs.out W hB0).2.2)
  rcases (show szClmS (1048576) xs < 0 ∨ ¬ szClmS (1048576) xs < 0 by omega) with hz0 | hz0
  · have hz := hz0
    generalize szClmS (1048576) xs = z0 at *
    have KN := Lib.hid (blks_one w 24 #[.int .i64 f.kind, .string f.place, .string f.val_, .int .i64 f.year])
    go_enter Tryz.func6, Tryz.ntmps6
    go_wp2_with fail
    generalize hW : (w.alloc (.cells #[.int .i64 f.kind, .string f.place, .string f.val_, .int .i64 f.year] 24)) = w0
    obtain ⟨kf, bw, _⟩ := KN.out w0 hW.symm
    clear hW
    have SBf := Lib.hid kf; have SLf := Lib.hid kf.lt; clear kf
    have B0 := Lib.hid bw; clear bw
    refine (HZ0.out w0 B0.out).mono ?_; rintro e w1 ⟨rfl, b1⟩
    have B1 := Lib.hid (B0.out.trans (b1.mono B0.out.size))
    have SBf := Lib.hid (SBf.out.below b1 SLf.out); have SLf := Lib.hid SBf.out.lt
    obtain ⟨xf0, xf1, xf2, xf3⟩ := cells_4 SBf.out
    clear b1
    go_wp2_with fail
    go_ret
    exact ⟨rfl, B1.out⟩
  have q0 := szClmS_pos (left := 1048576) (xs := xs) (by omega) (by omega)
  have Nxs : xs.length ≤ 1048576 := q0.1
  have HZ1 := Lib.hid (fun W (hB0 : Below w.heap.size w W) => szFct_any f hf (szClmS (1048576) xs) (by omega) (by omega) W)
  unfold Fct.val at HZ1
  rcases (show szFct (szClmS (1048576) xs) f < 0 ∨ ¬ szFct (szClmS (1048576) xs) f < 0 by omega) with hz1 | hz1
  · have hz := hz1
    generalize szFct (szClmS (1048576) xs) f = z1 at *
    generalize szClmS (1048576) xs = z0 at *
    have KN := Lib.hid (blks_one w 24 #[.int .i64 f.kind, .string f.place, .string f.val_, .int .i64 f.year])
    go_enter Tryz.func6, Tryz.ntmps6
    go_wp2_with fail
    generalize hW : (w.alloc (.cells #[.int .i64 f.kind, .string f.place, .string f.val_, .int .i64 f.year] 24)) = w0
    obtain ⟨kf, bw, _⟩ := KN.out w0 hW.symm
    clear hW
    have SBf := Lib.hid kf; have SLf := Lib.hid kf.lt; clear kf
    have B0 := Lib.hid bw; clear bw
    refine (HZ0.out w0 B0.out).mono ?_; rintro e w1 ⟨rfl, b1⟩
    have B1 := Lib.hid (B0.out.trans (b1.mono B0.out.size))
    have SBf := Lib.hid (SBf.out.below b1 SLf.out); have SLf := Lib.hid SBf.out.lt
    obtain ⟨xf0, xf1, xf2, xf3⟩ := cells_4 SBf.out
    clear b1
    go_wp2_with fail
    refine (HZ1.out w1 B1.out).mono ?_; rintro e w2 ⟨rfl, b2⟩
    have B2 := Lib.hid (B1.out.trans (b2.mono B1.out.size))
    have SBf := Lib.hid (SBf.out.below b2 SLf.out); have SLf := Lib.hid SBf.out.lt
    obtain ⟨xf0, xf1, xf2, xf3⟩ := cells_4 SBf.out
    clear b2
    go_wp2_with fail
    go_ret
    exact ⟨rfl, B2.out⟩
  have q1 := szFct_pos (left := szClmS (1048576) xs) (b := f) (by omega)
  obtain ⟨va, vc, hres⟩ : ∃ va vc, Value.tuple #[.bool (cerV xs f), .int .i64 (codeF xs f)] = .tuple #[.bool va, .int .i64 vc] := ⟨_, _, rfl⟩
  have HS := Lib.hid (show ∀ (A : Option Addr) (c : Nat) W, Below w.heap.size w W → HasClm W xs A → Calls Tryz.prog 17 #[.slice A xs.length c, .agg #[.int .i64 f.kind, .string f.place, .string f.val_, .int .i64 f.year]] W fun e w' => e = .returned (.tuple #[.bool va, .int .i64 vc]) ∧ Below W.heap.size W w' from fun A c W hB0 rxs => by
    rw [← hres]; exact specIsCertain_any xs f (fun b hb => q0.2.1 b hb) ⟨by omega, by omega⟩ A c W rxs)
  have HI := Lib.hid (show ∀ (A' : Addr) (c : Nat) W, Below w.heap.size w W → HasClm W xs (some A') → Calls Tryz.prog 16 #[.slice (some A') xs.length c, .agg #[.int .i64 f.kind, .string f.place, .string f.val_, .int .i64 f.year]] W fun e w' => e = .returned (.tuple #[.bool va, .int .i64 vc]) ∧ Below W.heap.size W w' from fun A' c W hB0 rxs => by
    rw [← hres]; exact implIsCertain_any xs f (fun b hb => q0.2.1 b hb) ⟨by omega, by omega⟩ (some A') c W rxs)
  clear hres
  have HTf := Lib.hid (toFct_any f)
  unfold Fct.val at HTf
  generalize szFct (szClmS (1048576) xs) f = z1 at *
  generalize szClmS (1048576) xs = z0 at *
  have KN := Lib.hid (blks_one w 24 #[.int .i64 f.kind, .string f.place, .string f.val_, .int .i64 f.year])
  go_enter Tryz.func6, Tryz.ntmps6
  go_wp2_with fail
  generalize hW : (w.alloc (.cells #[.int .i64 f.kind, .string f.place, .string f.val_, .int .i64 f.year] 24)) = w0
  obtain ⟨kf, bw, _⟩ := KN.out w0 hW.symm
  clear hW
  have SBf := Lib.hid kf; have SLf := Lib.hid kf.lt; clear kf
  have B0 := Lib.hid bw; clear bw
  refine (HZ0.out w0 B0.out).mono ?_; rintro e w1 ⟨rfl, b1⟩
  have B1 := Lib.hid (B0.out.trans (b1.mono B0.out.size))
  have SBf := Lib.hid (SBf.out.below b1 SLf.out); have SLf := Lib.hid SBf.out.lt
  obtain ⟨xf0, xf1, xf2, xf3⟩ := cells_4 SBf.out
  clear b1
  go_wp2_with fail
  refine (HZ1.out w1 B1.out).mono ?_; rintro e w2 ⟨rfl, b2⟩
  have B2 := Lib.hid (B1.out.trans (b2.mono B1.out.size))
  have SBf := Lib.hid (SBf.out.below b2 SLf.out); have SLf := Lib.hid SBf.out.lt
  obtain ⟨xf0, xf1, xf2, xf3⟩ := cells_4 SBf.out
  clear b2
  go_upto_region 8 with (fail)
  go_cut [6, 7] (fun v0 v1 wx => v0 = .bool va ∧ v1 = .int .i64 vc ∧ Below w2.heap.size w2 wx)
  case first =>
    have Bd := (Below.refl w2.heap.size w2).drew
    go_region_held3 (fun w' => w'.cell? ⟨w.heap.size, 0, none⟩ = some (.int .i64 f.kind) ∧ w'.cell? ⟨w.heap.size, 1, none⟩ = some (.string f.place) ∧ w'.cell? ⟨w.heap.size, 2, none⟩ = some (.string f.val_) ∧ w'.cell? ⟨w.heap.size, 3, none⟩ = some (.int .i64 f.year))
      (first | exact ⟨kf0, kf1, kf2, kf3⟩ | (go_keep; done) | ((try dsimp only); (repeat' apply And.intro) <;> (go_keep; done)))
      (first | (go_at_call 10; refine (toClmS_any xs A c _ (by exact (Hxs.out _ (B2.out.trans (Bd.mono B2.out.size))).1) Nxs).mono ?_; rintro e wn ⟨rfl, hn, bn⟩; (have Bd := Bd.trans (bn.mono Bd.size)); (have Rxs := Lib.hid (show HasClm wn xs _ from ⟨blk_rd hn (clC_len xs), Mxs, (Hxs.out w (Below.refl _ _)).2.2⟩)); have kf0 := (Bd.cell (p := ⟨w.heap.size, 0, none⟩) SLf.out).trans xf0; have kf1 := (Bd.cell (p := ⟨w.heap.size, 1, none⟩) SLf.out).trans xf1; have kf2 := (Bd.cell (p := ⟨w.heap.size, 2, none⟩) SLf.out).trans xf2; have kf3 := (Bd.cell (p := ⟨w.heap.size, 3, none⟩) SLf.out).trans xf3; clear hn bn) | (go_at_call 11; refine (HTf.out _).mono ?_; rintro e wn ⟨rfl, bn⟩; (have Bd := Bd.trans (bn.mono Bd.size)); (try have Rxs := Lib.hid (Rxs.out.below bn)); have kf0 := (Bd.cell (p := ⟨w.heap.size, 0, none⟩) SLf.out).trans xf0; have kf1 := (Bd.cell (p := ⟨w.heap.size, 1, none⟩) SLf.out).trans xf1; have kf2 := (Bd.cell (p := ⟨w.heap.size, 2, none⟩) SLf.out).trans xf2; have kf3 := (Bd.cell (p := ⟨w.heap.size, 3, none⟩) SLf.out).trans xf3; clear bn) | (go_at_call 17; refine (HS.out _ _ _ (B2.out.trans (Bd.mono B2.out.size)) Rxs.out).mono ?_; rintro e wn ⟨rfl, bn⟩; (have Bd := Bd.trans (bn.mono Bd.size)); have kf0 := (Bd.cell (p := ⟨w.heap.size, 0, none⟩) SLf.out).trans xf0; have kf1 := (Bd.cell (p := ⟨w.heap.size, 1, none⟩) SLf.out).trans xf1; have kf2 := (Bd.cell (p := ⟨w.heap.size, 2, none⟩) SLf.out).trans xf2; have kf3 := (Bd.cell (p := ⟨w.heap.size, 3, none⟩) SLf.out).trans xf3; clear bn) | fail)
    all_goals
      go_wp2_with fail
      go_meet
      exact ⟨rfl, rfl, Bd⟩
  case rest =>
    obtain ⟨rfl, rfl, b3⟩ := hcut
    generalize wc = w3 at *
    clear wc
    have B3 := Lib.hid (B2.out.trans (b3.mono B2.out.size))
    have SBf := Lib.hid (SBf.out.below b3 SLf.out); have SLf := Lib.hid SBf.out.lt
    obtain ⟨xf0, xf1, xf2, xf3⟩ := cells_4 SBf.out
    clear b3
    go_wp2_with fail
    refine (toClmS_any xs A c w3 (Hxs.out _ B3.out).1 Nxs).mono ?_; rintro e w4 ⟨rfl, h4, b4⟩
    have B4 := Lib.hid (B3.out.trans (b4.mono B3.out.size))
    have SBf := Lib.hid (SBf.out.below b4 SLf.out); have SLf := Lib.hid SBf.out.lt
    have Rxs := Lib.hid (show HasClm w4 xs _ from ⟨blk_rd h4 (clC_len xs), Mxs, (Hxs.out w (Below.refl _ _)).2.2⟩)
    obtain ⟨xf0, xf1, xf2, xf3⟩ := cells_4 SBf.out
    clear b4 h4
    go_wp2_with fail
    refine (HTf.out w4).mono ?_; rintro e w5 ⟨rfl, b5⟩
    have B5 := Lib.hid (B4.out.trans (b5.mono B4.out.size))
    have SBf := Lib.hid (SBf.out.below b5 SLf.out); have SLf := Lib.hid SBf.out.lt
    obtain ⟨xf0, xf1, xf2, xf3⟩ := cells_4 SBf.out
    have Rxs := Lib.hid (Rxs.out.below b5)
    clear b5
    go_wp2_with fail
    refine (HI.out _ _ w5 B5.out Rxs.out).mono ?_; rintro e w6 ⟨rfl, b6⟩
    have B6 := Lib.hid (B5.out.trans (b6.mono B5.out.size))
    have SBf := Lib.hid (SBf.out.below b6 SLf.out); have SLf := Lib.hid SBf.out.lt
    have Rxs := Lib.hid (Rxs.out.below b6)
    clear b6
    go_wp2_with fail
    refine (toClmS_any xs A c w6 (Hxs.out _ B6.out).1 Nxs).mono ?_; rintro e w7 ⟨rfl, h7, b7⟩
    have B7 := Lib.hid (B6.out.trans (b7.mono B6.out.size))
    have SBf := Lib.hid (SBf.out.below b7 SLf.out); have SLf := Lib.hid SBf.out.lt
    have Rxs := Lib.hid (Rxs.out.below b7)
    have RF := Lib.hid (blk_rd h7 (clC_len xs)); clear h7 b7
    go_wp2_with fail
    refine (eqClmS_any xs xs _ _ _ _ w7 Rxs.out.1 RF.out Mxs).mono ?_; rw [decide_eq_true rfl]; rintro e w8 ⟨rfl, b8⟩
    have B8 := Lib.hid (B7.out.trans (b8.mono B7.out.size))
    have SBf := Lib.hid (SBf.out.below b8 SLf.out); have SLf := Lib.hid SBf.out.lt
    have Rxs := Lib.hid (Rxs.out.below b8)
    clear b8 RF
    go_wp2_with fail
    go_ret
    exact ⟨rfl, B8.out⟩
end Go.Proofs.YthlpclnfnfbeiaaGreatDoor
