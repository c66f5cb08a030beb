/- The law of QualifiedText returns true for all arguments: the walk of the law. -/
import Derived.Test.YthaampckdcimmaaDoorRows
import Derived.Test.YthaampckdcimmaaDoorL0
import Derived.Test.YthaampckdcimmaaDoorM0
import Derived.WalkKit
import Derived.ProofKit
import Derived.OpenShut
import Derived.BigQuiet
import Derived.Outline
import Derived.WalkSpells
import Derived.WalkLawsBesides
import Derived.Deep.DeepCutAuto
import Derived.Test.YthaampckdcimmaaDoorMB
import Derived.Test.YthaampckdcimmaaDoorGO
import Derived.Deep.RegionHeld3
import Derived.Deep.AppendLies
import Derived.Lib.Hide
namespace Go.Proofs.YthaampckdcimmaaDoor
open Go.ChangeShapes Go.WideShapes Go.ChangeAt Go.RowKit Go.Sort

set_option maxRecDepth 100000 in
set_option maxHeartbeats 8000000 in
theorem lawQt_any (xs : List Ent) (b : Ent) (hb : b.Ok) (dist : Int) (A : Option Addr) (c : Nat) (w : World) (hxs : HasEnt w xs A) (hdir : Dirs w) :
    Calls Tryd.prog 10 #[.slice A xs.length c, .agg #[.string b.text, .int .i64 b.x, .int .i64 b.y, .int .i64 b.since], .int .i64 dist] w fun e w' => e = .returned (.bool true) ∧ Below w.heap.size w w' := by
  have Hxs := Lib.hid (fun W (hB0 : Below w.heap.size w W) => hxs.below hB0)
  have Mxs := hxs.2.1
  have HZ0 := Lib.hid (fun W (hB0 : Below w.heap.size w W) => szEntS_any xs A c (1048576) (by omega) (by omega) W (Hxs.out W hB0).1 (Hxs.out W hB0).2.1 (Hxs.out W hB0).2.2)
  rcases (show szEntS (1048576) xs < 0 ∨ ¬ szEntS (1048576) xs < 0 by omega) with hz0 | hz0
  · have hz := hz0
    generalize szEntS (1048576) xs = z0 at *
    have KN := Lib.hid (blks_one w 25 #[.string b.text, .int .i64 b.x, .int .i64 b.y, .int .i64 b.since])
    go_enter Tryd.func10, Tryd.ntmps10
    go_wp2_with fail
    generalize hW : (w.alloc (.cells #[.string b.text, .int .i64 b.x, .int .i64 b.y, .int .i64 b.since] 25)) = w0
    obtain ⟨kb, bw, _⟩ := KN.out w0 hW.symm
    clear hW
    have SBb := Lib.hid kb; have SLb := Lib.hid kb.lt; clear kb
    have B0 := Lib.hid bw; clear bw
    refine (HZ0.out w0 B0.out).mono ?_; rintro e w1 ⟨rfl, b1⟩
    have B1 := Lib.hid (B0.out.trans (b1.mono B0.out.size))
    have SBb := Lib.hid (SBb.out.below b1 SLb.out); have SLb := Lib.hid SBb.out.lt
    obtain ⟨xb0, xb1, xb2, xb3⟩ := cells_4 SBb.out
    clear b1
    go_wp2_with fail
    go_ret
    exact ⟨rfl, B1.out⟩
  have q0 := szEntS_pos (left := 1048576) (xs := xs) (by omega) (by omega)
  have Nxs : xs.length ≤ 1048576 := q0.1
  have HZ1 := Lib.hid (fun W (hB0 : Below w.heap.size w W) => szEnt_any b hb (szEntS (1048576) xs) (by omega) (by omega) W)
  unfold Ent.val at HZ1
  rcases (show szEnt (szEntS (1048576) xs) b < 0 ∨ ¬ szEnt (szEntS (1048576) xs) b < 0 by omega) with hz1 | hz1
  · have hz := hz1
    generalize szEnt (szEntS (1048576) xs) b = z1 at *
    generalize szEntS (1048576) xs = z0 at *
    have KN := Lib.hid (blks_one w 25 #[.string b.text, .int .i64 b.x, .int .i64 b.y, .int .i64 b.since])
    go_enter Tryd.func10, Tryd.ntmps10
    go_wp2_with fail
    generalize hW : (w.alloc (.cells #[.string b.text, .int .i64 b.x, .int .i64 b.y, .int .i64 b.since] 25)) = w0
    obtain ⟨kb, bw, _⟩ := KN.out w0 hW.symm
    clear hW
    have SBb := Lib.hid kb; have SLb := Lib.hid kb.lt; clear kb
    have B0 := Lib.hid bw; clear bw
    refine (HZ0.out w0 B0.out).mono ?_; rintro e w1 ⟨rfl, b1⟩
    have B1 := Lib.hid (B0.out.trans (b1.mono B0.out.size))
    have SBb := Lib.hid (SBb.out.below b1 SLb.out); have SLb := Lib.hid SBb.out.lt
    obtain ⟨xb0, xb1, xb2, xb3⟩ := cells_4 SBb.out
    clear b1
    go_wp2_with fail
    refine (HZ1.out w1 B1.out).mono ?_; rintro e w2 ⟨rfl, b2⟩
    have B2 := Lib.hid (B1.out.trans (b2.mono B1.out.size))
    have SBb := Lib.hid (SBb.out.below b2 SLb.out); have SLb := Lib.hid SBb.out.lt
    obtain ⟨xb0, xb1, xb2, xb3⟩ := cells_4 SBb.out
    clear b2
    go_wp2_with fail
    go_ret
    exact ⟨rfl, B2.out⟩
  have q1 := szEnt_pos (left := szEntS (1048576) xs) (b := b) (by omega)
  obtain ⟨va, vc, hres⟩ : ∃ va vc, Value.tuple #[.string (qtV xs b dist).1, .int .i64 (qtV xs b dist).2] = .tuple #[.string va, .int .i64 vc] := ⟨_, _, rfl⟩
  have HS := Lib.hid (show ∀ (A : Option Addr) (c : Nat) W, Below w.heap.size w W → HasEnt W xs A → Calls Tryd.prog 35 #[.slice A xs.length c, .agg #[.string b.text, .int .i64 b.x, .int .i64 b.y, .int .i64 b.since], .int .i64 dist] W fun e w' => e = .returned (.tuple #[.string va, .int .i64 vc]) ∧ Below W.heap.size W w' from fun A c W hB0 rxs => by
    rw [← hres]; exact specQt_any xs b dist (fun f hf => by have := q0.2.1 f hf; omega) (by omega) A c W rxs)
  have HI := Lib.hid (show ∀ (A' : Addr) (c : Nat) W, Below w.heap.size w W → HasEnt W xs (some A') → Calls Tryd.prog 36 #[.slice (some A') xs.length c, .agg #[.string b.text, .int .i64 b.x, .int .i64 b.y, .int .i64 b.since], .int .i64 dist] W fun e w' => e = .returned (.tuple #[.string va, .int .i64 vc]) ∧ Below W.heap.size W w' from fun A' c W hB0 rxs => by
    rw [← hres]; exact implQt_any xs b dist (fun f hf => by have := q0.2.1 f hf; omega) (by omega) (some A') c W rxs (hdir.below hB0))
  clear hres
  have HTb := Lib.hid (toEnt_any b)
  unfold Ent.val at HTb
  generalize szEnt (szEntS (1048576) xs) b = z1 at *
  generalize szEntS (1048576) xs = z0 at *
  have KN := Lib.hid (blks_one w 25 #[.string b.text, .int .i64 b.x, .int .i64 b.y, .int .i64 b.since])
  go_enter Tryd.func10, Tryd.ntmps10
  go_wp2_with fail
  generalize hW : (w.alloc (.cells #[.string b.text, .int .i64 b.x, .int .i64 b.y, .int .i64 b.since] 25)) = w0
  obtain ⟨kb, bw, _⟩ := KN.out w0 hW.symm
  clear hW
  have SBb := Lib.hid kb; have SLb := Lib.hid kb.lt; clear kb
  have B0 := Lib.hid bw; clear bw
  refine (HZ0.out w0 B0.out).mono ?_; rintro e w1 ⟨rfl, b1⟩
  have B1 := Lib.hid (B0.out.trans (b1.mono B0.out.size))
  have SBb := Lib.hid (SBb.out.below b1 SLb.out); have SLb := Lib.hid SBb.out.lt
  obtain ⟨xb0, xb1, xb2, xb3⟩ := cells_4 SBb.out
  clear b1
  go_wp2_with fail
  refine (HZ1.out w1 B1.out).mono ?_; rintro e w2 ⟨rfl, b2⟩
  have B2 := Lib.hid (B1.out.trans (b2.mono B1.out.size))
  have SBb := Lib.hid (SBb.out.below b2 SLb.out); have SLb := Lib.hid SBb.out.lt
  obtain ⟨xb0, xb1, xb2, xb3⟩ := cells_4 SBb.out
  clear b2
  go_upto_region 8 with (fail)
  go_cut [8, 9] (fun v0 v1 wx => v0 = .string va ∧ v1 = .int .i64 vc ∧ Below w2.heap.size w2 wx)
  case first =>
    have Bd := (Below.refl w2.heap.size w2).drew
    go_region_held3 (fun w' => w'.cell? ⟨w.heap.size, 0, none⟩ = some (.string b.text) ∧ w'.cell? ⟨w.heap.size, 1, none⟩ = some (.int .i64 b.x) ∧ w'.cell? ⟨w.heap.size, 2, none⟩ = some (.int .i64 b.y) ∧ w'.cell? ⟨w.heap.size, 3, none⟩ = some (.int .i64 b.since))
      (first | exact ⟨kb0, kb1, kb2, kb3⟩ | (go_keep; done) | ((try dsimp only); (repeat' apply And.intro) <;> (go_keep; done)))
      (first | (go_at_call 20; refine (toEntS_any xs A c _ (by exact (Hxs.out _ (B2.out.trans (Bd.mono B2.out.size))).1) Nxs).mono ?_; rintro e wn ⟨rfl, hn, bn⟩; (have Bd := Bd.trans (bn.mono Bd.size)); (have Rxs := Lib.hid (show HasEnt wn xs _ from ⟨blk_rd hn (enC_len xs), Mxs, (Hxs.out w (Below.refl _ _)).2.2⟩)); have kb0 := (Bd.cell (p := ⟨w.heap.size, 0, none⟩) SLb.out).trans xb0; have kb1 := (Bd.cell (p := ⟨w.heap.size, 1, none⟩) SLb.out).trans xb1; have kb2 := (Bd.cell (p := ⟨w.heap.size, 2, none⟩) SLb.out).trans xb2; have kb3 := (Bd.cell (p := ⟨w.heap.size, 3, none⟩) SLb.out).trans xb3; clear hn bn) | (go_at_call 14; refine (HTb.out _).mono ?_; rintro e wn ⟨rfl, bn⟩; (have Bd := Bd.trans (bn.mono Bd.size)); (try have Rxs := Lib.hid (Rxs.out.below bn)); have kb0 := (Bd.cell (p := ⟨w.heap.size, 0, none⟩) SLb.out).trans xb0; have kb1 := (Bd.cell (p := ⟨w.heap.size, 1, none⟩) SLb.out).trans xb1; have kb2 := (Bd.cell (p := ⟨w.heap.size, 2, none⟩) SLb.out).trans xb2; have kb3 := (Bd.cell (p := ⟨w.heap.size, 3, none⟩) SLb.out).trans xb3; clear bn) | (go_at_call 35; refine (HS.out _ _ _ (B2.out.trans (Bd.mono B2.out.size)) Rxs.out).mono ?_; rintro e wn ⟨rfl, bn⟩; (have Bd := Bd.trans (bn.mono Bd.size)); have kb0 := (Bd.cell (p := ⟨w.heap.size, 0, none⟩) SLb.out).trans xb0; have kb1 := (Bd.cell (p := ⟨w.heap.size, 1, none⟩) SLb.out).trans xb1; have kb2 := (Bd.cell (p := ⟨w.heap.size, 2, none⟩) SLb.out).trans xb2; have kb3 := (Bd.cell (p := ⟨w.heap.size, 3, none⟩) SLb.out).trans xb3; clear bn) | fail)
    all_goals
      go_wp2_with fail
      go_meet
      exact ⟨rfl, rfl, Bd⟩
  case rest =>
    obtain ⟨rfl, rfl, b3⟩ := hcut
    generalize wc = w3 at *
    clear wc
    have B3 := Lib.hid (B2.out.trans (b3.mono B2.out.size))
    have SBb := Lib.hid (SBb.out.below b3 SLb.out); have SLb := Lib.hid SBb.out.lt
    obtain ⟨xb0, xb1, xb2, xb3⟩ := cells_4 SBb.out
    clear b3
    go_wp2_with fail
    refine (toEntS_any xs A c w3 (Hxs.out _ B3.out).1 Nxs).mono ?_; rintro e w4 ⟨rfl, h4, b4⟩
    have B4 := Lib.hid (B3.out.trans (b4.mono B3.out.size))
    have SBb := Lib.hid (SBb.out.below b4 SLb.out); have SLb := Lib.hid SBb.out.lt
    have Rxs := Lib.hid (show HasEnt w4 xs _ from ⟨blk_rd h4 (enC_len xs), Mxs, (Hxs.out w (Below.refl _ _)).2.2⟩)
    obtain ⟨xb0, xb1, xb2, xb3⟩ := cells_4 SBb.out
    clear b4 h4
    go_wp2_with fail
    refine (HTb.out w4).mono ?_; rintro e w5 ⟨rfl, b5⟩
    have B5 := Lib.hid (B4.out.trans (b5.mono B4.out.size))
    have SBb := Lib.hid (SBb.out.below b5 SLb.out); have SLb := Lib.hid SBb.out.lt
    obtain ⟨xb0, xb1, xb2, xb3⟩ := cells_4 SBb.out
    have Rxs := Lib.hid (Rxs.out.below b5)
    clear b5
    go_wp2_with fail
    refine (HI.out _ _ w5 B5.out Rxs.out).mono ?_; rintro e w6 ⟨rfl, b6⟩
    have B6 := Lib.hid (B5.out.trans (b6.mono B5.out.size))
    have SBb := Lib.hid (SBb.out.below b6 SLb.out); have SLb := Lib.hid SBb.out.lt
    have Rxs := Lib.hid (Rxs.out.below b6)
    clear b6
    go_wp2_with fail
    refine (toEntS_any xs A c w6 (Hxs.out _ B6.out).1 Nxs).mono ?_; rintro e w7 ⟨rfl, h7, b7⟩
    have B7 := Lib.hid (B6.out.trans (b7.mono B6.out.size))
    have SBb := Lib.hid (SBb.out.below b7 SLb.out); have SLb := Lib.hid SBb.out.lt
    have Rxs := Lib.hid (Rxs.out.below b7)
    have RF := Lib.hid (blk_rd h7 (enC_len xs)); clear h7 b7
    go_wp2_with fail
    refine (eqEntS_any xs xs _ _ _ _ w7 Rxs.out.1 RF.out Mxs).mono ?_; rw [decide_eq_true rfl]; rintro e w8 ⟨rfl, b8⟩
    have B8 := Lib.hid (B7.out.trans (b8.mono B7.out.size))
    have SBb := Lib.hid (SBb.out.below b8 SLb.out); have SLb := Lib.hid SBb.out.lt
    have Rxs := Lib.hid (Rxs.out.below b8)
    clear b8 RF
    go_wp2_with fail
    go_ret
    exact ⟨rfl, B8.out⟩
end Go.Proofs.YthaampckdcimmaaDoor
