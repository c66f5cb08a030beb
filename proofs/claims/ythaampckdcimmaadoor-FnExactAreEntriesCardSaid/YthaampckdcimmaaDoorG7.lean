/- The law of AreEntries returns true for all arguments: the walk of the law. -/
import Derived.Test.YthaampckdcimmaaDoorRows
import Derived.Test.YthaampckdcimmaaDoorL0
import Derived.Test.YthaampckdcimmaaDoorM0
import Derived.WalkKit
import Derived.ProofKit
import Derived.OpenShut
import Derived.BigQuiet
import Derived.Outline
import Derived.WalkSpells
import Derived.WalkLawsBesides
import Derived.Deep.DeepCutAuto
import Derived.Test.YthaampckdcimmaaDoorMB
import Derived.Test.YthaampckdcimmaaDoorG6
import Derived.Deep.RegionHeld3
import Derived.Deep.AppendLies
import Derived.Lib.Hide
namespace Go.Proofs.YthaampckdcimmaaDoor
open Go.ChangeShapes Go.WideShapes Go.ChangeAt Go.RowKit

set_option maxRecDepth 100000 in
set_option maxHeartbeats 8000000 in
theorem lawAreE_any (xs : List Ent) (A : Option Addr) (c : Nat) (w : World) (hxs : HasEnt w xs A) :
    Calls Tryd.prog 5 #[.slice A xs.length c] w fun e w' => e = .returned (.bool true) ∧ Below w.heap.size w w' := by
  have Hxs := Lib.hid (fun W (hb : Below w.heap.size w W) => hxs.below hb)
  have Mxs := hxs.2.1
  have HZ0 := Lib.hid (fun W (hb : Below w.heap.size w W) => szEntS_any xs A c (1048576) (by omega) (by omega) W (Hxs.out W hb).1 (Hxs.out W hb).2.1 (Hxs.out W hb).2.2)
  rcases (show szEntS (1048576) xs < 0 ∨ ¬ szEntS (1048576) xs < 0 by omega) with hz0 | hz0
  · have hz := hz0
    generalize szEntS (1048576) xs = z0 at *
    go_enter Tryd.func5, Tryd.ntmps5
    go_wp2_with fail
    have B0 := Lib.hid (Below.refl w.heap.size w)
    refine (HZ0.out w B0.out).mono ?_; rintro e w1 ⟨rfl, b1⟩
    have B1 := Lib.hid (B0.out.trans (b1.mono B0.out.size))
    clear b1
    go_wp2_with fail
    go_ret
    exact ⟨rfl, B1.out⟩
  have q0 := szEntS_pos (left := 1048576) (xs := xs) (by omega) (by omega)
  have Nxs : xs.length ≤ 1048576 := q0.1
  obtain ⟨va, hres⟩ : ∃ va, Value.bool (areE xs) = .bool va := ⟨_, rfl⟩
  have HS := Lib.hid (show ∀ (A : Option Addr) (c : Nat) W, Below w.heap.size w W → HasEnt W xs A → Calls Tryd.prog 19 #[.slice A xs.length c] W fun e w' => e = .returned (.bool va) ∧ Below W.heap.size W w' from fun A c W hb rxs => by
    rw [← hres]; exact specAreE_any xs A c W rxs (fun b hb => by have := q0.2.1 b hb; omega))
  have HI := Lib.hid (show ∀ (A' : Addr) (c : Nat) W, Below w.heap.size w W → HasEnt W xs (some A') → Calls Tryd.prog 21 #[.slice (some A') xs.length c] W fun e w' => e = .returned (.bool va) ∧ Below W.heap.size W w' from fun A' c W hb rxs => by
    rw [← hres]; exact implAreE_any xs (some A') c W rxs (fun b hb => by have := q0.2.1 b hb; omega))
  clear hres
  generalize szEntS (1048576) xs = z0 at *
  go_enter Tryd.func5, Tryd.ntmps5
  go_wp2_with fail
  have B0 := Lib.hid (Below.refl w.heap.size w)
  refine (HZ0.out w B0.out).mono ?_; rintro e w1 ⟨rfl, b1⟩
  have B1 := Lib.hid (B0.out.trans (b1.mono B0.out.size))
  clear b1
  go_wp2_with fail
  refine (toEntS_any xs A c w1 (Hxs.out _ B1.out).1 Nxs).mono ?_; rintro e w2 ⟨rfl, h2, b2⟩
  have B2 := Lib.hid (B1.out.trans (b2.mono B1.out.size))
  have Rxs := Lib.hid (show HasEnt w2 xs _ from ⟨blk_rd h2 (enC_len xs), Mxs, (Hxs.out w (Below.refl _ _)).2.2⟩)
  clear b2 h2
  go_wp2_with fail
  refine (HS.out _ _ w2 B2.out Rxs.out).mono ?_; rintro e w3 ⟨rfl, b3⟩
  have B3 := Lib.hid (B2.out.trans (b3.mono B2.out.size))
  clear b3
  go_wp2_with fail
  refine (toEntS_any xs A c w3 (Hxs.out _ B3.out).1 Nxs).mono ?_; rintro e w4 ⟨rfl, h4, b4⟩
  have B4 := Lib.hid (B3.out.trans (b4.mono B3.out.size))
  have Rxs := Lib.hid (show HasEnt w4 xs _ from ⟨blk_rd h4 (enC_len xs), Mxs, (Hxs.out w (Below.refl _ _)).2.2⟩)
  clear b4 h4
  go_wp2_with fail
  refine (HI.out _ _ w4 B4.out Rxs.out).mono ?_; rintro e w5 ⟨rfl, b5⟩
  have B5 := Lib.hid (B4.out.trans (b5.mono B4.out.size))
  have Rxs := Lib.hid (Rxs.out.below b5)
  clear b5
  go_wp2_with fail
  refine (toEntS_any xs A c w5 (Hxs.out _ B5.out).1 Nxs).mono ?_; rintro e w6 ⟨rfl, h6, b6⟩
  have B6 := Lib.hid (B5.out.trans (b6.mono B5.out.size))
  have Rxs := Lib.hid (Rxs.out.below b6)
  have RF := Lib.hid (blk_rd h6 (enC_len xs)); clear h6 b6
  go_wp2_with fail
  refine (eqEntS_any xs xs _ _ _ _ w6 Rxs.out.1 RF.out Mxs).mono ?_; rw [decide_eq_true rfl]; rintro e w7 ⟨rfl, b7⟩
  have B7 := Lib.hid (B6.out.trans (b7.mono B6.out.size))
  have Rxs := Lib.hid (Rxs.out.below b7)
  clear b7 RF
  go_wp2_with fail
  go_ret
  exact ⟨rfl, B7.out⟩
end Go.Proofs.YthaampckdcimmaaDoor
