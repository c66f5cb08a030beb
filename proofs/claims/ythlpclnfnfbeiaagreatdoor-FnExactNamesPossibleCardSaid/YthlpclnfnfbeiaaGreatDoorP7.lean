/- The law of NamesPossible returns true for all arguments: the walk of the law. -/
import Derived.Test.YthlpclnfnfbeiaaGreatDoorRows
import Derived.Test.YthlpclnfnfbeiaaGreatDoorL0
import Derived.Test.YthlpclnfnfbeiaaGreatDoorM0
import Derived.WalkKit
import Derived.ProofKit
import Derived.OpenShut
import Derived.BigQuiet
import Derived.Outline
import Derived.WalkSpells
import Derived.WalkLawsBesides
import Derived.Deep.DeepCutAuto
import Derived.Test.YthlpclnfnfbeiaaGreatDoorMB
import Derived.Test.YthlpclnfnfbeiaaGreatDoorP6
import Derived.Test.YthlpclnfnfbeiaaGreatDoorFC2
import Derived.Test.YthlpclnfnfbeiaaGreatDoorT0
import Derived.Deep.RegionHeld3
import Derived.Deep.AppendLies
import Derived.Lib.Hide
namespace Go.Proofs.YthlpclnfnfbeiaaGreatDoor
open Go.ChangeShapes Go.WideShapes Go.ChangeAt Go.RowKit Go.Sort

set_option maxRecDepth 100000 in
set_option maxHeartbeats 8000000 in
theorem lawNm_any (xs : List Clm) (p : ByteArray) (hp : p.size ≤ 9223372036854775807) (y : Int) (A : Option Addr) (c : Nat) (w : World) (hxs : HasClm w xs A) :
    Calls Tryz.prog 5 #[.slice A xs.length c, .string p, .int .i64 y] w fun e w' => e = .returned (.bool true) ∧ Below w.heap.size w w' := by
  by_cases hbig_p : 1048576 < p.size
  · go_enter Tryz.func5, Tryz.ntmps5
    go_wp2_with fail
    go_ret
    exact ⟨rfl, Below.refl _ _⟩
  have Hxs := Lib.hid (fun W (hB0 : Below w.heap.size w W) => hxs.below hB0)
  have Mxs := hxs.2.1
  have HZ0 := Lib.hid (fun W (hB0 : Below w.heap.size w W) => szClmS_any xs A c (1048576) (by omega) (by omega) W (Hxs.out W hB0).1 (Hxs.out W hB0).2.1 (Hxs.out W hB0).2.2)
  rcases (show szClmS (1048576) xs < 0 ∨ ¬ szClmS (1048576) xs < 0 by omega) with hz0 | hz0
  · have hz := hz0
    generalize szClmS (1048576) xs = z0 at *
    go_enter Tryz.func5, Tryz.ntmps5
    go_wp2_with fail
    have B0 := Lib.hid (Below.refl w.heap.size w)
    refine (HZ0.out w B0.out).mono ?_; rintro e w1 ⟨rfl, b1⟩
    have B1 := Lib.hid (B0.out.trans (b1.mono B0.out.size))
    clear b1
    go_wp2_with fail
    go_ret
    exact ⟨rfl, B1.out⟩
  have q0 := szClmS_pos (left := 1048576) (xs := xs) (by omega) (by omega)
  have Nxs : xs.length ≤ 1048576 := q0.1
  obtain ⟨L, hLe⟩ : ∃ L, nmT xs p y = L := ⟨_, rfl⟩
  obtain ⟨code, hCe⟩ : ∃ code, codeN xs p y = code := ⟨_, rfl⟩
  have hL0 : L.length ≤ 1048576 := by rw [← hLe]; exact Nat.le_trans (nmT_len _ _ _) Nxs
  have HS := Lib.hid (show ∀ (A : Option Addr) (c : Nat) W, Below w.heap.size w W → HasClm W xs A → Calls Tryz.prog 30 #[.slice A xs.length c, .string p, .int .i64 y] W fun e w' => ∃ v, e = .returned (.tuple #[v, .int .i64 code]) ∧ w'.ownsRow W.heap.size 9 1 v L.length (txC L) ∧ Below W.heap.size W w' from fun A c W hB0 rxs => by
    rw [← hLe, ← hCe]; exact specNmT_any xs p y (fun b hb => q0.2.1 b hb) (by omega) A c W rxs)
  have HI := Lib.hid (show ∀ (A' : Addr) (c : Nat) W, Below w.heap.size w W → HasClm W xs (some A') → Calls Tryz.prog 31 #[.slice (some A') xs.length c, .string p, .int .i64 y] W fun e w' => ∃ v, e = .returned (.tuple #[v, .int .i64 code]) ∧ w'.ownsRow W.heap.size 9 1 v L.length (txC L) ∧ Below W.heap.size W w' from fun A' c W hB0 rxs => by
    rw [← hLe, ← hCe]; exact implNmT_any xs p y (fun b hb => q0.2.1 b hb) (by omega) (some A') c W rxs)
  clear hLe hCe
  generalize szClmS (1048576) xs = z0 at *
  have hL : L.length ≤ 9223372036854775807 := by omega
  go_enter Tryz.func5, Tryz.ntmps5
  go_wp2_with fail
  have B0 := Lib.hid (Below.refl w.heap.size w)
  refine (HZ0.out w B0.out).mono ?_; rintro e w1 ⟨rfl, b1⟩
  have B1 := Lib.hid (B0.out.trans (b1.mono B0.out.size))
  clear b1
  go_wp2_with fail
  refine (toClmS_any xs A c w1 (Hxs.out _ B1.out).1 Nxs).mono ?_; rintro e w2 ⟨rfl, h2, b2⟩
  have B2 := Lib.hid (B1.out.trans (b2.mono B1.out.size))
  have Rxs := Lib.hid (show HasClm w2 xs _ from ⟨blk_rd h2 (clC_len xs), Mxs, (Hxs.out w (Below.refl _ _)).2.2⟩)
  clear b2 h2
  go_wp2_with fail
  refine (HS.out _ _ w2 B2.out Rxs.out).mono ?_; rintro e w3 ⟨v0, rfl, own0, b3⟩
  obtain ⟨A0, c0, rfl, _⟩ := own_shape own0
  have B3 := Lib.hid (B2.out.trans (b3.mono B2.out.size))
  have OW := Lib.hid (own_mono own0 B2.out.size); clear own0
  have NW := Lib.hid (fun k hk => (own_lt OW.out k hk).2)
  clear b3
  go_wp2_with fail
  refine (toClmS_any xs A c w3 (Hxs.out _ B3.out).1 Nxs).mono ?_; rintro e w4 ⟨rfl, h4, b4⟩
  have B4 := Lib.hid (B3.out.trans (b4.mono B3.out.size))
  have OW := Lib.hid (own_below OW.out b4)
  have OXxs := Lib.hid (blk_own (base := w.heap.size) h4 (clC_len xs) B3.out.size (by unfold maxLen; omega))
  have zx := h4.lt
  clear b4 h4
  go_wp2_with fail
  refine (HI.out _ _ w4 B4.out ⟨Reads.of_own OXxs.out, Mxs, (Hxs.out w (Below.refl _ _)).2.2⟩).mono ?_; rintro e w5 ⟨v3, rfl, og, b5⟩
  obtain ⟨Ag, cg, rfl, _⟩ := own_shape og
  have NG := Lib.hid (fun k hk => (own_lt og k hk).1)
  have ZW := Lib.hid (show w3.heap.size < w4.heap.size from zx); clear zx
  have B5 := Lib.hid (B4.out.trans (b5.mono B4.out.size))
  have OW := Lib.hid (own_below OW.out b5)
  have OXxs := Lib.hid (own_below OXxs.out b5)
  have OG := Lib.hid (own_mono og B4.out.size); clear og
  clear b5
  go_wp2_with fail
  refine (eqTx_same L _ rfl _ _ _ _ w5 (Reads.of_own OG.out) (Reads.of_own OW.out) hL).mono ?_; rintro e w6 ⟨rfl, b6⟩
  have B6 := Lib.hid (B5.out.trans (b6.mono B5.out.size))
  have OW := Lib.hid (own_below OW.out b6)
  have OXxs := Lib.hid (own_below OXxs.out b6)
  have OG := Lib.hid (own_below OG.out b6)
  clear b6
  go_wp2_with fail
  refine (toClmS_any xs A c w6 (Hxs.out _ B6.out).1 Nxs).mono ?_; rintro e w7 ⟨rfl, h7, b7⟩
  have B7 := Lib.hid (B6.out.trans (b7.mono B6.out.size))
  have OW := Lib.hid (own_below OW.out b7)
  have OXxs := Lib.hid (own_below OXxs.out b7)
  have OG := Lib.hid (own_below OG.out b7)
  have RF := Lib.hid (blk_rd h7 (clC_len xs)); clear h7 b7
  go_wp2_with fail
  refine (eqClmS_any xs xs _ _ _ _ w7 (Reads.of_own OXxs.out) RF.out Mxs).mono ?_; rw [decide_eq_true rfl]; rintro e w8 ⟨rfl, b8⟩
  have B8 := Lib.hid (B7.out.trans (b8.mono B7.out.size))
  have OW := Lib.hid (own_below OW.out b8)
  have OXxs := Lib.hid (own_below OXxs.out b8)
  have OG := Lib.hid (own_below OG.out b8)
  clear b8 RF
  go_wp2_with fail
  refine (markClm_any _ _ _ _ _ 1 w8 OXxs.out Nxs (by omega) (by omega)).mono ?_; rintro e w9 ⟨rfl, g9⟩
  have B9 := Lib.hid (below_own B8.out OXxs.out g9 (Nat.le_refl _) B8.out.size)
  have OW := Lib.hid (OW.out.kept g9 (own_far (m := w3.heap.size) NW.out (fun k hk => by simp [Value.ownBlock] at hk; omega)))
  have OG := Lib.hid (OG.out.kept g9 (.inr (fun h => by have h' := NG.out _ h; have := ZW.out; dsimp only at h'; omega)))
  clear g9 OXxs
  go_wp2_with fail
  refine (eqTx_same L _ rfl _ _ _ _ w9 (Reads.of_own OG.out) (Reads.of_own OW.out) hL).mono ?_; rintro e w10 ⟨rfl, b10⟩
  have B10 := Lib.hid (B9.out.trans (b10.mono B9.out.size))
  have OW := Lib.hid (own_below OW.out b10)
  have OG := Lib.hid (own_below OG.out b10)
  clear b10
  go_wp2_with fail
  refine (markTx_any L _ _ _ _ 1 w10 OG.out rfl (by omega) (by omega) (by omega)).mono ?_; rintro e w11 ⟨rfl, og, g11⟩
  have B11 := Lib.hid (below_own B10.out OG.out g11 (Nat.le_refl _) B10.out.size)
  have OW := Lib.hid (OW.out.kept g11 (own_far (m := w4.heap.size) (fun k hk => by have := NW.out k hk; have := ZW.out; omega) NG.out))
  have OG := Lib.hid og; clear og g11
  go_wp2_with fail
  refine (heldTx_any w.heap.size _ _ _ 1 w11 (Reads.of_own OG.out) (by omega) (by omega) (by omega)).mono ?_; rintro e w12 ⟨rfl, b12⟩
  have B12 := Lib.hid (B11.out.trans (b12.mono B11.out.size))
  have OW := Lib.hid (own_below OW.out b12)
  have OG := Lib.hid (own_below OG.out b12)
  clear b12
  go_wp2_with fail
  refine (toClmS_any xs A c w12 (Hxs.out _ B12.out).1 Nxs).mono ?_; rintro e w13 ⟨rfl, h13, b13⟩
  have B13 := Lib.hid (B12.out.trans (b13.mono B12.out.size))
  have OW := Lib.hid (own_below OW.out b13)
  have OG := Lib.hid (own_below OG.out b13)
  have RA := Lib.hid (show HasClm w13 xs _ from ⟨blk_rd h13 (clC_len xs), Mxs, (Hxs.out w (Below.refl _ _)).2.2⟩); clear h13 b13
  go_wp2_with fail
  refine (HI.out _ _ w13 B13.out RA.out).mono ?_; rintro e w14 ⟨vh, rfl, oh, b14⟩
  obtain ⟨Ah, ch, rfl, _⟩ := own_shape oh
  have B14 := Lib.hid (B13.out.trans (b14.mono B13.out.size))
  have OW := Lib.hid (own_below OW.out b14)
  have OG := Lib.hid (own_below OG.out b14)
  have OH := Lib.hid oh; clear oh b14
  go_wp2_with fail
  refine (eqTx_same L _ rfl _ _ _ _ w14 (Reads.of_own OH.out) (Reads.of_own OW.out) hL).mono ?_; rintro e w15 ⟨rfl, b15⟩
  have B15 := Lib.hid (B14.out.trans (b15.mono B14.out.size))
  have OW := Lib.hid (own_below OW.out b15)
  have OG := Lib.hid (own_below OG.out b15)
  have OH := Lib.hid (own_below OH.out b15)
  clear b15
  go_wp2_with fail
  refine (heldTx_any w.heap.size _ _ _ 1 w15 (Reads.of_own OG.out) (by omega) (by omega) (by omega)).mono ?_; rintro e w16 ⟨rfl, b16⟩
  have B16 := Lib.hid (B15.out.trans (b16.mono B15.out.size))
  have OW := Lib.hid (own_below OW.out b16)
  have OG := Lib.hid (own_below OG.out b16)
  have OH := Lib.hid (own_below OH.out b16)
  clear b16
  go_wp2_with fail
  go_ret
  exact ⟨rfl, B16.out⟩
end Go.Proofs.YthlpclnfnfbeiaaGreatDoor
