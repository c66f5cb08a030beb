/- The law of ShortestRest returns true for every list, day and outcome: the walk of the law. -/
import Derived.Test.YteffnidkkeeaiaaRows
import Derived.Test.YteffnidkkeeaiaaL0
import Derived.Test.YteffnidkkeeaiaaM0
import Derived.WalkKit
import Derived.ProofKit
import Derived.OpenShut
import Derived.BigQuiet
import Derived.Outline
import Derived.WalkSpells
import Derived.WalkLawsBesides
import Derived.Deep.DeepCutAuto
import Derived.Test.YteffnidkkeeaiaaB9
import Derived.Test.YteffnidkkeeaiaaC9
import Derived.Test.YteffnidkkeeaiaaC1
import Derived.Test.YteffnidkkeeaiaaC4
import Derived.Test.YteffnidkkeeaiaaD3
import Derived.Lib.Hide
namespace Go.Proofs.Yteffnidkkeeaiaa
open Go.ChangeShapes Go.WideShapes Go.ChangeAt Go.RowKit

theorem firstTo_from {day o : Int} {xs z : List Stp} : ∀ k, firstTo (fun m => restS day o m xs) k = some z → ∃ m, restS day o m xs = some z
  | 0, h => by cases h
  | k + 1, h => by
    unfold firstTo at h
    cases hk : firstTo (fun m => restS day o m xs) k with
    | none => rw [hk] at h; exact ⟨k, h⟩
    | some y => rw [hk] at h; cases h; exact firstTo_from k hk
theorem shortR_len (day o : Int) (xs : List Stp) : (shortR day o xs).1.length ≤ 12 := by
  unfold shortR
  split
  · rename_i hc
    have hp : isProc xs = true := by
      unfold codeB at hc; split at hc
      · assumption
      · cases hc
    split
    · split
      · rename_i z hz
        obtain ⟨m, hm⟩ := firstTo_from 6 hz
        have := isProc_len (rest_len m xs z hp hm).1
        simp only [List.length_drop]; omega
      · simp
    · simp
  · simp

theorem lawShort_big (A : Option Addr) (n c : Nat) (day o : Int) (w : World) (h : 1048576 < n) (hn : n ≤ 9223372036854775807) :
    Calls Try.prog 10 #[.slice A n c, .int .i64 day, .int .i64 o] w fun e w' => e = .returned (.bool true) ∧ Below w.heap.size w w' := by
  go_enter Try.func10, Try.ntmps10
  go_wp2_with fail
  refine (sz_big _ _ _ hn h _).mono ?_; rintro e w' ⟨rfl, rfl⟩
  go_wp2_with fail
  go_ret
  exact ⟨rfl, Below.refl _ _⟩

set_option maxRecDepth 100000 in
set_option maxHeartbeats 4000000 in
theorem lawShort_small (xs : List Stp) (A : Option Addr) (c : Nat) (day o : Int) (w : World) (hr : Reads w w.heap.size 2 A xs.length (stC xs)) (hm : xs.length ≤ 1048576) :
    Calls Try.prog 10 #[.slice A xs.length c, .int .i64 day, .int .i64 o] w fun e w' => e = .returned (.bool true) ∧ Below w.heap.size w w' := by
  have hL0 := shortR_len day o xs
  obtain ⟨L, code, hLc⟩ : ∃ L code, shortR day o xs = (L, code) := ⟨_, _, rfl⟩
  rw [hLc] at hL0
  have R : ∀ W, Below w.heap.size w W → Reads W W.heap.size 2 A xs.length (stC xs) := fun W hb => (hr.below hb).more hb.size
  have HR := Lib.hid R; clear R hr
  have hm' : xs.length ≤ 9223372036854775807 := by omega
  have S : ∀ A c w, Reads w w.heap.size 2 A xs.length (stC xs) → xs.length ≤ c → Calls Try.prog 40 #[.slice A xs.length c, .int .i64 day, .int .i64 o] w fun e w' => ∃ v, e = .returned (.tuple #[v, .int .i64 code]) ∧ w'.ownsRow w.heap.size 50 2 v L.length (stC L) ∧ Below w.heap.size w w' := fun A c w hr hc => by
    have := specShort_any xs day o A c w hr hm' hc
    rwa [hLc] at this
  have I : ∀ A c w, Reads w w.heap.size 2 A xs.length (stC xs) → Calls Try.prog 41 #[.slice A xs.length c, .int .i64 day, .int .i64 o] w fun e w' => ∃ v, e = .returned (.tuple #[v, .int .i64 code]) ∧ w'.ownsRow w.heap.size 50 2 v L.length (stC L) ∧ Below w.heap.size w w' := fun A c w hr => by
    have := implShort_any xs day o A c w hr hm'
    rwa [hLc] at this
  have HS := Lib.hid S; have HI := Lib.hid I; clear S I hLc
  dsimp only at hL0
  have hL : L.length ≤ 9223372036854775807 := by omega
  go_enter Try.func10, Try.ntmps10
  go_wp2_with fail
  refine (sz_small _ _ _ hm _).mono ?_; rintro e w' ⟨rfl, rfl⟩
  go_wp2_with fail
  refine (toStepS_any xs A c w (HR.out _ (Below.refl _ _)) hm).mono ?_; rintro e w1 ⟨rfl, h1, b1⟩
  have R1 := Lib.hid (blk_reads h1 (stC_len xs)); have B1 := Lib.hid b1; clear h1 b1
  go_wp2_with fail
  refine (HS.out _ _ w1 R1.out (Nat.le_refl _)).mono ?_; rintro e wc ⟨v0, rfl, own0, b0⟩
  obtain ⟨A0, c0, rfl, _⟩ := own_shape own0
  have B0 := Lib.hid (B1.out.trans (b0.mono B1.out.size))
  have OW0 := Lib.hid (own_mono own0 B1.out.size)
  clear own0 b0
  go_wp2_with fail
  refine (toStepS_any xs A c wc (HR.out _ B0.out) hm).mono ?_; rintro e w2 ⟨rfl, h2, b2⟩
  have B2 := Lib.hid (B0.out.trans (b2.mono B0.out.size))
  have OW2 := Lib.hid (own_below OW0.out b2)
  have NW := Lib.hid (fun k hk => (own_lt OW0.out k hk).2)
  have OX2 := Lib.hid (blk_own (base := w.heap.size) h2 (stC_len xs) B0.out.size (by unfold maxLen; omega))
  have zx2 := h2.lt
  clear h2 b2
  go_wp2_with fail
  refine (HI.out _ _ w2 (Reads.of_own OX2.out)).mono ?_; rintro e w3 ⟨v3, rfl, og, b3⟩
  obtain ⟨Ag, cg, rfl, _⟩ := own_shape og
  have NG := Lib.hid (fun k hk => (own_lt og k hk).1)
  have B3 := Lib.hid (B2.out.trans (b3.mono B2.out.size))
  have OW3 := Lib.hid (own_below OW2.out b3)
  have OX3 := Lib.hid (own_below OX2.out b3)
  have OG3 := Lib.hid (own_mono og B2.out.size)
  clear b3 og
  go_wp2_with fail
  refine (eqStepS_same rfl _ _ _ _ w3 (Reads.of_own OG3.out) (Reads.of_own OW3.out) hL).mono ?_; rintro e w4 ⟨rfl, b4⟩
  have B4 := Lib.hid (B3.out.trans (b4.mono B3.out.size))
  have OW4 := Lib.hid (own_below OW3.out b4)
  have OX4 := Lib.hid (own_below OX3.out b4)
  have OG4 := Lib.hid (own_below OG3.out b4)
  clear b4
  go_wp2_with fail
  refine (toStepS_any xs A c w4 (HR.out _ B4.out) hm).mono ?_; rintro e w5 ⟨rfl, h5, b5⟩
  have B5 := Lib.hid (B4.out.trans (b5.mono B4.out.size))
  have OW5 := Lib.hid (own_below OW4.out b5)
  have OX5 := Lib.hid (own_below OX4.out b5)
  have OG5 := Lib.hid (own_below OG4.out b5)
  have R5 := Lib.hid (blk_reads h5 (stC_len xs))
  clear b5 h5
  go_wp2_with fail
  refine (eqStepS_same rfl _ _ _ _ w5 (Reads.of_own OX5.out) R5.out hm').mono ?_; rintro e w6 ⟨rfl, b6⟩
  have B6 := Lib.hid (B5.out.trans (b6.mono B5.out.size))
  have OW6 := Lib.hid (own_below OW5.out b6)
  have OX6 := Lib.hid (own_below OX5.out b6)
  have OG6 := Lib.hid (own_below OG5.out b6)
  clear b6
  -- the copy is marked
  go_wp2_with fail
  refine (markStepS_any xs _ _ _ _ 1 w6 OX6.out rfl (by omega) (by omega) (by omega)).mono ?_; rintro e w7 ⟨rfl, ox7, g7⟩
  have B7 := Lib.hid (below_own B6.out OX6.out g7 (Nat.le_refl _) B6.out.size)
  have OW7 := Lib.hid (OW6.out.kept g7 (own_far (m := wc.heap.size) NW.out (fun k hk => by simp [Value.ownBlock] at hk; omega)))
  have OG7 := Lib.hid (OG6.out.kept g7 (.inr (fun h => by have h' := NG.out _ h; dsimp only at h'; omega)))
  clear ox7 g7
  go_wp2_with fail
  refine (eqStepS_same rfl _ _ _ _ w7 (Reads.of_own OG7.out) (Reads.of_own OW7.out) hL).mono ?_; rintro e w8 ⟨rfl, b8⟩
  have B8 := Lib.hid (B7.out.trans (b8.mono B7.out.size))
  have OW8 := Lib.hid (own_below OW7.out b8)
  have OG8 := Lib.hid (own_below OG7.out b8)
  clear b8
  -- the result is marked
  go_wp2_with fail
  refine (markStepS_any L _ _ _ _ 1 w8 OG8.out rfl (by omega) (by omega) (by omega)).mono ?_; rintro e w9 ⟨rfl, og9, g9⟩
  have B9 := Lib.hid (below_own B8.out OG8.out g9 (Nat.le_refl _) B8.out.size)
  have OW9 := Lib.hid (OW8.out.kept g9 (own_far (m := w2.heap.size) (fun k hk => by have := NW.out k hk; omega) NG.out))
  have OG9 := Lib.hid og9
  clear og9 g9
  go_wp2_with fail
  refine (heldStepS_any _ _ _ _ 1 w9 (Reads.of_own OG9.out) (by omega) (by omega) (by omega)).mono ?_; rintro e w' ⟨rfl, rfl⟩
  go_wp2_with fail
  refine (toStepS_any xs A c w9 (HR.out _ B9.out) hm).mono ?_; rintro e wa ⟨rfl, ha, ba⟩
  have Ba := Lib.hid (B9.out.trans (ba.mono B9.out.size))
  have OWa := Lib.hid (own_below OW9.out ba)
  have OGa := Lib.hid (own_below OG9.out ba)
  have Ra := Lib.hid (blk_reads ha (stC_len xs))
  clear ba ha
  go_wp2_with fail
  refine (HI.out _ _ wa Ra.out).mono ?_; rintro e wb ⟨vh, rfl, oh, bb⟩
  obtain ⟨Ah, ch, rfl, _⟩ := own_shape oh
  have Bb := Lib.hid (Ba.out.trans (bb.mono Ba.out.size))
  have OWb := Lib.hid (own_below OWa.out bb)
  have OGb := Lib.hid (own_below OGa.out bb)
  have OHb := Lib.hid oh
  clear oh bb
  go_wp2_with fail
  refine (eqStepS_same rfl _ _ _ _ wb (Reads.of_own OHb.out) (Reads.of_own OWb.out) hL).mono ?_; rintro e wd ⟨rfl, bd⟩
  have Bd := Lib.hid (Bb.out.trans (bd.mono Bb.out.size))
  have OGd := Lib.hid (own_below OGb.out bd)
  clear bd
  go_wp2_with fail
  refine (heldStepS_any _ _ _ _ 1 wd (Reads.of_own OGd.out) (by omega) (by omega) (by omega)).mono ?_; rintro e w' ⟨rfl, rfl⟩
  go_wp2_with fail
  go_ret
  exact ⟨rfl, Bd.out⟩
end Go.Proofs.Yteffnidkkeeaiaa
