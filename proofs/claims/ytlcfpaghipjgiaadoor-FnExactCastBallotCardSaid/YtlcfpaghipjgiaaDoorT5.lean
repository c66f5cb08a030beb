/- The law of PivotalMembers returns true for all ballots and rules: the walk of the law. -/
import Derived.Test.YtlcfpaghipjgiaaDoorRows
import Derived.Test.YtlcfpaghipjgiaaDoorL0
import Derived.Test.YtlcfpaghipjgiaaDoorM0
import Derived.WalkKit
import Derived.ProofKit
import Derived.OpenShut
import Derived.BigQuiet
import Derived.Outline
import Derived.WalkSpells
import Derived.WalkLawsBesides
import Derived.Deep.DeepCutAuto
import Derived.Test.YtlcfpaghipjgiaaDoorT4
import Derived.Test.YtlcfpaghipjgiaaDoorV5
namespace Go.Proofs.YtlcfpaghipjgiaaDoor
open Go.ChangeShapes Go.WideShapes Go.ChangeAt Go.RowKit

theorem blk_own {w : World} {g : Nat} {t : TypeId} {size n base : Nat} {L : List Value} (h : Blk w g t L.toArray) (hl : L.length = n * size) (hb : base ≤ g) (hn : n ≤ maxLen) : w.ownsRow base t size (.slice (some ⟨g, 0, none⟩) n n) n L :=
  ⟨hl, .inr ⟨g, n, L.toArray, rfl, hb, h, Nat.le_refl _, hn, by simpa using hl, by simp [← hl]⟩⟩
theorem own_far {a b : Value} {m : Nat} (h1 : ∀ k, a.ownBlock = some k → k < m) (h2 : ∀ k, b.ownBlock = some k → m ≤ k) : a.ownBlock = none ∨ a.ownBlock ≠ b.ownBlock := by
  cases ha : a.ownBlock with
  | none => exact .inl rfl
  | some k => exact .inr (fun h => by have := h1 k ha; have := h2 k h.symm; omega)

theorem pivR_len {w : World} {xs : List Bal} {A : Option Addr} {rule : Int} (h : HasBal w xs A) : (pivR xs rule).length ≤ 1048576 := by
  unfold pivR
  split
  · rename_i hc
    have := (fits_of (vcode_zero hc).1).1.1
    have := pivL_len xs rule xs.length
    omega
  · simp
set_option maxRecDepth 100000 in
set_option maxHeartbeats 4000000 in
theorem lawPiv_any (xs : List Bal) (rule : Int) (A : Option Addr) (c : Nat) (w : World) (h : HasBal w xs A) :
    Calls Tryd.prog 8 #[.slice A xs.length c, .int .i64 rule] w fun e w' => e = .returned (.bool true) ∧ Below w.heap.size w w' := by
  have hL0 : (pivR xs rule).length ≤ 1048576 := pivR_len h
  have S : ∀ A c w, HasBal w xs A → Calls Tryd.prog 26 #[.slice A xs.length c, .int .i64 rule] w fun e w' => ∃ v, e = .returned (.tuple #[v, .int .i64 (vcodeB xs rule)]) ∧ w'.ownsRow w.heap.size 9 1 v (pivR xs rule).length (txC (pivR xs rule)) ∧ Below w.heap.size w w' := fun A c w hr => specPiv_any xs rule A c w hr
  have I : ∀ A c w, HasBal w xs A → Calls Tryd.prog 27 #[.slice A xs.length c, .int .i64 rule] w fun e w' => ∃ v, e = .returned (.tuple #[v, .int .i64 (vcodeB xs rule)]) ∧ w'.ownsRow w.heap.size 9 1 v (pivR xs rule).length (txC (pivR xs rule)) ∧ Below w.heap.size w w' := fun A c w hr => implPiv_any xs rule A c w hr
  generalize pivR xs rule = L at hL0 S I
  generalize vcodeB xs rule = code at S I
  have HS := Lib.hid S; have HI := Lib.hid I; clear S I
  have hL : L.length ≤ 9223372036854775807 := by omega
  have H := Lib.hid (fun W (hb : Below w.heap.size w W) => h.below hb)
  have HZ := Lib.hid (szBalS_any xs A c w h.1 h.2.1 h.2.2)
  have hm' := h.2.1
  clear h
  by_cases hz : szB xs < 0
  · generalize szB xs = z at HZ hz
    go_enter Tryd.func8, Tryd.ntmps8
    go_wp2_with fail
    refine HZ.out.mono ?_; rintro e w1 ⟨rfl, b1⟩
    go_wp2_with fail
    go_ret
    exact ⟨rfl, b1⟩
  have hsm := (szB_pos (xs := xs) (by omega)).1
  generalize szB xs = z at HZ hz
  go_enter Tryd.func8, Tryd.ntmps8
  go_wp2_with fail
  refine HZ.out.mono ?_; rintro e w0 ⟨rfl, b0⟩
  have Ba0 := Lib.hid b0; clear b0
  have HN := Lib.hid (H.out w0 Ba0.out).2.2
  go_wp2_with fail
  refine (toBalS_any xs A c w0 (H.out w0 Ba0.out).1 hsm).mono ?_; rintro e w1 ⟨rfl, h1, b1⟩
  have R1 := Lib.hid (show HasBal w1 xs _ from ⟨blk_rd h1 (baC_len xs), hm', HN.out⟩); have B1 := Lib.hid (Ba0.out.trans (b1.mono Ba0.out.size)); clear h1 b1
  go_wp2_with fail
  refine (HS.out _ _ w1 R1.out).mono ?_; rintro e wc ⟨v0, rfl, own0, b0⟩
  obtain ⟨A0, c0, rfl, _⟩ := own_shape own0
  have B0 := Lib.hid (B1.out.trans (b0.mono B1.out.size))
  have OW0 := Lib.hid (own_mono own0 B1.out.size)
  clear own0 b0
  go_wp2_with fail
  refine (toBalS_any xs A c wc (H.out _ B0.out).1 hsm).mono ?_; rintro e w2 ⟨rfl, h2, b2⟩
  have B2 := Lib.hid (B0.out.trans (b2.mono B0.out.size))
  have OW2 := Lib.hid (own_below OW0.out b2)
  have NW := Lib.hid (fun k hk => (own_lt OW0.out k hk).2)
  have OX2 := Lib.hid (blk_own (base := w.heap.size) h2 (baC_len xs) B0.out.size (by unfold maxLen; omega))
  have zx2 := h2.lt
  clear h2 b2
  go_wp2_with fail
  refine (HI.out _ _ w2 ⟨Reads.of_own OX2.out, hm', HN.out⟩).mono ?_; rintro e w3 ⟨v3, rfl, og, b3⟩
  obtain ⟨Ag, cg, rfl, _⟩ := own_shape og
  have NG := Lib.hid (fun k hk => (own_lt og k hk).1)
  have B3 := Lib.hid (B2.out.trans (b3.mono B2.out.size))
  have OW3 := Lib.hid (own_below OW2.out b3)
  have OX3 := Lib.hid (own_below OX2.out b3)
  have OG3 := Lib.hid (own_mono og B2.out.size)
  clear b3 og
  go_wp2_with fail
  refine (eqTx_same L _ rfl _ _ _ _ w3 (Reads.of_own OG3.out) (Reads.of_own OW3.out) hL).mono ?_; rintro e w4 ⟨rfl, b4⟩
  have B4 := Lib.hid (B3.out.trans (b4.mono B3.out.size))
  have OW4 := Lib.hid (own_below OW3.out b4)
  have OX4 := Lib.hid (own_below OX3.out b4)
  have OG4 := Lib.hid (own_below OG3.out b4)
  clear b4
  go_wp2_with fail
  refine (toBalS_any xs A c w4 (H.out _ B4.out).1 hsm).mono ?_; rintro e w5 ⟨rfl, h5, b5⟩
  have B5 := Lib.hid (B4.out.trans (b5.mono B4.out.size))
  have OW5 := Lib.hid (own_below OW4.out b5)
  have OX5 := Lib.hid (own_below OX4.out b5)
  have OG5 := Lib.hid (own_below OG4.out b5)
  have R5 := Lib.hid (blk_rd h5 (baC_len xs))
  clear b5 h5
  go_wp2_with fail
  refine (eqBalS_any xs xs _ _ _ _ w5 (Reads.of_own OX5.out) R5.out hm').mono ?_; rw [decide_eq_true rfl]; rintro e w6 ⟨rfl, b6⟩
  have B6 := Lib.hid (B5.out.trans (b6.mono B5.out.size))
  have OW6 := Lib.hid (own_below OW5.out b6)
  have OX6 := Lib.hid (own_below OX5.out b6)
  have OG6 := Lib.hid (own_below OG5.out b6)
  clear b6
  go_wp2_with fail
  refine (markBal_any _ _ _ _ _ 1 w6 OX6.out hsm (by omega) (by omega)).mono ?_; rintro e w7 ⟨rfl, g7⟩
  have B7 := Lib.hid (below_own B6.out OX6.out g7 (Nat.le_refl _) B6.out.size)
  have OW7 := Lib.hid (OW6.out.kept g7 (own_far (m := wc.heap.size) NW.out (fun k hk => by simp [Value.ownBlock] at hk; omega)))
  have OG7 := Lib.hid (OG6.out.kept g7 (.inr (fun h => by have h' := NG.out _ h; dsimp only at h'; omega)))
  clear g7
  go_wp2_with fail
  refine (eqTx_same L _ rfl _ _ _ _ w7 (Reads.of_own OG7.out) (Reads.of_own OW7.out) hL).mono ?_; rintro e w8 ⟨rfl, b8⟩
  have B8 := Lib.hid (B7.out.trans (b8.mono B7.out.size))
  have OW8 := Lib.hid (own_below OW7.out b8)
  have OG8 := Lib.hid (own_below OG7.out b8)
  clear b8
  go_wp2_with fail
  refine (markTx_any L _ _ _ _ 1 w8 OG8.out rfl (by omega) (by omega) (by omega)).mono ?_; rintro e w9 ⟨rfl, og9, g9⟩
  have B9 := Lib.hid (below_own B8.out OG8.out g9 (Nat.le_refl _) B8.out.size)
  have OW9 := Lib.hid (OW8.out.kept g9 (own_far (m := w2.heap.size) (fun k hk => by have := NW.out k hk; omega) NG.out))
  have OG9 := Lib.hid og9
  clear og9 g9
  go_wp2_with fail
  refine (heldTx_any w.heap.size _ _ _ 1 w9 (Reads.of_own OG9.out) (by omega) (by omega) (by omega)).mono ?_; rintro e w10 ⟨rfl, b10⟩
  have B10 := Lib.hid (B9.out.trans (b10.mono B9.out.size))
  have OW10 := Lib.hid (own_below OW9.out b10)
  have OG10 := Lib.hid (own_below OG9.out b10)
  clear b10
  go_wp2_with fail
  refine (toBalS_any xs A c w10 (H.out _ B10.out).1 hsm).mono ?_; rintro e wa ⟨rfl, ha, ba⟩
  have Ba := Lib.hid (B10.out.trans (ba.mono B10.out.size))
  have OWa := Lib.hid (own_below OW10.out ba)
  have OGa := Lib.hid (own_below OG10.out ba)
  have Ra := Lib.hid (show HasBal wa xs _ from ⟨blk_rd ha (baC_len xs), hm', HN.out⟩)
  clear ba ha
  go_wp2_with fail
  refine (HI.out _ _ wa Ra.out).mono ?_; rintro e wb ⟨vh, rfl, oh, bb⟩
  obtain ⟨Ah, ch, rfl, _⟩ := own_shape oh
  have Bb := Lib.hid (Ba.out.trans (bb.mono Ba.out.size))
  have OWb := Lib.hid (own_below OWa.out bb)
  have OGb := Lib.hid (own_below OGa.out bb)
  have OHb := Lib.hid oh
  clear oh bb
  go_wp2_with fail
  refine (eqTx_same L _ rfl _ _ _ _ wb (Reads.of_own OHb.out) (Reads.of_own OWb.out) hL).mono ?_; rintro e wd ⟨rfl, bd⟩
  have Bd := Lib.hid (Bb.out.trans (bd.mono Bb.out.size))
  have OGd := Lib.hid (own_below OGb.out bd)
  clear bd
  go_wp2_with fail
  refine (heldTx_any w.heap.size _ _ _ 1 wd (Reads.of_own OGd.out) (by omega) (by omega) (by omega)).mono ?_; rintro e we ⟨rfl, be⟩
  go_wp2_with fail
  go_ret
  exact ⟨rfl, Bd.out.trans (be.mono Bd.out.size)⟩
end Go.Proofs.YtlcfpaghipjgiaaDoor
