/- The law of TakeStep returns true for every list and step: the walk of the law. -/
import Derived.Test.YteffnidkkeeaiaaRows
import Derived.Test.YteffnidkkeeaiaaL0
import Derived.Test.YteffnidkkeeaiaaM0
import Derived.WalkKit
import Derived.ProofKit
import Derived.OpenShut
import Derived.BigQuiet
import Derived.Outline
import Derived.WalkSpells
import Derived.WalkLawsBesides
import Derived.Deep.DeepCutAuto
import Derived.Test.YteffnidkkeeaiaaB7
import Derived.Test.YteffnidkkeeaiaaC1
import Derived.Test.YteffnidkkeeaiaaC4
import Derived.Deep.RegionHeld3
import Derived.Deep.AppendLies
import Derived.Lib.Hide
namespace Go.Proofs.Yteffnidkkeeaiaa
open Go.ChangeShapes Go.WideShapes Go.ChangeAt Go.RowKit

theorem blk_own {w : World} {g : Nat} {t : TypeId} {size n base : Nat} {L : List Value} (h : Blk w g t L.toArray) (hl : L.length = n * size) (hb : base ≤ g) (hn : n ≤ maxLen) : w.ownsRow base t size (.slice (some ⟨g, 0, none⟩) n n) n L :=
  ⟨hl, .inr ⟨g, n, L.toArray, rfl, hb, h, Nat.le_refl _, hn, by simpa using hl, by simp [← hl]⟩⟩
theorem eqStepS_same {L : List Stp} {n : Nat} (hn : L.length = n) (A A' : Option Addr) (c c' : Nat) (w : World) (hr : Reads w w.heap.size 2 A n (stC L)) (hr' : Reads w w.heap.size 2 A' n (stC L)) (hm : n ≤ 9223372036854775807) :
    Calls Try.prog 23 #[.slice A n c, .slice A' n c'] w fun e w' => e = .returned (.bool true) ∧ Below w.heap.size w w' := by
  subst hn
  have := eqStepS_any L L A A' c c' w hr hr' hm
  rwa [decide_eq_true rfl] at this
theorem takeR_len (xs : List Stp) (x : Stp) : (takeR xs x).1.length ≤ 12 := by
  unfold takeR
  split
  · split
    · exact isProc_len ‹_›
    · simp
  · simp

theorem own_far {a b : Value} {m : Nat} (h1 : ∀ k, a.ownBlock = some k → k < m) (h2 : ∀ k, b.ownBlock = some k → m ≤ k) : a.ownBlock = none ∨ a.ownBlock ≠ b.ownBlock := by
  cases ha : a.ownBlock with
  | none => exact .inl rfl
  | some k => exact .inr (fun h => by have := h1 k ha; have := h2 k h.symm; omega)

theorem lawTake_big (A : Option Addr) (n c : Nat) (day kind : Int) (w : World) (h : 1048576 < n) (hn : n ≤ 9223372036854775807) :
    Calls Try.prog 8 #[.slice A n c, .agg #[.int .i64 day, .int .i64 kind]] w fun e w' => e = .returned (.bool true) ∧ Below w.heap.size w w' := by
  go_enter Try.func8, Try.ntmps8
  go_wp2_with fail
  refine (sz_big _ _ _ hn h _).mono ?_; rintro e w' ⟨rfl, rfl⟩
  go_wp2_with fail
  go_ret
  exact ⟨rfl, (Below.refl _ _).alloc (Nat.le_refl _) _⟩

set_option maxRecDepth 100000 in
set_option maxHeartbeats 4000000 in
theorem lawTake_small (xs : List Stp) (A : Option Addr) (c : Nat) (day kind : Int) (w : World) (hr : Reads w w.heap.size 2 A xs.length (stC xs)) (hm : xs.length ≤ 1048576) :
    Calls Try.prog 8 #[.slice A xs.length c, .agg #[.int .i64 day, .int .i64 kind]] w fun e w' => e = .returned (.bool true) ∧ Below w.heap.size w w' := by
  have hL0 := takeR_len xs (day, kind)
  obtain ⟨L, code, hLc⟩ : ∃ L code, takeR xs (day, kind) = (L, code) := ⟨_, _, rfl⟩
  rw [hLc] at hL0
  have R : ∀ W, Below w.heap.size w W → Reads W W.heap.size 2 A xs.length (stC xs) := fun W hb => (hr.below hb).more hb.size
  have HR := Lib.hid R; clear R hr
  have hm' : xs.length ≤ 9223372036854775807 := by omega
  have S : ∀ A c w, Reads w w.heap.size 2 A xs.length (stC xs) → Calls Try.prog 30 #[.slice A xs.length c, .agg #[.int .i64 day, .int .i64 kind]] w fun e w' => ∃ v, e = .returned (.tuple #[v, .int .i64 code]) ∧ w'.ownsRow w.heap.size 50 2 v L.length (stC L) ∧ Below w.heap.size w w' := fun A c w hr => by
    have := specTake_any xs day kind A c w hr hm'
    rwa [hLc] at this
  have I : ∀ A c w, Reads w w.heap.size 2 A xs.length (stC xs) → (A = none → c = 0) → Calls Try.prog 32 #[.slice A xs.length c, .agg #[.int .i64 day, .int .i64 kind]] w fun e w' => ∃ v, e = .returned (.tuple #[v, .int .i64 code]) ∧ w'.ownsRow w.heap.size 50 2 v L.length (stC L) ∧ Below w.heap.size w w' := fun A c w hr hA => by
    have := implTake_any xs day kind A c w hr hm' hA
    rwa [hLc] at this
  have HS := Lib.hid S; have HI := Lib.hid I; clear S I hLc
  dsimp only at hL0
  have hL : L.length ≤ 9223372036854775807 := by omega
  go_enter Try.func8, Try.ntmps8
  go_wp2_with fail
  refine (sz_small _ _ _ hm _).mono ?_; rintro e w' ⟨rfl, rfl⟩
  go_upto_region 5 with (fail)
  generalize hW : w.alloc (.cells #[.int .i64 day, .int .i64 kind] 47) = W
  have hbW : Below w.heap.size w W := by rw [← hW]; exact (Below.refl _ _).alloc (Nat.le_refl _) _
  have SB := Lib.hid (show Blk W w.heap.size 47 #[.int .i64 day, .int .i64 kind] by rw [← hW]; exact Blk.new _ _ _)
  clear hW
  have s0 := SB.out.cell 0
  have s1 := SB.out.cell 1
  simp only [List.getElem?_toArray, List.getElem?_cons_succ, List.getElem?_cons_zero] at s0 s1
  have z1 := SB.out.lt
  go_cut [6, 7] (fun va vb wx => ∃ A0 c0, va = .slice A0 L.length c0 ∧ vb = .int .i64 code ∧ wx.ownsRow W.heap.size 50 2 (.slice A0 L.length c0) L.length (stC L) ∧ Below W.heap.size W wx)
  case first =>
    go_region_held3 (fun w' => w'.cell? ⟨w.heap.size, 0, none⟩ = some (.int .i64 day) ∧ w'.cell? ⟨w.heap.size, 1, none⟩ = some (.int .i64 kind))
      (first | exact ⟨k0, k1⟩ | (go_keep; done) | ((try dsimp only); (repeat' apply And.intro) <;> (go_keep; done)))
      (first | (go_at_call 21; refine (toStepS_any xs A c W.drew (by exact HR.out _ hbW.drew) hm).mono ?_; rintro e wa ⟨rfl, ha, ba⟩; have Ba : Below W.heap.size W wa := (Below.refl W.heap.size W).drew.trans ba; have Ra := Lib.hid (blk_reads ha (stC_len xs)); clear ha; have k0 := (Ba.cell (p := ⟨w.heap.size, 0, none⟩) z1).trans s0; have k1 := (Ba.cell (p := ⟨w.heap.size, 1, none⟩) z1).trans s1) | (go_at_call 31; refine (toStep_any day kind wa).mono ?_; rintro e wb ⟨rfl, bb⟩; have Bb : Below W.heap.size W wb := Ba.trans (bb.mono Ba.size); have Rb := Lib.hid ((Ra.out.below bb).more bb.size); have k0 := (Bb.cell (p := ⟨w.heap.size, 0, none⟩) z1).trans s0; have k1 := (Bb.cell (p := ⟨w.heap.size, 1, none⟩) z1).trans s1) | (go_at_call 31; refine (toStep_any day kind W.drew).mono ?_; rintro e wc ⟨rfl, bc⟩; have Bc : Below W.heap.size W wc := (Below.refl W.heap.size W).drew.trans bc; have k0 := (Bc.cell (p := ⟨w.heap.size, 0, none⟩) z1).trans s0; have k1 := (Bc.cell (p := ⟨w.heap.size, 1, none⟩) z1).trans s1) | (go_at_call 21; refine (toStepS_any xs A c wc (by exact HR.out _ (hbW.trans (Bc.mono hbW.size))) hm).mono ?_; rintro e wb ⟨rfl, ha, bb⟩; have Bb : Below W.heap.size W wb := Bc.trans (bb.mono Bc.size); have Rb := Lib.hid (blk_reads ha (stC_len xs)); clear ha; have k0 := (Bb.cell (p := ⟨w.heap.size, 0, none⟩) z1).trans s0; have k1 := (Bb.cell (p := ⟨w.heap.size, 1, none⟩) z1).trans s1) | (go_at_call 30; refine (HS.out _ _ wb Rb.out).mono ?_; rintro e wd ⟨vd, rfl, od, bd⟩; have Bd : Below W.heap.size W wd := Bb.trans (bd.mono Bb.size); have Od := Lib.hid (own_mono od Bb.size); clear od bd; have k0 := (Bd.cell (p := ⟨w.heap.size, 0, none⟩) z1).trans s0; have k1 := (Bd.cell (p := ⟨w.heap.size, 1, none⟩) z1).trans s1) | fail)
    all_goals
      go_wp2_with fail
      go_meet
      obtain ⟨A0, c0, rfl, _⟩ := own_shape Od.out
      exact ⟨A0, c0, rfl, rfl, Od.out, Bd⟩
  case rest =>
    obtain ⟨A0, c0, rfl, rfl, own0, b0⟩ := hcut
    have B0 := Lib.hid (hbW.trans (b0.mono hbW.size))
    have SB0 := Lib.hid (SB.out.below b0 z1)
    have OW0 := Lib.hid (own_mono own0 hbW.size)
    clear own0 b0 hbW SB s0 s1 z1
    -- the copy that is given to the program
    go_wp2_with fail
    refine (toStepS_any xs A c wc (HR.out _ B0.out) hm).mono ?_; rintro e w1 ⟨rfl, h1, b1⟩
    have B1 := Lib.hid (B0.out.trans (b1.mono B0.out.size))
    have SB1 := Lib.hid (SB0.out.below b1 SB0.out.lt)
    have OW1 := Lib.hid (own_below OW0.out b1)
    have NW := Lib.hid (fun k hk => (own_lt OW0.out k hk).2)
    have OX1 := Lib.hid (blk_own (base := w.heap.size) h1 (stC_len xs) B0.out.size (by unfold maxLen; omega))
    have zx := h1.lt
    have u0 := SB1.out.cell 0
    have u1 := SB1.out.cell 1
    simp only [List.getElem?_toArray, List.getElem?_cons_succ, List.getElem?_cons_zero] at u0 u1
    clear h1 b1
    go_wp2_with fail
    refine (toStep_any day kind w1).mono ?_; rintro e w2 ⟨rfl, b2⟩
    have zx2 : wc.heap.size < w2.heap.size := Nat.lt_of_lt_of_le zx b2.size
    have B2 := Lib.hid (B1.out.trans (b2.mono B1.out.size))
    have SB2 := Lib.hid (SB1.out.below b2 SB1.out.lt)
    have OW2 := Lib.hid (own_below OW1.out b2)
    have OX2 := Lib.hid (own_below OX1.out b2)
    clear b2 u0 u1 zx
    go_wp2_with fail
    refine (HI.out _ _ w2 (Reads.of_own OX2.out) (by intro h; cases h)).mono ?_; rintro e w3 ⟨v3, rfl, og, b3⟩
    obtain ⟨Ag, cg, rfl, _⟩ := own_shape og
    have NG := Lib.hid (fun k hk => (own_lt og k hk).1)
    have B3 := Lib.hid (B2.out.trans (b3.mono B2.out.size))
    have SB3 := Lib.hid (SB2.out.below b3 SB2.out.lt)
    have OW3 := Lib.hid (own_below OW2.out b3)
    have OX3 := Lib.hid (own_below OX2.out b3)
    have OG3 := Lib.hid (own_mono og B2.out.size)
    clear b3 og
    go_wp2_with fail
    refine (eqStepS_same rfl _ _ _ _ w3 (Reads.of_own OG3.out) (Reads.of_own OW3.out) hL).mono ?_; rintro e w4 ⟨rfl, b4⟩
    have B4 := Lib.hid (B3.out.trans (b4.mono B3.out.size))
    have SB4 := Lib.hid (SB3.out.below b4 SB3.out.lt)
    have OW4 := Lib.hid (own_below OW3.out b4)
    have OX4 := Lib.hid (own_below OX3.out b4)
    have OG4 := Lib.hid (own_below OG3.out b4)
    clear b4
    go_wp2_with fail
    refine (toStepS_any xs A c w4 (HR.out _ B4.out) hm).mono ?_; rintro e w5 ⟨rfl, h5, b5⟩
    have B5 := Lib.hid (B4.out.trans (b5.mono B4.out.size))
    have SB5 := Lib.hid (SB4.out.below b5 SB4.out.lt)
    have OW5 := Lib.hid (own_below OW4.out b5)
    have OX5 := Lib.hid (own_below OX4.out b5)
    have OG5 := Lib.hid (own_below OG4.out b5)
    have R5 := Lib.hid (blk_reads h5 (stC_len xs))
    clear b5 h5
    go_wp2_with fail
    refine (eqStepS_same rfl _ _ _ _ w5 (Reads.of_own OX5.out) R5.out hm').mono ?_; rintro e w6 ⟨rfl, b6⟩
    have B6 := Lib.hid (B5.out.trans (b6.mono B5.out.size))
    have SB6 := Lib.hid (SB5.out.below b6 SB5.out.lt)
    have OW6 := Lib.hid (own_below OW5.out b6)
    have OX6 := Lib.hid (own_below OX5.out b6)
    have OG6 := Lib.hid (own_below OG5.out b6)
    clear b6
    -- the copy is marked
    go_wp2_with fail
    refine (markStepS_any xs _ _ _ _ 1 w6 OX6.out rfl (by omega) (by omega) (by omega)).mono ?_; rintro e w7 ⟨rfl, ox7, g7⟩
    have B7 := Lib.hid (below_own B6.out OX6.out g7 (Nat.le_refl _) B6.out.size)
    have OW7 := Lib.hid (OW6.out.kept g7 (own_far (m := wc.heap.size) NW.out (fun k hk => by simp [Value.ownBlock] at hk; omega)))
    have OG7 := Lib.hid (OG6.out.kept g7 (.inr (fun h => by have h' := NG.out _ h; dsimp only at h'; omega)))
    have SB7 := Lib.hid (SB6.out.grown g7 (by intro h; simp [Value.ownBlock] at h; have := SB0.out.lt; omega))
    clear ox7 g7
    go_wp2_with fail
    refine (eqStepS_same rfl _ _ _ _ w7 (Reads.of_own OG7.out) (Reads.of_own OW7.out) hL).mono ?_; rintro e w8 ⟨rfl, b8⟩
    have B8 := Lib.hid (B7.out.trans (b8.mono B7.out.size))
    have SB8 := Lib.hid (SB7.out.below b8 SB7.out.lt)
    have OW8 := Lib.hid (own_below OW7.out b8)
    have OG8 := Lib.hid (own_below OG7.out b8)
    clear b8
    -- the result is marked
    go_wp2_with fail
    refine (markStepS_any L _ _ _ _ 1 w8 OG8.out rfl (by omega) (by omega) (by omega)).mono ?_; rintro e w9 ⟨rfl, og9, g9⟩
    have B9 := Lib.hid (below_own B8.out OG8.out g9 (Nat.le_refl _) B8.out.size)
    have OW9 := Lib.hid (OW8.out.kept g9 (own_far (m := w2.heap.size) (fun k hk => by have := NW.out k hk; omega) NG.out))
    have SB9 := Lib.hid (SB8.out.grown g9 (by intro h; have := NG.out _ h.symm; have := SB0.out.lt; omega))
    have OG9 := Lib.hid og9
    clear og9 g9
    go_wp2_with fail
    refine (heldStepS_any _ _ _ _ 1 w9 (Reads.of_own OG9.out) (by omega) (by omega) (by omega)).mono ?_; rintro e w' ⟨rfl, rfl⟩
    go_upto_region 24 with (fail)
    have s0 := SB9.out.cell 0
    have s1 := SB9.out.cell 1
    simp only [List.getElem?_toArray, List.getElem?_cons_succ, List.getElem?_cons_zero] at s0 s1
    have z1 := SB9.out.lt
    go_cut [14, 15] (fun va vb wx => ∃ A0 c0, va = .slice A0 L.length c0 ∧ vb = .int .i64 code ∧ wx.ownsRow w9.heap.size 50 2 (.slice A0 L.length c0) L.length (stC L) ∧ Below w9.heap.size w9 wx)
    case first =>
      go_region_held3 (fun w' => w'.cell? ⟨w.heap.size, 0, none⟩ = some (.int .i64 day) ∧ w'.cell? ⟨w.heap.size, 1, none⟩ = some (.int .i64 kind))
        (first | exact ⟨k0, k1⟩ | (go_keep; done) | ((try dsimp only); (repeat' apply And.intro) <;> (go_keep; done)))
        (first | (go_at_call 21; refine (toStepS_any xs A c w9.drew (by exact HR.out _ B9.out.drew) hm).mono ?_; rintro e wa ⟨rfl, ha, ba⟩; have Ba : Below w9.heap.size w9 wa := (Below.refl w9.heap.size w9).drew.trans ba; have Ra := Lib.hid (blk_reads ha (stC_len xs)); clear ha; have k0 := (Ba.cell (p := ⟨w.heap.size, 0, none⟩) z1).trans s0; have k1 := (Ba.cell (p := ⟨w.heap.size, 1, none⟩) z1).trans s1) | (go_at_call 31; refine (toStep_any day kind wa).mono ?_; rintro e wb ⟨rfl, bb⟩; have Bb : Below w9.heap.size w9 wb := Ba.trans (bb.mono Ba.size); have Rb := Lib.hid ((Ra.out.below bb).more bb.size); have k0 := (Bb.cell (p := ⟨w.heap.size, 0, none⟩) z1).trans s0; have k1 := (Bb.cell (p := ⟨w.heap.size, 1, none⟩) z1).trans s1) | (go_at_call 31; refine (toStep_any day kind w9.drew).mono ?_; rintro e wc ⟨rfl, bc⟩; have Bc : Below w9.heap.size w9 wc := (Below.refl w9.heap.size w9).drew.trans bc; have k0 := (Bc.cell (p := ⟨w.heap.size, 0, none⟩) z1).trans s0; have k1 := (Bc.cell (p := ⟨w.heap.size, 1, none⟩) z1).trans s1) | (go_at_call 21; refine (toStepS_any xs A c wc (by exact HR.out _ (B9.out.trans (Bc.mono B9.out.size))) hm).mono ?_; rintro e wb ⟨rfl, ha, bb⟩; have Bb : Below w9.heap.size w9 wb := Bc.trans (bb.mono Bc.size); have Rb := Lib.hid (blk_reads ha (stC_len xs)); clear ha; have k0 := (Bb.cell (p := ⟨w.heap.size, 0, none⟩) z1).trans s0; have k1 := (Bb.cell (p := ⟨w.heap.size, 1, none⟩) z1).trans s1) | (go_at_call 32; refine (HI.out _ _ wb Rb.out (by intro h; cases h)).mono ?_; rintro e wd ⟨vd, rfl, od, bd⟩; have Bd : Below w9.heap.size w9 wd := Bb.trans (bd.mono Bb.size); have Od := Lib.hid (own_mono od Bb.size); clear od bd; have k0 := (Bd.cell (p := ⟨w.heap.size, 0, none⟩) z1).trans s0; have k1 := (Bd.cell (p := ⟨w.heap.size, 1, none⟩) z1).trans s1) | fail)
      all_goals
        go_wp2_with fail
        go_meet
        obtain ⟨A0, c0, rfl, _⟩ := own_shape Od.out
        exact ⟨A0, c0, rfl, rfl, Od.out, Bd⟩
    case rest =>
      clear s0 s1 z1
      obtain ⟨Ah, ch, rfl, rfl, oh, b10⟩ := hcut
      rename_i wcc
      have B10 := Lib.hid (B9.out.trans (b10.mono B9.out.size))
      have OW10 := Lib.hid (own_below OW9.out b10)
      have OG10 := Lib.hid (own_below OG9.out b10)
      have OH10 := Lib.hid oh
      clear oh b10
      go_wp2_with fail
      refine (eqStepS_same rfl _ _ _ _ _ (Reads.of_own OH10.out) (Reads.of_own OW10.out) hL).mono ?_; rintro e w11 ⟨rfl, b11⟩
      have B11 := Lib.hid (B10.out.trans (b11.mono B10.out.size))
      have OG11 := Lib.hid (own_below OG10.out b11)
      clear b11
      go_wp2_with fail
      refine (heldStepS_any _ _ _ _ 1 w11 (Reads.of_own OG11.out) (by omega) (by omega) (by omega)).mono ?_; rintro e w' ⟨rfl, rfl⟩
      go_wp2_with fail
      go_ret
      exact ⟨rfl, B11.out⟩
end Go.Proofs.Yteffnidkkeeaiaa
