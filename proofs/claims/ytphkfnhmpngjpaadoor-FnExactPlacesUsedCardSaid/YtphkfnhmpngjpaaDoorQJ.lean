/- The law of PlacesUsed returns true for all descriptions: the walk of the law. -/
import Derived.Test.YtphkfnhmpngjpaaDoorRows
import Derived.Test.YtphkfnhmpngjpaaDoorL0
import Derived.Test.YtphkfnhmpngjpaaDoorM0
import Derived.WalkKit
import Derived.ProofKit
import Derived.OpenShut
import Derived.BigQuiet
import Derived.Outline
import Derived.WalkSpells
import Derived.WalkLawsBesides
import Derived.Deep.DeepCutAuto
import Derived.Test.YtphkfnhmpngjpaaDoorQH
import Derived.Lib.Hide
namespace Go.Proofs.YtphkfnhmpngjpaaDoor
open Go.ChangeShapes Go.WideShapes Go.ChangeAt Go.RowKit

theorem far_own {a b : Value} {m : Nat} (h1 : ∀ k, a.ownBlock = some k → k < m) (h2 : ∀ k, b.ownBlock = some k → m ≤ k) : a.ownBlock = none ∨ a.ownBlock ≠ b.ownBlock := by
  cases ha : a.ownBlock with
  | none => exact .inl rfl
  | some k => exact .inr (fun h => by have := h1 k ha; have := h2 k h.symm; omega)
set_option maxRecDepth 100000 in
set_option maxHeartbeats 4000000 in
theorem lawPl_any (d : Dsc) (hd : d.Ok) (w : World) (hdir : Dirs w) :
    Calls Tryd.prog 8 #[d.val] w fun e w' => e = .returned (.bool true) ∧ Below w.heap.size w w' := by
  have hL : (placesR d).length ≤ 2 := by unfold placesR placesD; (repeat' split) <;> simp
  have HZ := Lib.hid (szD_any d hd)
  have HT := Lib.hid (toD_any d)
  have HS := Lib.hid (specPl_any d hd)
  have HI := Lib.hid (fun W (h : Below w.heap.size w W) => implPl_any d hd W (hdir.below h))
  generalize placesR d = L at HS HI hL
  generalize placesC d = n at HS HI
  generalize szD d = z at HZ
  obtain ⟨kind, count, unit, dir, a, b⟩ := d
  unfold Dsc.val at HZ HT HS HI ⊢
  dsimp only at HZ HT HS HI ⊢
  have KN := Lib.hid (dsc_new w 23 #[.int .i64 kind, .int .i64 count, .string unit, .int .i64 dir, .string a, .string b])
  by_cases hz : z < 0
  · go_enter Tryd.func8, Tryd.ntmps8
    go_wp2_with fail
    generalize hW : w.alloc (.cells #[.int .i64 kind, .int .i64 count, .string unit, .int .i64 dir, .string a, .string b] 23) = W
    obtain ⟨bk, bw⟩ := KN.out W hW.symm
    clear hW
    refine (HZ.out W).mono ?_; rintro e w1 ⟨rfl, b1⟩
    go_wp2_with fail
    go_ret
    exact ⟨rfl, bw.trans (b1.mono bw.size)⟩
  go_enter Tryd.func8, Tryd.ntmps8
  go_wp2_with fail
  generalize hW : w.alloc (.cells #[.int .i64 kind, .int .i64 count, .string unit, .int .i64 dir, .string a, .string b] 23) = W
  obtain ⟨bk, bw⟩ := KN.out W hW.symm
  clear hW
  refine (HZ.out W).mono ?_; rintro e w1 ⟨rfl, b1⟩
  have BK := Lib.hid bk
  have BL := Lib.hid bk.lt
  have B1 := Lib.hid b1
  have BW := Lib.hid bw
  clear bk b1 bw
  obtain ⟨k0, k1, k2, k3, k4, k5⟩ := dsc_cells (BK.out.below B1.out BL.out)
  go_wp2_with fail
  refine (HT.out _).mono ?_; rintro e w2 ⟨rfl, b2⟩
  have B2 := Lib.hid (B1.out.trans (b2.mono B1.out.size)); clear b2
  go_wp2_with fail
  refine (HS.out _).mono ?_; rintro e w3 ⟨v0, rfl, own0, b3⟩
  obtain ⟨A0, c0, rfl, _⟩ := own_shape own0
  have B3 := Lib.hid (B2.out.trans (b3.mono B2.out.size))
  have OW3 := Lib.hid (own_mono own0 B2.out.size)
  have NW := Lib.hid (fun k hk => (own_lt own0 k hk).2)
  clear own0 b3
  obtain ⟨k0, k1, k2, k3, k4, k5⟩ := dsc_cells (BK.out.below B3.out BL.out)
  go_wp2_with fail
  refine (HT.out _).mono ?_; rintro e w4 ⟨rfl, b4⟩
  have B4 := Lib.hid (B3.out.trans (b4.mono B3.out.size))
  have OW4 := Lib.hid (own_below OW3.out b4)
  have z34 := b4.size
  clear b4
  go_wp2_with fail
  refine (HI.out _ (BW.out.trans (B4.out.mono BW.out.size))).mono ?_; rintro e w5 ⟨vg, rfl, og, b5⟩
  obtain ⟨Ag, cg, rfl, _⟩ := own_shape og
  have B5 := Lib.hid (B4.out.trans (b5.mono B4.out.size))
  have OW5 := Lib.hid (own_below OW4.out b5)
  have OG5 := Lib.hid (own_mono og B4.out.size)
  have NG := Lib.hid (fun k hk => (own_lt og k hk).1)
  clear og b5
  go_wp2_with fail
  refine (eqTx_same L _ rfl _ _ _ _ w5 (Reads.of_own OG5.out) (Reads.of_own OW5.out) (by omega)).mono ?_; rintro e w6 ⟨rfl, b6⟩
  have B6 := Lib.hid (B5.out.trans (b6.mono B5.out.size))
  have OW6 := Lib.hid (own_below OW5.out b6)
  have OG6 := Lib.hid (own_below OG5.out b6)
  clear b6
  go_wp2_with fail
  refine (markTx_any L _ _ _ _ 1 w6 OG6.out rfl (by omega) (by omega) (by omega)).mono ?_; rintro e w7 ⟨rfl, og7, g7⟩
  have B7 := Lib.hid (below_own B6.out OG6.out g7 (Nat.le_refl _) B6.out.size)
  have OW7 := Lib.hid (OW6.out.kept g7 (far_own (m := w3.heap.size) NW.out (fun k hk => by have := NG.out k hk; omega)))
  have OG7 := Lib.hid og7
  clear og7 g7
  go_wp2_with fail
  refine (heldTx_any w.heap.size _ _ _ 1 w7 (Reads.of_own OG7.out) (by omega) (by omega) (by omega)).mono ?_; rintro e w8 ⟨rfl, b8⟩
  have B8 := Lib.hid (B7.out.trans (b8.mono B7.out.size))
  have OW8 := Lib.hid (own_below OW7.out b8)
  have OG8 := Lib.hid (own_below OG7.out b8)
  clear b8
  obtain ⟨k0, k1, k2, k3, k4, k5⟩ := dsc_cells (BK.out.below B8.out BL.out)
  go_wp2_with fail
  refine (HT.out _).mono ?_; rintro e w9 ⟨rfl, b9⟩
  have B9 := Lib.hid (B8.out.trans (b9.mono B8.out.size))
  have OW9 := Lib.hid (own_below OW8.out b9)
  have OG9 := Lib.hid (own_below OG8.out b9)
  clear b9
  go_wp2_with fail
  refine (HI.out _ (BW.out.trans (B9.out.mono BW.out.size))).mono ?_; rintro e wa ⟨vh, rfl, oh, ba⟩
  obtain ⟨Ah, ch, rfl, _⟩ := own_shape oh
  have Ba := Lib.hid (B9.out.trans (ba.mono B9.out.size))
  have OWa := Lib.hid (own_below OW9.out ba)
  have OGa := Lib.hid (own_below OG9.out ba)
  have OHa := Lib.hid oh
  clear oh ba
  go_wp2_with fail
  refine (eqTx_same L _ rfl _ _ _ _ wa (Reads.of_own OHa.out) (Reads.of_own OWa.out) (by omega)).mono ?_; rintro e wb ⟨rfl, bb⟩
  have Bb := Lib.hid (Ba.out.trans (bb.mono Ba.out.size))
  have OGb := Lib.hid (own_below OGa.out bb)
  clear bb
  go_wp2_with fail
  refine (heldTx_any w.heap.size _ _ _ 1 wb (Reads.of_own OGb.out) (by omega) (by omega) (by omega)).mono ?_; rintro e wc ⟨rfl, bc⟩
  go_wp2_with fail
  go_ret
  exact ⟨rfl, BW.out.trans ((Bb.out.trans (bc.mono Bb.out.size)).mono BW.out.size)⟩
end Go.Proofs.YtphkfnhmpngjpaaDoor
