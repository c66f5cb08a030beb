/- DrawRegionOf, DrawCenterOf of the reference. -/
import Derived.Test.YtaaioengebaebaaGreatDoorRows
import Derived.Test.YtaaioengebaebaaGreatDoorK8GA
import Derived.WalkKit
import Derived.ProofKit
import Derived.OpenShut
import Derived.BigQuiet
import Derived.Outline
import Derived.WalkSpells
import Derived.WalkLawsBesides
import Derived.Deep.DeepCutAuto
import Derived.Test.YtaaioengebaebaaGreatDoorK8RQ5
import Derived.Test.YtaaioengebaebaaGreatDoorK8GN
import Derived.Test.YtaaioengebaebaaGreatDoorK8GB
namespace Go.Proofs.YtaaioengebaebaaGreatDoor
open Go.ChangeShapes Go.WideShapes Go.ChangeAt Go.RowKit

set_option maxRecDepth 100000 in
/-- l01From over a base that lies lower than the world. -/
theorem from_anyB (bs : List UInt8) (A : Option Addr) (c B : Nat) (w : World) (hB : B ≤ w.heap.size) (hr : Reads w B 1 A bs.length (byC bs)) (hn : bs.length ≤ 4096) :
    Calls Tryz.prog 65 #[.slice A bs.length c] w fun e w' => ∃ g, e = .returned (.pointer (some ⟨g, 0, none⟩)) ∧ Src w' B g ∧ w.heap.size ≤ g ∧ Below w.heap.size w w' := by
  have HR := Lib.hid hr; clear hr
  go_enter Tryz.func65, Tryz.ntmps65
  go_wp2_with fail
  go_loopw [4] (fun v4 wr => ∃ (k : Nat) (seed : Int), k ≤ bs.length ∧ 0 ≤ seed ∧ seed < 2147483647 ∧ Hid (Blk wr w.heap.size 118 #[.slice A bs.length c, .int .i64 0, .int .i64 seed]) ∧ Hid (Below w.heap.size w wr) ∧ v4 = .int .i64 k) (fun i _ => bs.length - (intOf i).toNat)
  case atStart => exact ⟨0, 51031, by omega, by omega, by omega, Blk.new _ _ _, (Below.refl _ _).alloc (Nat.le_refl _) _, rfl⟩
  case round =>
    obtain ⟨k, seed, hk, hs0, hs1, HB, BW, rfl⟩ := hrel
    by_cases hlt : k < bs.length ∧ k < 64
    · obtain ⟨hlt, h64⟩ := hlt
      obtain ⟨ab, ao, rfl, hadb, hcell⟩ := (HR.out.below (BW.out.mono hB)).2 (by omega)
      have c0 := hcell _ _ (byC_get bs k hlt)
      clear hcell
      have hby : bs[k].toNat < 256 := bs[k].toNat_lt
      generalize bs[k].toNat = b at c0 hby
      obtain ⟨c1, c2, c3, c4, c5⟩ := three_cells HB.out
      have e1 : IntKind.i64.wrap (seed * 73) = seed * 73 := IntWalk.i64_in _ (by omega)
      have e2 : IntKind.i64.wrap (seed * 73 + b) = seed * 73 + b := IntWalk.i64_in _ (by omega)
      have e3 : (seed * 73 + (b : Int)).tmod 2147483647 = (seed * 73 + b) % 2147483647 := Int.tmod_eq_emod_of_nonneg (by omega)
      go_wp2_with fail
      go_still_tail 15, (by kernel_rfl)
      change wpList _ _ _ _ _ (World.drew _)
      go_wp2_with fail
      go_roundw
      case rel =>
        refine ⟨k + 1, (seed * 73 + b) % 2147483647, by omega, by omega, by omega, ?_, BW.out.drew.setCell (Nat.le_refl _) _, by go_num⟩
        refine Lib.hid ?_
        simpa [World.setCell_drew] using (HB.out.set_ 2 _).drew
      case measure => simp [intOf]; omega
    · go_wp2_with fail
      all_goals
        go_ret
        exact ⟨w.heap.size, rfl, ⟨bs, A, c, 0, seed, (HR.out.below (BW.out.mono hB)), hn, by omega, hs0, hs1, hB, HB.out⟩, Nat.le_refl _, BW.out⟩
theorem codeB (A : Option Addr) (n c : Nat) (w W : World) (h : Code8 w A n) (hb : Below w.heap.size w W) :
    Calls Tryz.prog 65 #[.slice A n c] W fun e w' => ∃ g, e = .returned (.pointer (some ⟨g, 0, none⟩)) ∧ Src w' w.heap.size g ∧ W.heap.size ≤ g ∧ Below W.heap.size W w' := by
  obtain ⟨bs, rfl, h2, h3⟩ := h
  exact from_anyB bs A c w.heap.size W hb.size (h3.below hb) h2
/-- A drawn mask. -/
def DrawnC (w : World) (e : Ending) (w' : World) : Prop := ∃ (x y W H : Int) (L : List Bool) (A : Option Addr) (c : Nat), e = .returned (.agg #[.int .i64 x, .int .i64 y, .int .i64 W, .int .i64 H, .slice A L.length c]) ∧ w'.ownsRow w.heap.size 4 1 (.slice A L.length c) L.length (bC L) ∧ L.length ≤ 700 ∧ Below w.heap.size w w'
set_option maxRecDepth 100000 in
set_option maxHeartbeats 4000000 in
theorem drawCen_any (A : Option Addr) (n c : Nat) (w : World) (h : Code8 w A n) :
    Calls Tryz.prog 32 #[.slice A n c] w (DrawnC w) := by
  have HC := Lib.hid h; clear h
  have KN := Lib.hid (blks_one w 40 #[.int .i64 0, .int .i64 0, .int .i64 0, .int .i64 0, .slice none 0 0])
  go_enter Tryz.func32, Tryz.ntmps32
  go_wp2_with fail
  generalize hW : w.alloc (.cells #[.int .i64 0, .int .i64 0, .int .i64 0, .int .i64 0, .slice none 0 0] 40) = W
  obtain ⟨b0r, bw, hwz⟩ := KN.out W hW.symm
  have hwz := Nat.le_of_eq hwz.symm
  clear hW KN
  refine (codeB A n c w W HC.out bw).mono ?_
  rintro e w1 ⟨g, rfl, hs1, hgb, b1⟩
  obtain ⟨B, hBe⟩ : ∃ B, B = w.heap.size := ⟨_, rfl⟩
  rw [← hBe] at hs1
  have hB : B ≤ w.heap.size := by omega
  have hB0 : w.heap.size ≤ B := by omega
  have hB2 : B ≤ w1.heap.size := by have := b1.size; omega
  have hgl := hs1.lt
  have N1 := Lib.hid (only_of_below (bw.trans (b1.mono bw.size)) : Only w w1 g)
  have Kr1 := Lib.hid (b0r.below b1 b0r.lt)
  have S1 := Lib.hid hs1
  have hw1 : w.heap.size + 1 ≤ w1.heap.size := by have := b1.size; omega
  have hg1 : w.heap.size + 1 ≤ g := by omega
  clear b0r bw hs1 b1 hBe hwz HC
  go_wp2_with fail
  refine (drawM_any B g w1 S1.out (by omega)).mono ?_
  rintro e w2 ⟨x, y, W, H, L, A, c, rfl, ownm, hlm, _, _, hs2, ho2⟩
  have OM2 := Lib.hid ownm
  clear ownm
  have Kr2 := Lib.hid ((Kr1.out).grown ho2 (by intro e; injection e with e; omega))
  have N2 := Lib.hid (only_trans N1.out ho2)
  have S2 := Lib.hid hs2
  have szq2 : w1.heap.size ≤ w2.heap.size := by have := ho2.size; (try simp at this); omega
  clear ho2 hs2 S1 N1 Kr1
  obtain ⟨fr0, fr1, fr2, fr3, fr4, fr5, fr6, fr7, fr8, fr9, fr10, fr11, fr12, fr13, fr14⟩ := facts_5 Kr2.out
  obtain ⟨kq, kept⟩ := stored_5 Kr2.out S2.out N2.out (Nat.le_refl _) (by omega) hB (.int .i64 x) (.int .i64 y) (.int .i64 W) (.int .i64 H) (.slice A L.length c) _ rfl
  have GOM := Lib.hid (kept.own OM2.out (fun k hk => by have := (own_lt OM2.out k hk).1; omega))
  have NG := Lib.hid kept.only
  obtain ⟨q0, q1, q2, q3, q4⟩ := cells_5 kq
  clear kq kept
  go_wp2_with fail
  exact bodyPost_ret (v := .agg #[.int .i64 x, .int .i64 y, .int .i64 W, .int .i64 H, .slice A L.length c]) (by simp [results, Tryz.results32, go_sem, q0, q1, q2, q3, q4, fr10, fr11, fr12, fr13, fr14]) rfl ⟨x, y, W, H, L, A, c, rfl, own_mono GOM.out (by omega), by omega, only_below NG.out (by omega) (Nat.le_refl _)⟩
/-- Drawn sites, descriptions and a mask. -/
def DrawnR (w : World) (e : Ending) (w' : World) : Prop := ∃ (L : List Sit) (M : List Dsc) (x y W H : Int) (K : List Bool) (Bq Bm Bk : Option Addr) (dq dm dk : Nat), e = .returned (.tuple #[.slice Bq L.length dq, .slice Bm M.length dm, .agg #[.int .i64 x, .int .i64 y, .int .i64 W, .int .i64 H, .slice Bk K.length dk]]) ∧ w'.ownsRow w.heap.size 77 3 (.slice Bq L.length dq) L.length (siC L) ∧ w'.ownsRow w.heap.size 79 6 (.slice Bm M.length dm) M.length (dsC M) ∧ w'.ownsRow w.heap.size 4 1 (.slice Bk K.length dk) K.length (bC K) ∧ (∀ s ∈ L, SmallSt s) ∧ L.length ≤ 30 ∧ (∀ s ∈ M, s.Ok) ∧ M.length ≤ 20 ∧ K.length ≤ 700 ∧ Below w.heap.size w w'
set_option maxRecDepth 100000 in
set_option maxHeartbeats 4000000 in
theorem drawReg_any (A : Option Addr) (n c : Nat) (w : World) (h : Code8 w A n) :
    Calls Tryz.prog 31 #[.slice A n c] w (DrawnR w) := by
  have HC := Lib.hid h; clear h
  have KN := Lib.hid (blks_one w 40 #[.int .i64 0, .int .i64 0, .int .i64 0, .int .i64 0, .slice none 0 0])
  go_enter Tryz.func31, Tryz.ntmps31
  go_wp2_with fail
  generalize hW : w.alloc (.cells #[.int .i64 0, .int .i64 0, .int .i64 0, .int .i64 0, .slice none 0 0] 40) = W
  obtain ⟨b0r, bw, hwz⟩ := KN.out W hW.symm
  have hwz := Nat.le_of_eq hwz.symm
  clear hW KN
  refine (codeB A n c w W HC.out bw).mono ?_
  rintro e w1 ⟨g, rfl, hs1, hgb, b1⟩
  obtain ⟨B, hBe⟩ : ∃ B, B = w.heap.size := ⟨_, rfl⟩
  rw [← hBe] at hs1
  have hB : B ≤ w.heap.size := by omega
  have hB0 : w.heap.size ≤ B := by omega
  have hB2 : B ≤ w1.heap.size := by have := b1.size; omega
  have hgl := hs1.lt
  have N1 := Lib.hid (only_of_below (bw.trans (b1.mono bw.size)) : Only w w1 g)
  have Kr1 := Lib.hid (b0r.below b1 b0r.lt)
  have S1 := Lib.hid hs1
  have hw1 : w.heap.size + 1 ≤ w1.heap.size := by have := b1.size; omega
  have hg1 : w.heap.size + 1 ≤ g := by omega
  clear b0r bw hs1 b1 hBe hwz HC
  go_wp2_with fail
  refine (listSt_any B g w1 S1.out (by omega)).mono ?_
  rintro e w2 ⟨L, Bq, dq, rfl, own, HL, hl, hs2, ho2⟩
  have HL := Lib.hid HL
  have OL2 := Lib.hid own
  clear own
  have Kr2 := Lib.hid ((Kr1.out).grown ho2 (by intro e; injection e with e; omega))
  have N2 := Lib.hid (only_trans N1.out ho2)
  have S2 := Lib.hid hs2
  have szq2 : w1.heap.size ≤ w2.heap.size := by have := ho2.size; (try simp at this); omega
  clear ho2 hs2 S1 N1 Kr1
  go_wp2_with fail
  refine (listD_any B g w2 S2.out (by omega)).mono ?_
  rintro e w3 ⟨M, Bm, dm, rfl, own, HM, hm, hs3, ho3⟩
  have HM := Lib.hid HM
  have OD3 := Lib.hid own
  clear own
  have OL3 := Lib.hid (own_only OL2.out ho3 (by omega))
  clear OL2
  have Kr3 := Lib.hid ((Kr2.out).grown ho3 (by intro e; injection e with e; omega))
  have N3 := Lib.hid (only_trans N2.out ho3)
  have S3 := Lib.hid hs3
  have szq3 : w2.heap.size ≤ w3.heap.size := by have := ho3.size; (try simp at this); omega
  clear ho3 hs3 S2 N2 Kr2
  go_wp2_with fail
  refine (maskD_any B g w3 S3.out (by omega)).mono ?_
  rintro e w4 ⟨x, y, W, H, K, Bk, dk, rfl, ownm, hlm, _, _, hs4, ho4⟩
  have OM4 := Lib.hid ownm
  clear ownm
  have OL4 := Lib.hid (own_only OL3.out ho4 (by omega))
  clear OL3
  have OD4 := Lib.hid (own_only OD3.out ho4 (by omega))
  clear OD3
  have Kr4 := Lib.hid ((Kr3.out).grown ho4 (by intro e; injection e with e; omega))
  have N4 := Lib.hid (only_trans N3.out ho4)
  have S4 := Lib.hid hs4
  have szq4 : w3.heap.size ≤ w4.heap.size := by have := ho4.size; (try simp at this); omega
  clear ho4 hs4 S3 N3 Kr3
  obtain ⟨fr0, fr1, fr2, fr3, fr4, fr5, fr6, fr7, fr8, fr9, fr10, fr11, fr12, fr13, fr14⟩ := facts_5 Kr4.out
  obtain ⟨kq, kept⟩ := stored_5 Kr4.out S4.out N4.out (Nat.le_refl _) (by omega) hB (.int .i64 x) (.int .i64 y) (.int .i64 W) (.int .i64 H) (.slice Bk K.length dk) _ rfl
  have GOL := Lib.hid (kept.own OL4.out (fun k hk => by have := (own_lt OL4.out k hk).1; omega))
  have GOD := Lib.hid (kept.own OD4.out (fun k hk => by have := (own_lt OD4.out k hk).1; omega))
  have GOM := Lib.hid (kept.own OM4.out (fun k hk => by have := (own_lt OM4.out k hk).1; omega))
  have NG := Lib.hid kept.only
  obtain ⟨q0, q1, q2, q3, q4⟩ := cells_5 kq
  clear kq kept
  go_wp2_with fail
  exact bodyPost_ret (v := .tuple #[.slice Bq L.length dq, .slice Bm M.length dm, .agg #[.int .i64 x, .int .i64 y, .int .i64 W, .int .i64 H, .slice Bk K.length dk]]) (by simp [results, Tryz.results31, go_sem, q0, q1, q2, q3, q4, fr10, fr11, fr12, fr13, fr14]) rfl ⟨L, M, x, y, W, H, K, Bq, Bm, Bk, dq, dm, dk, rfl, own_mono GOL.out (by omega), own_mono GOD.out (by omega), own_mono GOM.out (by omega), HL.out, hl, HM.out, hm, by omega, only_below NG.out (by omega) (Nat.le_refl _)⟩
end Go.Proofs.YtaaioengebaebaaGreatDoor
