/- l26Draw of the reference: a drawn thing, now and then spoilt. -/
import Derived.Test.YtihhpmhigmegjaaGreatDoorRows
import Derived.Test.YtihhpmhigmegjaaGreatDoorL0
import Derived.Test.YtihhpmhigmegjaaGreatDoorM0
import Derived.WalkKit
import Derived.ProofKit
import Derived.OpenShut
import Derived.BigQuiet
import Derived.Outline
import Derived.WalkSpells
import Derived.WalkLawsBesides
import Derived.Deep.DeepCutAuto
import Derived.Test.YtihhpmhigmegjaaGreatDoorPQG
import Derived.Test.YtihhpmhigmegjaaGreatDoorDY
namespace Go.Proofs.YtihhpmhigmegjaaGreatDoor
open Go.ChangeShapes Go.WideShapes Go.ChangeAt Go.RowKit

set_option maxRecDepth 100000 in
set_option maxHeartbeats 2000000 in
theorem drawE_any (B g : Nat) (w : World) (hs : Src w B g) (hB : B ≤ w.heap.size) :
    Calls Tryz.prog 70 #[.pointer (some ⟨g, 0, none⟩)] w (DrawnE w B g) := by
  have mixed : Tryz.prog.follows Departure.mixedOrders = true := by kernel_rfl
  have hgl := hs.lt
  have HS := Lib.hid hs; clear hs
  have KN := Lib.hid (blks_one w 45 #[.string ⟨#[]⟩, .int .i64 0, .int .i64 0, .int .i64 0])
  go_enter Tryz.func70, Tryz.ntmps70
  go_wp2_with fail
  generalize hW : w.alloc (.cells #[.string ⟨#[]⟩, .int .i64 0, .int .i64 0, .int .i64 0] 45) = W
  obtain ⟨b0, bw, hwz⟩ := KN.out W hW.symm
  clear hW KN
  have Kr0 := Lib.hid b0; have N0 := Lib.hid (only_of_below bw : Only w W g); have S0 := Lib.hid (HS.out.below bw)
  clear b0 bw
  have hwz := Nat.le_of_eq hwz.symm
  refine (goodE_any B g W S0.out (by omega)).mono ?_
  rintro e w1 ⟨⟨tx, ex, ey, si⟩, rfl, c0, hs1, ho1⟩
  dsimp only [SmallE] at c0
  unfold Ent.val
  dsimp only
  have Kr1 := Lib.hid ((Kr0.out).grown ho1 (by intro e; injection e with e; omega))
  have N1 := Lib.hid (only_trans N0.out ho1)
  have S1 := Lib.hid hs1
  have szq1 : W.heap.size ≤ w1.heap.size := by have := ho1.size; (try simp at this); omega
  clear ho1 hs1 S0 N0 Kr0
  go_upto_region 2 with (fail)
  generalize hW3 : w1.alloc (.cells #[.string tx, .int .i64 ex, .int .i64 ey, .int .i64 si] 45) = w2
  have Kc2 := Lib.hid (show Blk w2 w1.heap.size 45 #[.string tx, .int .i64 ex, .int .i64 ey, .int .i64 si] by rw [← hW3]; exact Blk.new _ _ _)
  have Kr2 := Lib.hid (show Blk w2 w.heap.size 45 #[.string ⟨#[]⟩, .int .i64 0, .int .i64 0, .int .i64 0] by rw [← hW3]; exact Kr1.out.alloc _)
  have S2 := Lib.hid (show Src w2 B g by rw [← hW3]; exact S1.out.alloc _)
  have N2 := Lib.hid (show Only w w2 g by rw [← hW3]; exact only_trans N1.out (only_of_below ((Below.refl _ _).alloc (Nat.le_refl _) _)))
  have hz2 : w1.heap.size + 1 ≤ w2.heap.size := Kc2.out.lt
  clear hW3 Kr1 S1 N1
  go_wp2_with fail
  refine (draw_any 24 B g w2 S2.out (by omega)).mono ?_
  rintro e w3 ⟨x, rfl, x0, x1, _, hs3, ho3⟩
  have hx := x1 (by omega)
  clear x1
  have Kr3 := Lib.hid ((Kr2.out).grown ho3 (by intro e; injection e with e; omega))
  have Kc3 := Lib.hid ((Kc2.out).grown ho3 (by intro e; injection e with e; omega))
  have N3 := Lib.hid (only_trans N2.out ho3)
  have S3 := Lib.hid hs3
  have szq3 : w2.heap.size ≤ w3.heap.size := by have := ho3.size; (try simp at this); omega
  clear ho3 hs3 S2 N2 Kr2 Kc2
  obtain rfl | rfl | rfl | rfl | hx : x = 0 ∨ x = 1 ∨ x = 2 ∨ x = 3 ∨ 4 ≤ x := by omega
  · skip
    go_wp2_with fail
    refine (phrase_any B g w3 S3.out (by omega)).mono ?_
    rintro e w4 ⟨ph, rfl, hph, hsq, hoq⟩
    have Kr4 := Lib.hid ((Kr3.out).grown hoq (by intro e; injection e with e; omega))
    have Kc4 := Lib.hid ((Kc3.out).grown hoq (by intro e; injection e with e; omega))
    have N4 := Lib.hid (only_trans N3.out hoq)
    have S4 := Lib.hid hsq
    have szq4 : w3.heap.size ≤ w4.heap.size := by have := hoq.size; (try simp at this); omega
    clear hoq hsq S3 N3 Kr3 Kc3
    have fz := Kc4.out.frozen 0
    obtain ⟨cc0, cc1, cc2, cc3⟩ := cells_4 Kc4.out
    go_upto_region 11 with (fail)
    clear fz cc0 cc1 cc2 cc3
    generalize hw : w4.setCell ⟨w1.heap.size, 0, none⟩ (.string ph) = w5
    obtain ⟨kq, kept⟩ := cell_4_0 Kc4.out S4.out N4.out (by omega) (by omega) (by omega) (.string ph) w5 hw.symm
    have Kr5 := Lib.hid (kept.blk (by omega) Kr4.out)
    have Kc5 := Lib.hid kq
    have S5 := Lib.hid kept.src
    have N5 := Lib.hid kept.only
    have szq5 := Nat.le_of_eq kept.size.symm
    clear kq kept hw S4 N4 Kr4 Kc4
    obtain ⟨q0, q1, q2, q3⟩ := cells_4 Kc5.out
    obtain ⟨fr0, fr1, fr2, fr3, fr4, fr5, fr6, fr7, fr8, fr9, fr10, fr11⟩ := facts_4 Kr5.out
    go_wp2_with fail
    obtain ⟨kq, kept⟩ := stored_4 Kr5.out S5.out N5.out (by omega) (by omega) (by omega) (.string ph) (.int .i64 ex) (.int .i64 ey) (.int .i64 si) _ rfl
    exact bodyPost_ret (v := .agg #[.string ph, .int .i64 ex, .int .i64 ey, .int .i64 si]) (by simp [results, Tryz.results70, go_sem, fr8, fr9, fr10, fr11]) rfl ⟨⟨ph, ex, ey, si⟩, rfl, by dsimp only [SmallE]; first | omega | decide, kept.src, kept.only⟩
  · skip
    go_wp2_with fail
    refine (pick_any [1000, 1001] w3.heap.size 2 B g (w3.alloc (.cells #[.int .i64 1000, .int .i64 1001] 2)) (S3.out.alloc _) (by simp; omega) (by simp) (by simp) (Blk.new _ _ _) (by omega)).mono ?_
    rintro e w4 ⟨cn, rfl, hcn, hs4, ho4⟩
    simp only [List.mem_cons, List.not_mem_nil, or_false] at hcn
    have Kr4 := Lib.hid ((Kr3.out.alloc _).grown ho4 (by intro e; injection e with e; omega))
    have Kc4 := Lib.hid ((Kc3.out.alloc _).grown ho4 (by intro e; injection e with e; omega))
    have N4 := Lib.hid (only_trans (only_trans N3.out (only_of_below ((Below.refl _ _).alloc (Nat.le_refl _) _))) ho4)
    have S4 := Lib.hid hs4
    have szq4 : w3.heap.size + 1 ≤ w4.heap.size := by have := ho4.size; (try simp at this); omega
    clear ho4 hs4 S3 N3 Kr3 Kc3
    obtain ⟨p0, p1, p2, p3⟩ := pairf_4_1 Kc4.out
    go_upto_region 11 with (fail)
    clear p0 p1 p2 p3
    generalize hw : (w4.setCell ⟨w1.heap.size, 1, none⟩ (.int .i64 cn)).setCell ⟨w1.heap.size, 2, none⟩ (.int .i64 5) = w5
    obtain ⟨kq, kept⟩ := pair_4_1 Kc4.out S4.out N4.out (by omega) (by omega) (by omega) (.int .i64 cn) (.int .i64 5) w5 hw.symm
    have Kr5 := Lib.hid (kept.blk (by omega) Kr4.out)
    have Kc5 := Lib.hid kq
    have S5 := Lib.hid kept.src
    have N5 := Lib.hid kept.only
    have szq5 := Nat.le_of_eq kept.size.symm
    clear kq kept hw S4 N4 Kr4 Kc4
    obtain ⟨q0, q1, q2, q3⟩ := cells_4 Kc5.out
    obtain ⟨fr0, fr1, fr2, fr3, fr4, fr5, fr6, fr7, fr8, fr9, fr10, fr11⟩ := facts_4 Kr5.out
    go_wp2_with fail
    obtain ⟨kq, kept⟩ := stored_4 Kr5.out S5.out N5.out (by omega) (by omega) (by omega) (.string tx) (.int .i64 cn) (.int .i64 5) (.int .i64 si) _ rfl
    exact bodyPost_ret (v := .agg #[.string tx, .int .i64 cn, .int .i64 5, .int .i64 si]) (by simp [results, Tryz.results70, go_sem, fr8, fr9, fr10, fr11]) rfl ⟨⟨tx, cn, 5, si⟩, rfl, by dsimp only [SmallE]; first | omega | decide, kept.src, kept.only⟩
  · skip
    go_wp2_with fail
    refine (pick_any [3000, 3001, -3000, -3001] w3.heap.size 4 B g (w3.alloc (.cells #[.int .i64 3000, .int .i64 3001, .int .i64 (-3000), .int .i64 (-3001)] 2)) (S3.out.alloc _) (by simp; omega) (by simp) (by simp) (Blk.new _ _ _) (by omega)).mono ?_
    rintro e w4 ⟨cn, rfl, hcn, hs4, ho4⟩
    simp only [List.mem_cons, List.not_mem_nil, or_false] at hcn
    have Kr4 := Lib.hid ((Kr3.out.alloc _).grown ho4 (by intro e; injection e with e; omega))
    have Kc4 := Lib.hid ((Kc3.out.alloc _).grown ho4 (by intro e; injection e with e; omega))
    have N4 := Lib.hid (only_trans (only_trans N3.out (only_of_below ((Below.refl _ _).alloc (Nat.le_refl _) _))) ho4)
    have S4 := Lib.hid hs4
    have szq4 : w3.heap.size + 1 ≤ w4.heap.size := by have := ho4.size; (try simp at this); omega
    clear ho4 hs4 S3 N3 Kr3 Kc3
    have fz := Kc4.out.frozen 3
    obtain ⟨cc0, cc1, cc2, cc3⟩ := cells_4 Kc4.out
    go_upto_region 11 with (fail)
    clear fz cc0 cc1 cc2 cc3
    generalize hw : w4.setCell ⟨w1.heap.size, 3, none⟩ (.int .i64 cn) = w5
    obtain ⟨kq, kept⟩ := cell_4_3 Kc4.out S4.out N4.out (by omega) (by omega) (by omega) (.int .i64 cn) w5 hw.symm
    have Kr5 := Lib.hid (kept.blk (by omega) Kr4.out)
    have Kc5 := Lib.hid kq
    have S5 := Lib.hid kept.src
    have N5 := Lib.hid kept.only
    have szq5 := Nat.le_of_eq kept.size.symm
    clear kq kept hw S4 N4 Kr4 Kc4
    obtain ⟨q0, q1, q2, q3⟩ := cells_4 Kc5.out
    obtain ⟨fr0, fr1, fr2, fr3, fr4, fr5, fr6, fr7, fr8, fr9, fr10, fr11⟩ := facts_4 Kr5.out
    go_wp2_with fail
    obtain ⟨kq, kept⟩ := stored_4 Kr5.out S5.out N5.out (by omega) (by omega) (by omega) (.string tx) (.int .i64 ex) (.int .i64 ey) (.int .i64 cn) _ rfl
    exact bodyPost_ret (v := .agg #[.string tx, .int .i64 ex, .int .i64 ey, .int .i64 cn]) (by simp [results, Tryz.results70, go_sem, fr8, fr9, fr10, fr11]) rfl ⟨⟨tx, ex, ey, cn⟩, rfl, by dsimp only [SmallE]; first | omega | decide, kept.src, kept.only⟩
  · skip
    have fz := Kc3.out.frozen 0
    obtain ⟨cc0, cc1, cc2, cc3⟩ := cells_4 Kc3.out
    go_upto_region 11 with (fail)
    clear fz cc0 cc1 cc2 cc3
    generalize hw : w3.setCell ⟨w1.heap.size, 0, none⟩ (.string ⟨#[97, 32, 98, 32, 99, 32, 100, 32, 101, 32, 102, 32, 103, 32, 104]⟩) = w4
    obtain ⟨kq, kept⟩ := cell_4_0 Kc3.out S3.out N3.out (by omega) (by omega) (by omega) (.string ⟨#[97, 32, 98, 32, 99, 32, 100, 32, 101, 32, 102, 32, 103, 32, 104]⟩) w4 hw.symm
    have Kr4 := Lib.hid (kept.blk (by omega) Kr3.out)
    have Kc4 := Lib.hid kq
    have S4 := Lib.hid kept.src
    have N4 := Lib.hid kept.only
    have szq4 := Nat.le_of_eq kept.size.symm
    clear kq kept hw S3 N3 Kr3 Kc3
    obtain ⟨q0, q1, q2, q3⟩ := cells_4 Kc4.out
    obtain ⟨fr0, fr1, fr2, fr3, fr4, fr5, fr6, fr7, fr8, fr9, fr10, fr11⟩ := facts_4 Kr4.out
    go_wp2_with fail
    obtain ⟨kq, kept⟩ := stored_4 Kr4.out S4.out N4.out (by omega) (by omega) (by omega) (.string ⟨#[97, 32, 98, 32, 99, 32, 100, 32, 101, 32, 102, 32, 103, 32, 104]⟩) (.int .i64 ex) (.int .i64 ey) (.int .i64 si) _ rfl
    exact bodyPost_ret (v := .agg #[.string ⟨#[97, 32, 98, 32, 99, 32, 100, 32, 101, 32, 102, 32, 103, 32, 104]⟩, .int .i64 ex, .int .i64 ey, .int .i64 si]) (by simp [results, Tryz.results70, go_sem, fr8, fr9, fr10, fr11]) rfl ⟨⟨⟨#[97, 32, 98, 32, 99, 32, 100, 32, 101, 32, 102, 32, 103, 32, 104]⟩, ex, ey, si⟩, rfl, by dsimp only [SmallE]; first | omega | decide, kept.src, kept.only⟩
  · skip
    have e0 : (x == 0) = false := by simp; omega
    have e1 : (x == 1) = false := by simp; omega
    have e2 : (x == 2) = false := by simp; omega
    have e3 : (x == 3) = false := by simp; omega
    obtain ⟨q0, q1, q2, q3⟩ := cells_4 Kc3.out
    obtain ⟨fr0, fr1, fr2, fr3, fr4, fr5, fr6, fr7, fr8, fr9, fr10, fr11⟩ := facts_4 Kr3.out
    go_wp2_with fail
    obtain ⟨kq, kept⟩ := stored_4 Kr3.out S3.out N3.out (by omega) (by omega) (by omega) (.string tx) (.int .i64 ex) (.int .i64 ey) (.int .i64 si) _ rfl
    exact bodyPost_ret (v := .agg #[.string tx, .int .i64 ex, .int .i64 ey, .int .i64 si]) (by simp [results, Tryz.results70, go_sem, fr8, fr9, fr10, fr11]) rfl ⟨⟨tx, ex, ey, si⟩, rfl, by dsimp only [SmallE]; first | omega | decide, kept.src, kept.only⟩
end Go.Proofs.YtihhpmhigmegjaaGreatDoor
