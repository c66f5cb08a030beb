/- l15Good, l15Draw of the reference: a drawn point. -/
import Derived.Test.YtnbpbidflacoiaaDoorRows
import Derived.Test.YtnbpbidflacoiaaDoorL0
import Derived.Test.YtnbpbidflacoiaaDoorM0
import Derived.WalkKit
import Derived.ProofKit
import Derived.OpenShut
import Derived.BigQuiet
import Derived.Outline
import Derived.WalkSpells
import Derived.WalkLawsBesides
import Derived.Deep.DeepCutAuto
import Derived.Test.YtnbpbidflacoiaaDoorRX
namespace Go.Proofs.YtnbpbidflacoiaaDoor
open Go.ChangeShapes Go.WideShapes Go.ChangeAt Go.RowKit

/-- A drawn point. -/
def DrawnPt (w : World) (B g : Nat) (e : Ending) (w' : World) : Prop := ∃ x y : Int, e = .returned (.agg #[.int .i64 x, .int .i64 y]) ∧ (-1001 ≤ x ∧ x ≤ 1001) ∧ (-1001 ≤ y ∧ y ≤ 1001) ∧ Src w' B g ∧ Only w w' g
set_option maxRecDepth 100000 in
set_option maxHeartbeats 1000000 in
theorem goodPt_any (B g : Nat) (w : World) (hs : Src w B g) (hB : B ≤ w.heap.size) :
    Calls Tryd.prog 105 #[.pointer (some ⟨g, 0, none⟩)] w (DrawnPt w B g) := by
  have hgl := hs.lt
  have HS := Lib.hid hs; clear hs
  have KN := Lib.hid (blks_one w 52 #[.int .i64 0, .int .i64 0])
  go_enter Tryd.func105, Tryd.ntmps105
  go_wp2_with fail
  generalize hW : w.alloc (.cells #[.int .i64 0, .int .i64 0] 52) = w1
  obtain ⟨b0, bw, hwz⟩ := KN.out w1 hW.symm
  have szq1 : w.heap.size + 1 ≤ w1.heap.size := Nat.le_of_eq hwz.symm
  have Kr1 := Lib.hid b0
  have N1 := Lib.hid (only_of_below bw : Only w w1 g)
  have S1 := Lib.hid (HS.out.below bw)
  clear hW KN b0 bw hwz HS
  go_wp2_with fail
  refine (draw_any 3 B g w1 S1.out (by omega)).mono ?_
  rintro e w2 ⟨x, rfl, x0, x1, _, hs2, ho2⟩
  have hx := x1 (by omega)
  clear x1
  have Kr2 := Lib.hid ((Kr1.out).grown ho2 (by intro e; injection e with e; omega))
  have N2 := Lib.hid (only_trans N1.out ho2)
  have S2 := Lib.hid hs2
  have szq2 : w1.heap.size ≤ w2.heap.size := by have := ho2.size; (try simp at this); omega
  clear ho2 hs2 S1 N1 Kr1
  by_cases hx0 : x = 0
  · subst hx0
    go_wp2_with fail
    refine (draw_any 2001 B g w2 S2.out (by omega)).mono ?_
    rintro e w3 ⟨p, rfl, p0, p1, _, hs3, ho3⟩
    have hp := p1 (by omega)
    clear p1
    have Kr3 := Lib.hid ((Kr2.out).grown ho3 (by intro e; injection e with e; omega))
    have N3 := Lib.hid (only_trans N2.out ho3)
    have S3 := Lib.hid hs3
    have szq3 : w2.heap.size ≤ w3.heap.size := by have := ho3.size; (try simp at this); omega
    clear ho3 hs3 S2 N2 Kr2
    have hp1 : IntKind.i64.wrap (p - 1000) = p - 1000 := IntWalk.i64_in _ (by omega)
    go_wp2_with fail
    refine (draw_any 2001 B g w3 S3.out (by omega)).mono ?_
    rintro e w4 ⟨q, rfl, q0, q1, _, hs4, ho4⟩
    have hq := q1 (by omega)
    clear q1
    have Kr4 := Lib.hid ((Kr3.out).grown ho4 (by intro e; injection e with e; omega))
    have N4 := Lib.hid (only_trans N3.out ho4)
    have S4 := Lib.hid hs4
    have szq4 : w3.heap.size ≤ w4.heap.size := by have := ho4.size; (try simp at this); omega
    clear ho4 hs4 S3 N3 Kr3
    have hq1 : IntKind.i64.wrap (q - 1000) = q - 1000 := IntWalk.i64_in _ (by omega)
    obtain ⟨f0, f1, f2, f3, f4, f5⟩ := facts_2 Kr4.out
    obtain ⟨kq, kept⟩ := stored_2 Kr4.out S4.out N4.out (Nat.le_refl _) (by omega) hB (.int .i64 (p - 1000)) (.int .i64 (q - 1000)) _ rfl
    obtain ⟨q0, q1⟩ := cells_2 kq
    have KS := Lib.hid kept.src; have KO := Lib.hid kept.only
    clear kq kept
    go_wp2_with fail
    exact bodyPost_ret (v := .agg #[.int .i64 (p - 1000), .int .i64 (q - 1000)]) (by simp [results, Tryd.results105, go_sem, f4, f5, q0, q1]) rfl ⟨p - 1000, q - 1000, rfl, by omega, by omega, KS.out, KO.out⟩
  · have hx1 : (x == 0) = false := by simpa using hx0
    go_wp2_with fail
    refine (draw_any 9 B g w2 S2.out (by omega)).mono ?_
    rintro e w3 ⟨p, rfl, p0, p1, _, hs3, ho3⟩
    have hp := p1 (by omega)
    clear p1
    have Kr3 := Lib.hid ((Kr2.out).grown ho3 (by intro e; injection e with e; omega))
    have N3 := Lib.hid (only_trans N2.out ho3)
    have S3 := Lib.hid hs3
    have szq3 : w2.heap.size ≤ w3.heap.size := by have := ho3.size; (try simp at this); omega
    clear ho3 hs3 S2 N2 Kr2
    have hp1 : IntKind.i64.wrap (p - 4) = p - 4 := IntWalk.i64_in _ (by omega)
    go_wp2_with fail
    refine (draw_any 9 B g w3 S3.out (by omega)).mono ?_
    rintro e w4 ⟨q, rfl, q0, q1, _, hs4, ho4⟩
    have hq := q1 (by omega)
    clear q1
    have Kr4 := Lib.hid ((Kr3.out).grown ho4 (by intro e; injection e with e; omega))
    have N4 := Lib.hid (only_trans N3.out ho4)
    have S4 := Lib.hid hs4
    have szq4 : w3.heap.size ≤ w4.heap.size := by have := ho4.size; (try simp at this); omega
    clear ho4 hs4 S3 N3 Kr3
    have hq1 : IntKind.i64.wrap (q - 4) = q - 4 := IntWalk.i64_in _ (by omega)
    obtain ⟨f0, f1, f2, f3, f4, f5⟩ := facts_2 Kr4.out
    obtain ⟨kq, kept⟩ := stored_2 Kr4.out S4.out N4.out (Nat.le_refl _) (by omega) hB (.int .i64 (p - 4)) (.int .i64 (q - 4)) _ rfl
    obtain ⟨q0, q1⟩ := cells_2 kq
    have KS := Lib.hid kept.src; have KO := Lib.hid kept.only
    clear kq kept
    go_wp2_with fail
    exact bodyPost_ret (v := .agg #[.int .i64 (p - 4), .int .i64 (q - 4)]) (by simp [results, Tryd.results105, go_sem, f4, f5, q0, q1]) rfl ⟨p - 4, q - 4, rfl, by omega, by omega, KS.out, KO.out⟩
set_option maxRecDepth 100000 in
set_option maxHeartbeats 1000000 in
theorem drawPt_any (B g : Nat) (w : World) (hs : Src w B g) (hB : B ≤ w.heap.size) :
    Calls Tryd.prog 88 #[.pointer (some ⟨g, 0, none⟩)] w (DrawnPt w B g) := by
  have hgl := hs.lt
  have HS := Lib.hid hs; clear hs
  have KN := Lib.hid (blks_one w 52 #[.int .i64 0, .int .i64 0])
  go_enter Tryd.func88, Tryd.ntmps88
  go_wp2_with fail
  generalize hW : w.alloc (.cells #[.int .i64 0, .int .i64 0] 52) = w1
  obtain ⟨b0, bw, hwz⟩ := KN.out w1 hW.symm
  have szq1 : w.heap.size + 1 ≤ w1.heap.size := Nat.le_of_eq hwz.symm
  have Kr1 := Lib.hid b0
  have N1 := Lib.hid (only_of_below bw : Only w w1 g)
  have S1 := Lib.hid (HS.out.below bw)
  clear hW KN b0 bw hwz HS
  go_wp2_with fail
  refine (goodPt_any B g w1 S1.out (by omega)).mono ?_
  rintro e w2 ⟨x, y, rfl, hbx, hby, hs2, ho2⟩
  have Kr2 := Lib.hid ((Kr1.out).grown ho2 (by intro e; injection e with e; omega))
  have N2 := Lib.hid (only_trans N1.out ho2)
  have S2 := Lib.hid hs2
  have szq2 : w1.heap.size ≤ w2.heap.size := by have := ho2.size; (try simp at this); omega
  clear ho2 hs2 S1 N1 Kr1
  go_upto_region 2 with (fail)
  generalize hW3 : w2.alloc (.cells #[.int .i64 x, .int .i64 y] 52) = w3
  have Kc3 := Lib.hid (show Blk w3 w2.heap.size 52 #[.int .i64 x, .int .i64 y] by rw [← hW3]; exact Blk.new _ _ _)
  have Kr3 := Lib.hid (show Blk w3 w.heap.size 52 #[.int .i64 0, .int .i64 0] by rw [← hW3]; exact Kr2.out.alloc _)
  have S3 := Lib.hid (show Src w3 B g by rw [← hW3]; exact S2.out.alloc _)
  have N3 := Lib.hid (show Only w w3 g by rw [← hW3]; exact only_trans N2.out (only_of_below ((Below.refl _ _).alloc (Nat.le_refl _) _)))
  have szq3 : w2.heap.size + 1 ≤ w3.heap.size := Kc3.out.lt
  clear hW3 S2 N2 Kr2
  go_wp2_with fail
  refine (draw_any 40 B g w3 S3.out (by omega)).mono ?_
  rintro e w4 ⟨z, rfl, z0, z1, _, hs4, ho4⟩
  have hz := z1 (by omega)
  clear z1
  have Kr4 := Lib.hid ((Kr3.out).grown ho4 (by intro e; injection e with e; omega))
  have Kc4 := Lib.hid ((Kc3.out).grown ho4 (by intro e; injection e with e; omega))
  have N4 := Lib.hid (only_trans N3.out ho4)
  have S4 := Lib.hid hs4
  have szq4 : w3.heap.size ≤ w4.heap.size := by have := ho4.size; (try simp at this); omega
  clear ho4 hs4 S3 N3 Kr3 Kc3
  by_cases hz0 : z = 0
  · subst hz0
    go_wp2_with fail
    refine (pick_any [1000, 1001, -1001] w4.heap.size 3 B g (w4.alloc (.cells #[.int .i64 1000, .int .i64 1001, .int .i64 (-1001)] 2)) (S4.out.alloc _) (by simp; omega) (by simp) (by simp) (Blk.new _ _ _) (by omega)).mono ?_
    rintro e w5 ⟨p, rfl, hp, hs5, ho5⟩
    simp only [List.mem_cons, List.not_mem_nil, or_false] at hp
    have Kr5 := Lib.hid ((Kr4.out.alloc _).grown ho5 (by intro e; injection e with e; omega))
    have Kc5 := Lib.hid ((Kc4.out.alloc _).grown ho5 (by intro e; injection e with e; omega))
    have N5 := Lib.hid (only_trans (only_trans N4.out (only_of_below ((Below.refl _ _).alloc (Nat.le_refl _) _))) ho5)
    have S5 := Lib.hid hs5
    have szq5 : w4.heap.size + 1 ≤ w5.heap.size := by have := ho5.size; (try simp at this); omega
    clear ho5 hs5 S4 N4 Kr4 Kc4
    obtain ⟨c0, c1⟩ := cells_2 Kc5.out
    have fz := Kc5.out.frozen 0
    go_upto_region 4 with (fail)
    clear c0 c1 fz
    generalize hw : w5.setCell ⟨w2.heap.size, 0, none⟩ (.int .i64 p) = w6
    obtain ⟨kq, kept⟩ := cell_2_0 Kc5.out S5.out N5.out (by omega) (by omega) (by omega) (.int .i64 p) w6 hw.symm
    have Kr6 := Lib.hid (kept.blk (by omega) Kr5.out)
    have Kc6 := Lib.hid kq
    have S6 := Lib.hid kept.src
    have N6 := Lib.hid kept.only
    have szq6 := Nat.le_of_eq kept.size.symm
    clear kq kept hw S5 N5 Kr5 Kc5
    obtain ⟨c0, c1⟩ := cells_2 Kc6.out
    obtain ⟨f0, f1, f2, f3, f4, f5⟩ := facts_2 Kr6.out
    obtain ⟨kq, kept⟩ := stored_2 Kr6.out S6.out N6.out (Nat.le_refl _) (by omega) hB (.int .i64 (p)) (.int .i64 (y)) _ rfl
    obtain ⟨q0, q1⟩ := cells_2 kq
    have KS := Lib.hid kept.src; have KO := Lib.hid kept.only
    clear kq kept
    go_wp2_with fail
    exact bodyPost_ret (v := .agg #[.int .i64 (p), .int .i64 (y)]) (by simp [results, Tryd.results88, go_sem, f4, f5, q0, q1]) rfl ⟨p, y, rfl, by omega, by omega, KS.out, KO.out⟩
  · have hz1 : (z == 0) = false := by simpa using hz0
    obtain ⟨c0, c1⟩ := cells_2 Kc4.out
    obtain ⟨f0, f1, f2, f3, f4, f5⟩ := facts_2 Kr4.out
    obtain ⟨kq, kept⟩ := stored_2 Kr4.out S4.out N4.out (Nat.le_refl _) (by omega) hB (.int .i64 (x)) (.int .i64 (y)) _ rfl
    obtain ⟨q0, q1⟩ := cells_2 kq
    have KS := Lib.hid kept.src; have KO := Lib.hid kept.only
    clear kq kept
    go_wp2_with fail
    exact bodyPost_ret (v := .agg #[.int .i64 (x), .int .i64 (y)]) (by simp [results, Tryd.results88, go_sem, f4, f5, q0, q1]) rfl ⟨x, y, rfl, by omega, by omega, KS.out, KO.out⟩
end Go.Proofs.YtnbpbidflacoiaaDoor
