/- l28Draw of the reference: a drawn description, one time in six turned into one that may not stand. -/
import Derived.Test.YtnbpbidflacoiaaDoorRows
import Derived.Test.YtnbpbidflacoiaaDoorL0
import Derived.Test.YtnbpbidflacoiaaDoorM0
import Derived.WalkKit
import Derived.ProofKit
import Derived.OpenShut
import Derived.BigQuiet
import Derived.Outline
import Derived.WalkSpells
import Derived.WalkLawsBesides
import Derived.Deep.DeepCutAuto
import Derived.Test.YtnbpbidflacoiaaDoorZ1
namespace Go.Proofs.YtnbpbidflacoiaaDoor
open Go.ChangeShapes Go.WideShapes Go.ChangeAt Go.RowKit

set_option maxRecDepth 100000 in
set_option maxHeartbeats 2000000 in
theorem drawD_any (B g : Nat) (w : World) (hs : Src w B g) (hB : B ≤ w.heap.size) :
    Calls Tryd.prog 42 #[.pointer (some ⟨g, 0, none⟩)] w (DrawnD w B g) := by
  have hgl := hs.lt
  have HS := Lib.hid hs; clear hs
  have KN := Lib.hid (blks_one w 25 #[.int .i64 0, .int .i64 0, .string ⟨#[]⟩, .int .i64 0, .string ⟨#[]⟩, .string ⟨#[]⟩])
  go_enter Tryd.func42, Tryd.ntmps42
  go_wp2_with fail
  generalize hW : w.alloc (.cells #[.int .i64 0, .int .i64 0, .string ⟨#[]⟩, .int .i64 0, .string ⟨#[]⟩, .string ⟨#[]⟩] 25) = W
  obtain ⟨b0, bw, hwz⟩ := KN.out W hW.symm
  clear hW
  refine (goodD_any B g W (HS.out.below bw) (by omega)).mono ?_
  rintro e w1 ⟨⟨kd, ct, un, dr, a, b⟩, rfl, ⟨ou, oa, ob⟩, hs1, ho1⟩
  dsimp only at ou oa ob
  unfold Dsc.val
  dsimp only
  have hz1 := ho1.size
  have R1 := Lib.hid (b0.grown ho1 (by intro e; injection e with e; omega))
  have O1 := Lib.hid (only_trans (only_of_below bw : Only w W g) ho1)
  have S1 := Lib.hid hs1
  clear b0 bw hs1 ho1
  go_upto_region 2 with (fail)
  generalize hW3 : w1.alloc (.cells #[.int .i64 kd, .int .i64 ct, .string un, .int .i64 dr, .string a, .string b] 25) = W3
  have D3 := Lib.hid (show Blk W3 w1.heap.size 25 #[.int .i64 kd, .int .i64 ct, .string un, .int .i64 dr, .string a, .string b] by rw [← hW3]; exact Blk.new _ _ _)
  have R3 := Lib.hid (show Blk W3 w.heap.size 25 #[.int .i64 0, .int .i64 0, .string ⟨#[]⟩, .int .i64 0, .string ⟨#[]⟩, .string ⟨#[]⟩] by rw [← hW3]; exact R1.out.alloc _)
  have S3 := Lib.hid (show Src W3 B g by rw [← hW3]; exact S1.out.alloc _)
  have O3 := Lib.hid (show Only w W3 g by rw [← hW3]; exact only_alloc O1.out _)
  obtain ⟨hz3⟩ : Nonempty (w1.heap.size < W3.heap.size) := ⟨D3.out.lt⟩
  clear hW3 R1 O1 S1
  go_wp2_with fail
  refine (draw_any 30 B g W3 S3.out (by omega)).mono ?_
  rintro e w4 ⟨x, rfl, x0, x1, x2, hs4, ho4⟩
  have hz4 := ho4.size
  have D4 := Lib.hid (D3.out.grown ho4 (by intro e; injection e with e; omega))
  have R4 := Lib.hid (R3.out.grown ho4 (by intro e; injection e with e; omega))
  have S4 := Lib.hid hs4
  have O4 := Lib.hid (only_trans O3.out ho4)
  clear hs4 ho4 x1 x2 D3 R3 S3 O3
  obtain rfl | rfl | rfl | rfl | rfl | hx : x = 0 ∨ x = 1 ∨ x = 2 ∨ x = 3 ∨ x = 4 ∨ 4 < x := by omega
  · go_wp2_with fail
    refine (pick_any [0, 1, 2, 99, 100] w4.heap.size 5 B g (w4.alloc (.cells #[.int .i64 0, .int .i64 1, .int .i64 2, .int .i64 99, .int .i64 100] 2)) (S4.out.alloc _) (by simp; omega) (by simp) (by simp) (Blk.new _ _ _) (by omega)).mono ?_
    rintro e w5 ⟨cn, rfl, _, hs5, ho5⟩
    have hz5 : w4.heap.size < w5.heap.size := by have := ho5.size; simp at this; omega
    have D5 := (D4.out.alloc _).grown ho5 (by intro e; injection e with e; omega)
    have R5 := (R4.out.alloc _).grown ho5 (by intro e; injection e with e; omega)
    have O5 := only_trans (only_alloc O4.out _) ho5
    obtain ⟨m0, m1, m2, m3, m4, m5⟩ := six_cells D5
    have fz := Blk.frozen D5 1
    have D8 : Blk (w5.setCell ⟨w1.heap.size, 1, none⟩ (.int .i64 cn)) w1.heap.size 25 #[.int .i64 kd, .int .i64 cn, .string un, .int .i64 dr, .string a, .string b] := by simpa using Blk.set_ D5 1 (.int .i64 cn)
    have R8 := Blk.far R5 (p := ⟨w1.heap.size, 1, none⟩) (by simp; omega) (.int .i64 cn)
    have S8 := src_new hs5 w1.heap.size 1 (by omega) (by omega) (.int .i64 cn)
    have O8 := only_new O5 w1.heap.size 1 (by omega) (.int .i64 cn)
    obtain ⟨p0, p1, p2, p3, p4, p5⟩ := six_cells D8
    obtain ⟨g0, g1, g2, g3, g4, g5, g6, g7, g8, g9, g10, g11, g12, g13, g14, g15, g16, g17⟩ := six_facts R8
    go_wp2_with fail
    obtain ⟨sn, on⟩ := six_new O8 S8 (Nat.le_refl w.heap.size) (by omega) hB (.int .i64 kd) (.int .i64 cn) (.string un) (.int .i64 dr) (.string a) (.string b)
    exact bodyPost_ret (v := .agg #[.int .i64 kd, .int .i64 cn, .string un, .int .i64 dr, .string a, .string b]) (by simp [results, Tryd.results42, go_sem, g12, g13, g14, g15, g16, g17]) rfl ⟨⟨kd, cn, un, dr, a, b⟩, rfl, ⟨ou, oa, ob⟩, sn, on⟩
  · go_wp2_with fail
    have BU := Blk.new w4 9 #[.string ⟨#[]⟩, .string ⟨#[110, 101, 97, 114]⟩, .string ⟨#[110, 111, 114, 116, 104]⟩, .string ⟨#[65, 115, 104]⟩, .string ⟨#[108, 101, 97, 103, 117, 101, 115]⟩]
    refine (draw_any 5 B g _ (S4.out.alloc _) (by simp; omega)).mono ?_
    rintro e w5 ⟨y, rfl, y0, y1, y2, hs5, ho5⟩
    obtain ⟨j, rfl⟩ : ∃ j : Nat, y = j := ⟨y.toNat, by omega⟩
    have hj : j < 5 := by have := y1 (by omega); omega
    have hz5 : w4.heap.size < w5.heap.size := by have := ho5.size; simp at this; omega
    have cu := (BU.grown ho5 (by intro e; injection e with e; omega)).cell j
    obtain ⟨us, hun, hus⟩ : ∃ s : ByteArray, (#[Value.string ⟨#[]⟩, .string ⟨#[110, 101, 97, 114]⟩, .string ⟨#[110, 111, 114, 116, 104]⟩, .string ⟨#[65, 115, 104]⟩, .string ⟨#[108, 101, 97, 103, 117, 101, 115]⟩] : Array Value)[j]? = some (.string s) ∧ s.size ≤ 100 := by
      match j, hj with
      | 0, _ => exact ⟨_, rfl, by decide⟩
      | 1, _ => exact ⟨_, rfl, by decide⟩
      | 2, _ => exact ⟨_, rfl, by decide⟩
      | 3, _ => exact ⟨_, rfl, by decide⟩
      | 4, _ => exact ⟨_, rfl, by decide⟩
    rw [hun] at cu
    have D5 := (D4.out.alloc _).grown ho5 (by intro e; injection e with e; omega)
    have R5 := (R4.out.alloc _).grown ho5 (by intro e; injection e with e; omega)
    have O5 := only_trans (only_alloc O4.out _) ho5
    clear hun y0 y1 y2 BU
    obtain ⟨m0, m1, m2, m3, m4, m5⟩ := six_cells D5
    have fz := Blk.frozen D5 4
    have D8 : Blk (w5.setCell ⟨w1.heap.size, 4, none⟩ (.string us)) w1.heap.size 25 #[.int .i64 kd, .int .i64 ct, .string un, .int .i64 dr, .string us, .string b] := by simpa using Blk.set_ D5 4 (.string us)
    have R8 := Blk.far R5 (p := ⟨w1.heap.size, 4, none⟩) (by simp; omega) (.string us)
    have S8 := src_new hs5 w1.heap.size 4 (by omega) (by omega) (.string us)
    have O8 := only_new O5 w1.heap.size 4 (by omega) (.string us)
    obtain ⟨p0, p1, p2, p3, p4, p5⟩ := six_cells D8
    obtain ⟨g0, g1, g2, g3, g4, g5, g6, g7, g8, g9, g10, g11, g12, g13, g14, g15, g16, g17⟩ := six_facts R8
    go_wp2_with fail
    obtain ⟨sn, on⟩ := six_new O8 S8 (Nat.le_refl w.heap.size) (by omega) hB (.int .i64 kd) (.int .i64 ct) (.string un) (.int .i64 dr) (.string us) (.string b)
    exact bodyPost_ret (v := .agg #[.int .i64 kd, .int .i64 ct, .string un, .int .i64 dr, .string us, .string b]) (by simp [results, Tryd.results42, go_sem, g12, g13, g14, g15, g16, g17]) rfl ⟨⟨kd, ct, un, dr, us, b⟩, rfl, ⟨ou, by dsimp only; omega, ob⟩, sn, on⟩
  · go_wp2_with fail
    refine (draw_any 6 B g w4 S4.out (by omega)).mono ?_
    rintro e w5 ⟨y, rfl, y0, y1, y2, hs5, ho5⟩
    have hyy := y1 (by omega)
    have yw : IntKind.i64.wrap (y - 1) = y - 1 := IntWalk.i64_in _ (by omega)
    have hz5 := ho5.size
    have D5 := D4.out.grown ho5 (by intro e; injection e with e; omega)
    have R5 := R4.out.grown ho5 (by intro e; injection e with e; omega)
    have O5 := only_trans O4.out ho5
    clear y1 y2
    obtain ⟨m0, m1, m2, m3, m4, m5⟩ := six_cells D5
    have fz := Blk.frozen D5 0
    have D8 : Blk (w5.setCell ⟨w1.heap.size, 0, none⟩ (.int .i64 (y - 1))) w1.heap.size 25 #[.int .i64 (y - 1), .int .i64 ct, .string un, .int .i64 dr, .string a, .string b] := by simpa using Blk.set_ D5 0 (.int .i64 (y - 1))
    have R8 := Blk.far R5 (p := ⟨w1.heap.size, 0, none⟩) (by simp; omega) (.int .i64 (y - 1))
    have S8 := src_new hs5 w1.heap.size 0 (by omega) (by omega) (.int .i64 (y - 1))
    have O8 := only_new O5 w1.heap.size 0 (by omega) (.int .i64 (y - 1))
    obtain ⟨p0, p1, p2, p3, p4, p5⟩ := six_cells D8
    obtain ⟨g0, g1, g2, g3, g4, g5, g6, g7, g8, g9, g10, g11, g12, g13, g14, g15, g16, g17⟩ := six_facts R8
    go_wp2_with fail
    obtain ⟨sn, on⟩ := six_new O8 S8 (Nat.le_refl w.heap.size) (by omega) hB (.int .i64 (y - 1)) (.int .i64 ct) (.string un) (.int .i64 dr) (.string a) (.string b)
    exact bodyPost_ret (v := .agg #[.int .i64 (y - 1), .int .i64 ct, .string un, .int .i64 dr, .string a, .string b]) (by simp [results, Tryd.results42, go_sem, g12, g13, g14, g15, g16, g17]) rfl ⟨⟨y - 1, ct, un, dr, a, b⟩, rfl, ⟨ou, oa, ob⟩, sn, on⟩
  · go_wp2_with fail
    have BU := Blk.new w4 9 #[.string ⟨#[97, 115, 104]⟩, .string ⟨#[97, 110, 100]⟩, .string ⟨#[]⟩]
    refine (draw_any 3 B g _ (S4.out.alloc _) (by simp; omega)).mono ?_
    rintro e w5 ⟨y, rfl, y0, y1, y2, hs5, ho5⟩
    obtain ⟨j, rfl⟩ : ∃ j : Nat, y = j := ⟨y.toNat, by omega⟩
    have hj : j < 3 := by have := y1 (by omega); omega
    have hz5 : w4.heap.size < w5.heap.size := by have := ho5.size; simp at this; omega
    have cu := (BU.grown ho5 (by intro e; injection e with e; omega)).cell j
    obtain ⟨us, hun, hus⟩ : ∃ s : ByteArray, (#[Value.string ⟨#[97, 115, 104]⟩, .string ⟨#[97, 110, 100]⟩, .string ⟨#[]⟩] : Array Value)[j]? = some (.string s) ∧ s.size ≤ 100 := by
      match j, hj with
      | 0, _ => exact ⟨_, rfl, by decide⟩
      | 1, _ => exact ⟨_, rfl, by decide⟩
      | 2, _ => exact ⟨_, rfl, by decide⟩
    rw [hun] at cu
    have D5 := (D4.out.alloc _).grown ho5 (by intro e; injection e with e; omega)
    have R5 := (R4.out.alloc _).grown ho5 (by intro e; injection e with e; omega)
    have O5 := only_trans (only_alloc O4.out _) ho5
    clear hun y0 y1 y2 BU
    obtain ⟨m0, m1, m2, m3, m4, m5⟩ := six_cells D5
    have fz := Blk.frozen D5 5
    have D8 : Blk (w5.setCell ⟨w1.heap.size, 5, none⟩ (.string us)) w1.heap.size 25 #[.int .i64 kd, .int .i64 ct, .string un, .int .i64 dr, .string a, .string us] := by simpa using Blk.set_ D5 5 (.string us)
    have R8 := Blk.far R5 (p := ⟨w1.heap.size, 5, none⟩) (by simp; omega) (.string us)
    have S8 := src_new hs5 w1.heap.size 5 (by omega) (by omega) (.string us)
    have O8 := only_new O5 w1.heap.size 5 (by omega) (.string us)
    obtain ⟨p0, p1, p2, p3, p4, p5⟩ := six_cells D8
    obtain ⟨g0, g1, g2, g3, g4, g5, g6, g7, g8, g9, g10, g11, g12, g13, g14, g15, g16, g17⟩ := six_facts R8
    go_wp2_with fail
    obtain ⟨sn, on⟩ := six_new O8 S8 (Nat.le_refl w.heap.size) (by omega) hB (.int .i64 kd) (.int .i64 ct) (.string un) (.int .i64 dr) (.string a) (.string us)
    exact bodyPost_ret (v := .agg #[.int .i64 kd, .int .i64 ct, .string un, .int .i64 dr, .string a, .string us]) (by simp [results, Tryd.results42, go_sem, g12, g13, g14, g15, g16, g17]) rfl ⟨⟨kd, ct, un, dr, a, us⟩, rfl, ⟨ou, oa, by dsimp only; omega⟩, sn, on⟩
  · go_wp2_with fail
    refine (pick_any [-1, 8, 3] w4.heap.size 3 B g (w4.alloc (.cells #[.int .i64 (-1), .int .i64 8, .int .i64 3] 2)) (S4.out.alloc _) (by simp; omega) (by simp) (by simp) (Blk.new _ _ _) (by omega)).mono ?_
    rintro e w5 ⟨cn, rfl, _, hs5, ho5⟩
    have hz5 : w4.heap.size < w5.heap.size := by have := ho5.size; simp at this; omega
    have D5 := (D4.out.alloc _).grown ho5 (by intro e; injection e with e; omega)
    have R5 := (R4.out.alloc _).grown ho5 (by intro e; injection e with e; omega)
    have O5 := only_trans (only_alloc O4.out _) ho5
    obtain ⟨m0, m1, m2, m3, m4, m5⟩ := six_cells D5
    have fz := Blk.frozen D5 3
    have D8 : Blk (w5.setCell ⟨w1.heap.size, 3, none⟩ (.int .i64 cn)) w1.heap.size 25 #[.int .i64 kd, .int .i64 ct, .string un, .int .i64 cn, .string a, .string b] := by simpa using Blk.set_ D5 3 (.int .i64 cn)
    have R8 := Blk.far R5 (p := ⟨w1.heap.size, 3, none⟩) (by simp; omega) (.int .i64 cn)
    have S8 := src_new hs5 w1.heap.size 3 (by omega) (by omega) (.int .i64 cn)
    have O8 := only_new O5 w1.heap.size 3 (by omega) (.int .i64 cn)
    obtain ⟨p0, p1, p2, p3, p4, p5⟩ := six_cells D8
    obtain ⟨g0, g1, g2, g3, g4, g5, g6, g7, g8, g9, g10, g11, g12, g13, g14, g15, g16, g17⟩ := six_facts R8
    go_wp2_with fail
    obtain ⟨sn, on⟩ := six_new O8 S8 (Nat.le_refl w.heap.size) (by omega) hB (.int .i64 kd) (.int .i64 ct) (.string un) (.int .i64 cn) (.string a) (.string b)
    exact bodyPost_ret (v := .agg #[.int .i64 kd, .int .i64 ct, .string un, .int .i64 cn, .string a, .string b]) (by simp [results, Tryd.results42, go_sem, g12, g13, g14, g15, g16, g17]) rfl ⟨⟨kd, ct, un, cn, a, b⟩, rfl, ⟨ou, oa, ob⟩, sn, on⟩
  · have e0 : (x == 0) = false := by simp; omega
    have e1 : (x == 1) = false := by simp; omega
    have e2 : (x == 2) = false := by simp; omega
    have e3 : (x == 3) = false := by simp; omega
    have e4 : (x == 4) = false := by simp; omega
    obtain ⟨p0, p1, p2, p3, p4, p5⟩ := six_cells D4.out
    obtain ⟨g0, g1, g2, g3, g4, g5, g6, g7, g8, g9, g10, g11, g12, g13, g14, g15, g16, g17⟩ := six_facts R4.out
    go_wp2_with fail
    obtain ⟨sn, on⟩ := six_new O4.out S4.out (Nat.le_refl w.heap.size) (by omega) hB (.int .i64 kd) (.int .i64 ct) (.string un) (.int .i64 dr) (.string a) (.string b)
    exact bodyPost_ret (v := .agg #[.int .i64 kd, .int .i64 ct, .string un, .int .i64 dr, .string a, .string b]) (by simp [results, Tryd.results42, go_sem, g12, g13, g14, g15, g16, g17]) rfl ⟨⟨kd, ct, un, dr, a, b⟩, rfl, ⟨ou, oa, ob⟩, sn, on⟩
end Go.Proofs.YtnbpbidflacoiaaDoor
