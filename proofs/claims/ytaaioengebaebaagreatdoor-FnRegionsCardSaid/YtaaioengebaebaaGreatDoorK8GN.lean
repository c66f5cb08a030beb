/- l28Good of the reference: a drawn description. l28Draw of the reference: a drawn description, one time in six turned into one that may not stand. l29Descriptions of the reference: drawn descriptions. -/
import Derived.Test.YtaaioengebaebaaGreatDoorRows
import Derived.Test.YtaaioengebaebaaGreatDoorK8GA
import Derived.WalkKit
import Derived.ProofKit
import Derived.OpenShut
import Derived.BigQuiet
import Derived.Outline
import Derived.WalkSpells
import Derived.WalkLawsBesides
import Derived.Deep.DeepCutAuto
import Derived.Test.YtaaioengebaebaaGreatDoorK8GB
import Derived.Test.YtaaioengebaebaaGreatDoorK8Q6
import Derived.Test.YtaaioengebaebaaGreatDoorK8Q7
import Derived.Test.YtaaioengebaebaaGreatDoorK8FD0
import Derived.Deep.AppendLies
namespace Go.Proofs.YtaaioengebaebaaGreatDoor
open Go.ChangeShapes Go.WideShapes Go.ChangeAt Go.RowKit

/-- A drawn description. -/
def DrawnD (w : World) (B g : Nat) (e : Ending) (w' : World) : Prop := ∃ d : Dsc, e = .returned d.val ∧ d.Ok ∧ Src w' B g ∧ Only w w' g
def codesL : List ByteArray := [⟨#[97, 115, 104]⟩, ⟨#[98, 114, 105, 103]⟩, ⟨#[99, 111, 114, 107]⟩, ⟨#[100, 101, 118, 97]⟩]
theorem only_new {a w : World} {g : Nat} (h : Only a w g) (r i : Nat) (hr : a.heap.size ≤ r) (u : Value) : Only a (w.setCell ⟨r, i, none⟩ u) g :=
  ⟨h.os, h.tape, h.output, by simpa [World.setCell] using h.size, fun j hj hne => (Below.heap_setCell w ⟨r, i, none⟩ u j (by rintro rfl; exact absurd hj (Nat.not_lt.2 hr))).trans (h.block j hj hne)⟩
theorem src_new {w : World} {B g : Nat} (h : Src w B g) (r i : Nat) (hr : r ≠ g) (hB : B ≤ r) (u : Value) : Src (w.setCell ⟨r, i, none⟩ u) B g :=
  h.grown (only_set (only_refl w r) i u) (by intro e; injection e with e; exact hr e) (by intro k e; injection e with e; omega)
/-- What a struct's store of six cells leaves. -/
theorem six_new {a w : World} {B g r : Nat} (ho : Only a w g) (hs : Src w B g) (hr : a.heap.size ≤ r) (hg : r ≠ g) (hB : B ≤ r) (v0 v1 v2 v3 v4 v5 : Value) :
    Src ((((((w.setCell ⟨r, 0, none⟩ v0).setCell ⟨r, 1, none⟩ v1).setCell ⟨r, 2, none⟩ v2).setCell ⟨r, 3, none⟩ v3).setCell ⟨r, 4, none⟩ v4).setCell ⟨r, 5, none⟩ v5) B g ∧ Only a ((((((w.setCell ⟨r, 0, none⟩ v0).setCell ⟨r, 1, none⟩ v1).setCell ⟨r, 2, none⟩ v2).setCell ⟨r, 3, none⟩ v3).setCell ⟨r, 4, none⟩ v4).setCell ⟨r, 5, none⟩ v5) g :=
  ⟨src_new (src_new (src_new (src_new (src_new (src_new hs r 0 hg hB _) r 1 hg hB _) r 2 hg hB _) r 3 hg hB _) r 4 hg hB _) r 5 hg hB _, only_new (only_new (only_new (only_new (only_new (only_new ho r 0 hr _) r 1 hr _) r 2 hr _) r 3 hr _) r 4 hr _) r 5 hr _⟩
theorem six_cells {W : World} {g : Nat} {t : TypeId} {z0 z1 z2 z3 z4 z5 : Value} (h : Blk W g t #[z0, z1, z2, z3, z4, z5]) : W.cell? ⟨g, 0, none⟩ = some z0 ∧ W.cell? ⟨g, 1, none⟩ = some z1 ∧ W.cell? ⟨g, 2, none⟩ = some z2 ∧ W.cell? ⟨g, 3, none⟩ = some z3 ∧ W.cell? ⟨g, 4, none⟩ = some z4 ∧ W.cell? ⟨g, 5, none⟩ = some z5 :=
  ⟨by rw [h.cell]; rfl, by rw [h.cell]; rfl, by rw [h.cell]; rfl, by rw [h.cell]; rfl, by rw [h.cell]; rfl, by rw [h.cell]; rfl⟩
set_option maxRecDepth 100000 in
set_option maxHeartbeats 1000000 in
theorem goodD_any (B g : Nat) (w : World) (hs : Src w B g) (hB : B ≤ w.heap.size) :
    Calls Tryz.prog 95 #[.pointer (some ⟨g, 0, none⟩)] w (DrawnD w B g) := by
  have hgl := hs.lt
  have HS := Lib.hid hs; clear hs
  have KN := Lib.hid (blks_two w 79 9 #[.int .i64 0, .int .i64 0, .string ⟨#[]⟩, .int .i64 0, .string ⟨#[]⟩, .string ⟨#[]⟩] (txC codesL).toArray)
  unfold codesL txC at KN
  dsimp only [List.map] at KN
  go_enter Tryz.func95, Tryz.ntmps95
  go_wp2_with fail
  generalize hW : (w.alloc (.cells #[.int .i64 0, .int .i64 0, .string ⟨#[]⟩, .int .i64 0, .string ⟨#[]⟩, .string ⟨#[]⟩] 79)).alloc (.cells #[.string ⟨#[97, 115, 104]⟩, .string ⟨#[98, 114, 105, 103]⟩, .string ⟨#[99, 111, 114, 107]⟩, .string ⟨#[100, 101, 118, 97]⟩] 9) = W
  obtain ⟨b0, b1, bw, hwz⟩ := KN.out W hW.symm
  clear hW
  have HW := Lib.hid bw
  have OW := Lib.hid (only_of_below bw : Only w W g)
  have S0 := HS.out.below bw
  refine (draw_any 4 B g W S0 (by omega)).mono ?_
  rintro e w1 ⟨x, rfl, h0, h1, h2, hs1, ho1⟩
  have H0 := Lib.hid (b0.grown ho1 (by intro e; injection e with e; omega))
  have H1 := Lib.hid (b1.grown ho1 (by intro e; injection e with e; omega))
  have O1 := Lib.hid (only_trans OW.out ho1)
  have S1 := Lib.hid hs1
  have hz1 := ho1.size
  clear b0 b1 bw S0 ho1 hs1
  go_wp2_with fail
  refine (draw_any 3 B g w1 S1.out (by omega)).mono ?_
  rintro e w2 ⟨y, rfl, y0, y1, y2, hs2, ho2⟩
  obtain ⟨k, rfl⟩ : ∃ k : Nat, y = k := ⟨y.toNat, by omega⟩
  have hk : k < 4 := by have := y1 (by omega); omega
  have H02 := Lib.hid (H0.out.grown ho2 (by intro e; injection e with e; omega))
  have H12 := H1.out.grown ho2 (by intro e; injection e with e; omega)
  have O2 := Lib.hid (only_trans O1.out ho2)
  have S2 := Lib.hid hs2
  have hz2 := ho2.size
  have c0 := H12.cell k
  obtain ⟨s, hs, hsz⟩ : ∃ s : ByteArray, (#[Value.string ⟨#[97, 115, 104]⟩, .string ⟨#[98, 114, 105, 103]⟩, .string ⟨#[99, 111, 114, 107]⟩, .string ⟨#[100, 101, 118, 97]⟩] : Array Value)[k]? = some (.string s) ∧ s.size ≤ 100 := by
    match k, hk with
    | 0, _ => exact ⟨_, rfl, by decide⟩
    | 1, _ => exact ⟨_, rfl, by decide⟩
    | 2, _ => exact ⟨_, rfl, by decide⟩
    | 3, _ => exact ⟨_, rfl, by decide⟩
  rw [hs] at c0
  have c3 := H12.cell 3
  rw [show (#[Value.string ⟨#[97, 115, 104]⟩, .string ⟨#[98, 114, 105, 103]⟩, .string ⟨#[99, 111, 114, 107]⟩, .string ⟨#[100, 101, 118, 97]⟩] : Array Value)[3]? = some (.string ⟨#[100, 101, 118, 97]⟩) from rfl] at c3
  clear hs ho2 hs2 y0 y1 y2 H12
  go_upto_region 3 with (fail)
  generalize hW3 : w2.alloc (.cells #[.int .i64 x, .int .i64 0, .string ⟨#[]⟩, .int .i64 0, .string s, .string ⟨#[]⟩] 79) = W3
  have D3 := Lib.hid (show Blk W3 w2.heap.size 79 #[.int .i64 x, .int .i64 0, .string ⟨#[]⟩, .int .i64 0, .string s, .string ⟨#[]⟩] by rw [← hW3]; exact Blk.new _ _ _)
  have R3 := Lib.hid (show Blk W3 w.heap.size 79 #[.int .i64 0, .int .i64 0, .string ⟨#[]⟩, .int .i64 0, .string ⟨#[]⟩, .string ⟨#[]⟩] by rw [← hW3]; exact H02.out.alloc _)
  have S3 := Lib.hid (show Src W3 B g by rw [← hW3]; exact S2.out.alloc _)
  have O3 := Lib.hid (show Only w W3 g by rw [← hW3]; exact only_alloc O2.out _)
  have c33 := Lib.hid (show W3.cell? ⟨w.heap.size + 1, 3, none⟩ = some (.string ⟨#[100, 101, 118, 97]⟩) by rw [← hW3]; exact (World.cell?_of_block (((Below.refl w2.heap.size w2).alloc (Nat.le_refl _) _).block _ (by dsimp only; omega))).trans c3)
  clear hW3 c0 c3 H02 H0 H1
  obtain rfl | rfl | hx : x = 2 ∨ x = 3 ∨ (x ≠ 2 ∧ x ≠ 3) := by omega
  · obtain ⟨hz3⟩ : Nonempty (w2.heap.size < W3.heap.size) := ⟨D3.out.lt⟩
    obtain ⟨m0, m1, m2, m3, m4, m5⟩ := six_cells D3.out
    go_wp2_with fail
    refine (draw_any 12 B g W3 S3.out (by omega)).mono ?_
    rintro e w4 ⟨z, rfl, z0, z1, z2, hs4, ho4⟩
    have hzz := z1 (by omega)
    have hz4 := ho4.size
    have D4 := Lib.hid (D3.out.grown ho4 (by intro e; injection e with e; omega))
    have R4 := Lib.hid (R3.out.grown ho4 (by intro e; injection e with e; omega))
    have S4 := Lib.hid hs4
    have O4 := Lib.hid (only_trans O3.out ho4)
    have zw : IntKind.i64.wrap (1 + z) = 1 + z := IntWalk.i64_in _ (by omega)
    clear hs4 ho4 z1 z2 m0 m1 m2 m3 m4 m5 D3 R3 S3 O3 c33
    go_wp2_with fail
    refine (pick_any [1, 2, 3, 1 + z] w4.heap.size 4 B g (w4.alloc (.cells #[.int .i64 1, .int .i64 2, .int .i64 3, .int .i64 (1 + z)] 2)) (S4.out.alloc _) (by simp; omega) (by simp) (by simp) (Blk.new _ _ _) (by omega)).mono ?_
    rintro e w5 ⟨cn, rfl, _, hs5, ho5⟩
    have hz5 : w4.heap.size < w5.heap.size := by have := ho5.size; simp at this; omega
    have D5 := Lib.hid ((D4.out.alloc _).grown ho5 (by intro e; injection e with e; omega))
    have R5 := Lib.hid ((R4.out.alloc _).grown ho5 (by intro e; injection e with e; omega))
    have O5 := Lib.hid (only_trans (only_alloc O4.out _) ho5)
    have S5 := Lib.hid hs5
    obtain ⟨m0, m1, m2, m3, m4, m5⟩ := six_cells D5.out
    have f1 := D5.out.frozen 1
    clear hs5 ho5 zw z0 hzz D4 R4 S4 O4
    go_upto_region 6 with (fail)
    generalize hw6 : w5.setCell ⟨w2.heap.size, 1, none⟩ (.int .i64 cn) = w6
    have hz6 : w5.heap.size = w6.heap.size := by rw [← hw6]; simp [World.setCell]
    have D6 := Lib.hid (show Blk w6 w2.heap.size 79 #[.int .i64 2, .int .i64 cn, .string ⟨#[]⟩, .int .i64 0, .string s, .string ⟨#[]⟩] by rw [← hw6]; simpa using D5.out.set_ 1 (.int .i64 cn))
    have R6 := Lib.hid (hw6 ▸ R5.out.far (p := ⟨w2.heap.size, 1, none⟩) (by simp; omega) (.int .i64 cn))
    have S6 := Lib.hid (hw6 ▸ src_new S5.out w2.heap.size 1 (by omega) (by omega) (.int .i64 cn))
    have O6 := Lib.hid (hw6 ▸ only_new O5.out w2.heap.size 1 (by omega) (.int .i64 cn))
    clear hw6 m0 m1 m2 m3 m4 m5 f1 D5 R5 S5 O5
    go_wp2_with fail
    have BU := Blk.new w6 9 #[.string ⟨#[109, 105, 108, 101]⟩, .string ⟨#[109, 105, 108, 101]⟩, .string ⟨#[108, 101, 97, 103, 117, 101]⟩]
    refine (draw_any 3 B g _ (S6.out.alloc _) (by simp; omega)).mono ?_
    rintro e w7 ⟨y, rfl, y0, y1, y2, hs7, ho7⟩
    obtain ⟨j, rfl⟩ : ∃ j : Nat, y = j := ⟨y.toNat, by omega⟩
    have hj : j < 3 := by have := y1 (by omega); omega
    have hz7 : w6.heap.size < w7.heap.size := by have := ho7.size; simp at this; omega
    have cu := (BU.grown ho7 (by intro e; injection e with e; omega)).cell j
    obtain ⟨un, hun, hus⟩ : ∃ s : ByteArray, (#[Value.string ⟨#[109, 105, 108, 101]⟩, .string ⟨#[109, 105, 108, 101]⟩, .string ⟨#[108, 101, 97, 103, 117, 101]⟩] : Array Value)[j]? = some (.string s) ∧ s.size ≤ 100 := by
      match j, hj with
      | 0, _ => exact ⟨_, rfl, by decide⟩
      | 1, _ => exact ⟨_, rfl, by decide⟩
      | 2, _ => exact ⟨_, rfl, by decide⟩
    rw [hun] at cu
    have D7 := Lib.hid ((D6.out.alloc _).grown ho7 (by intro e; injection e with e; omega))
    have R7 := Lib.hid ((R6.out.alloc _).grown ho7 (by intro e; injection e with e; omega))
    have O7 := Lib.hid (only_trans (only_alloc O6.out _) ho7)
    have S7 := Lib.hid hs7
    obtain ⟨m0, m1, m2, m3, m4, m5⟩ := six_cells D7.out
    have f2 := D7.out.frozen 2
    clear hun hs7 ho7 y0 y1 y2 BU D6 R6 S6 O6
    go_upto_region 7 with (fail)
    generalize hw8 : w7.setCell ⟨w2.heap.size, 2, none⟩ (.string un) = w8
    have hz8 : w7.heap.size = w8.heap.size := by rw [← hw8]; simp [World.setCell]
    have D8 := Lib.hid (show Blk w8 w2.heap.size 79 #[.int .i64 2, .int .i64 cn, .string un, .int .i64 0, .string s, .string ⟨#[]⟩] by rw [← hw8]; simpa using D7.out.set_ 2 (.string un))
    have R8 := Lib.hid (hw8 ▸ R7.out.far (p := ⟨w2.heap.size, 2, none⟩) (by simp; omega) (.string un))
    have S8 := Lib.hid (hw8 ▸ src_new S7.out w2.heap.size 2 (by omega) (by omega) (.string un))
    have O8 := Lib.hid (hw8 ▸ only_new O7.out w2.heap.size 2 (by omega) (.string un))
    clear hw8 cu m0 m1 m2 m3 m4 m5 f2 D7 R7 S7 O7
    obtain ⟨m0, m1, m2, m3, m4, m5⟩ := six_cells D8.out
    by_cases hc : cn = 1
    · subst hc
      go_wp2_with fail
      refine (draw_any 8 B g w8 S8.out (by omega)).mono ?_
      rintro e w10 ⟨dr, rfl, r0, r1, r2, hs10, ho10⟩
      have hz10 := ho10.size
      have D10 := D8.out.grown ho10 (by intro e; injection e with e; omega)
      have R10 := R8.out.grown ho10 (by intro e; injection e with e; omega)
      have O10 := only_trans O8.out ho10
      have f3 := D10.frozen 3
      obtain ⟨q0, q1, q2, q3, q4, q5⟩ := six_cells D10
      have D11 : Blk (w10.setCell ⟨w2.heap.size, 3, none⟩ (.int .i64 dr)) w2.heap.size 79 #[.int .i64 2, .int .i64 1, .string un, .int .i64 dr, .string s, .string ⟨#[]⟩] := by simpa using D10.set_ 3 (.int .i64 dr)
      have R11 := R10.far (p := ⟨w2.heap.size, 3, none⟩) (by simp; omega) (.int .i64 dr)
      have S11 := src_new hs10 w2.heap.size 3 (by omega) (by omega) (.int .i64 dr)
      have O11 := only_new O10 w2.heap.size 3 (by omega) (.int .i64 dr)
      obtain ⟨p0, p1, p2, p3, p4, p5⟩ := six_cells D11
      obtain ⟨g0, g1, g2, g3, g4, g5, g6, g7, g8, g9, g10, g11, g12, g13, g14, g15, g16, g17⟩ := six_facts R11
      clear D10 R10 D11 R11 hs10 ho10 O10
      go_wp2_with fail
      obtain ⟨sn, on⟩ := six_new O11 S11 (Nat.le_refl w.heap.size) (by omega) hB (.int .i64 2) (.int .i64 1) (.string un) (.int .i64 dr) (.string s) (.string ⟨#[]⟩)
      exact bodyPost_ret (v := .agg #[.int .i64 2, .int .i64 1, .string un, .int .i64 dr, .string s, .string ⟨#[]⟩]) (by simp [results, Tryz.results95, go_sem, g12, g13, g14, g15, g16, g17]) rfl ⟨⟨2, 1, un, dr, s, ⟨#[]⟩⟩, rfl, ⟨by dsimp only; omega, by dsimp only; omega, by dsimp only; decide⟩, sn, on⟩
    · have nc : (cn != 1) = true := by simp [hc]
      have f2 := D8.out.frozen 2
      go_upto_region 9 with (fail)
      generalize hw9 : w8.setCell ⟨w2.heap.size, 2, none⟩ (.string (un ++ (⟨#[115]⟩ : ByteArray))) = w9
      have hz9 : w8.heap.size = w9.heap.size := by rw [← hw9]; simp [World.setCell]
      have D9 := Lib.hid (show Blk w9 w2.heap.size 79 #[.int .i64 2, .int .i64 cn, .string (un ++ (⟨#[115]⟩ : ByteArray)), .int .i64 0, .string s, .string ⟨#[]⟩] by rw [← hw9]; simpa using D8.out.set_ 2 (.string (un ++ (⟨#[115]⟩ : ByteArray))))
      have R9 := Lib.hid (hw9 ▸ R8.out.far (p := ⟨w2.heap.size, 2, none⟩) (by simp; omega) (.string (un ++ (⟨#[115]⟩ : ByteArray))))
      have S9 := Lib.hid (hw9 ▸ src_new S8.out w2.heap.size 2 (by omega) (by omega) (.string (un ++ (⟨#[115]⟩ : ByteArray))))
      have O9 := Lib.hid (hw9 ▸ only_new O8.out w2.heap.size 2 (by omega) (.string (un ++ (⟨#[115]⟩ : ByteArray))))
      have hu9 : (un ++ (⟨#[115]⟩ : ByteArray)).size ≤ 9223372036854775807 := by rw [ByteArray.size_append]; have : (⟨#[115]⟩ : ByteArray).size = 1 := rfl; omega
      clear hw9 m0 m1 m2 m3 m4 m5 f2 D8 R8 S8 O8
      generalize un ++ (⟨#[115]⟩ : ByteArray) = us at D9 hu9
      obtain ⟨m0, m1, m2, m3, m4, m5⟩ := six_cells D9.out
      go_wp2_with fail
      refine (draw_any 8 B g w9 S9.out (by omega)).mono ?_
      rintro e w10 ⟨dr, rfl, r0, r1, r2, hs10, ho10⟩
      have hz10 := ho10.size
      have D10 := D9.out.grown ho10 (by intro e; injection e with e; omega)
      have R10 := R9.out.grown ho10 (by intro e; injection e with e; omega)
      have O10 := only_trans O9.out ho10
      have f3 := D10.frozen 3
      obtain ⟨q0, q1, q2, q3, q4, q5⟩ := six_cells D10
      have D11 : Blk (w10.setCell ⟨w2.heap.size, 3, none⟩ (.int .i64 dr)) w2.heap.size 79 #[.int .i64 2, .int .i64 cn, .string us, .int .i64 dr, .string s, .string ⟨#[]⟩] := by simpa using D10.set_ 3 (.int .i64 dr)
      have R11 := R10.far (p := ⟨w2.heap.size, 3, none⟩) (by simp; omega) (.int .i64 dr)
      have S11 := src_new hs10 w2.heap.size 3 (by omega) (by omega) (.int .i64 dr)
      have O11 := only_new O10 w2.heap.size 3 (by omega) (.int .i64 dr)
      obtain ⟨p0, p1, p2, p3, p4, p5⟩ := six_cells D11
      obtain ⟨g0, g1, g2, g3, g4, g5, g6, g7, g8, g9, g10, g11, g12, g13, g14, g15, g16, g17⟩ := six_facts R11
      clear D10 R10 D11 R11 hs10 ho10 O10
      go_wp2_with fail
      obtain ⟨sn, on⟩ := six_new O11 S11 (Nat.le_refl w.heap.size) (by omega) hB (.int .i64 2) (.int .i64 cn) (.string us) (.int .i64 dr) (.string s) (.string ⟨#[]⟩)
      exact bodyPost_ret (v := .agg #[.int .i64 2, .int .i64 cn, .string us, .int .i64 dr, .string s, .string ⟨#[]⟩]) (by simp [results, Tryz.results95, go_sem, g12, g13, g14, g15, g16, g17]) rfl ⟨⟨2, cn, us, dr, s, ⟨#[]⟩⟩, rfl, ⟨by dsimp only; exact hu9, by dsimp only; omega, by dsimp only; decide⟩, sn, on⟩
  · have e3 := c33.out
    obtain ⟨d0, d1, d2, d3, d4, d5⟩ := six_cells D3.out
    have f5 := D3.out.frozen 5
    have D4 := D3.out.set_ 5 (.string ⟨#[100, 101, 118, 97]⟩)
    simp only [List.setIfInBounds_toArray, List.set_cons_succ, List.set_cons_zero] at D4
    have R4 := Lib.hid (R3.out.far (p := ⟨w2.heap.size, 5, none⟩) (by simp; omega) (.string ⟨#[100, 101, 118, 97]⟩))
    have S4 := src_new S3.out w2.heap.size 5 (by omega) (by omega) (.string ⟨#[100, 101, 118, 97]⟩)
    have O4 := only_new O3.out w2.heap.size 5 (by omega) (.string ⟨#[100, 101, 118, 97]⟩)
    obtain ⟨m0, m1, m2, m3, m4, m5⟩ := six_cells D4
    obtain ⟨g0, g1, g2, g3, g4, g5, g6, g7, g8, g9, g10, g11, g12, g13, g14, g15, g16, g17⟩ := six_facts R4.out
    go_wp2_with fail
    obtain ⟨sn, on⟩ := six_new O4 S4 (Nat.le_refl w.heap.size) (by omega) hB (.int .i64 3) (.int .i64 0) (.string ⟨#[]⟩) (.int .i64 0) (.string s) (.string ⟨#[100, 101, 118, 97]⟩)
    exact bodyPost_ret (v := .agg #[.int .i64 3, .int .i64 0, .string ⟨#[]⟩, .int .i64 0, .string s, .string ⟨#[100, 101, 118, 97]⟩]) (by simp [results, Tryz.results95, go_sem, g12, g13, g14, g15, g16, g17]) rfl ⟨⟨3, 0, ⟨#[]⟩, 0, s, ⟨#[100, 101, 118, 97]⟩⟩, rfl, ⟨by dsimp only; decide, by dsimp only; omega, by dsimp only; decide⟩, sn, on⟩
  · obtain ⟨hx2, hx3⟩ := hx
    have n2 : (x == 2) = false := by simp [hx2]
    have n3 : (x == 3) = false := by simp [hx3]
    obtain ⟨m0, m1, m2, m3, m4, m5⟩ := six_cells D3.out
    obtain ⟨g0, g1, g2, g3, g4, g5, g6, g7, g8, g9, g10, g11, g12, g13, g14, g15, g16, g17⟩ := six_facts R3.out
    go_wp2_with fail
    obtain ⟨sn, on⟩ := six_new O3.out S3.out (Nat.le_refl w.heap.size) (by omega) hB (.int .i64 x) (.int .i64 0) (.string ⟨#[]⟩) (.int .i64 0) (.string s) (.string ⟨#[]⟩)
    exact bodyPost_ret (v := .agg #[.int .i64 x, .int .i64 0, .string ⟨#[]⟩, .int .i64 0, .string s, .string ⟨#[]⟩]) (by simp [results, Tryz.results95, go_sem, g12, g13, g14, g15, g16, g17]) rfl ⟨⟨x, 0, ⟨#[]⟩, 0, s, ⟨#[]⟩⟩, rfl, ⟨by dsimp only; decide, by dsimp only; omega, by dsimp only; decide⟩, sn, on⟩
end Go.Proofs.YtaaioengebaebaaGreatDoor
namespace Go.Proofs.YtaaioengebaebaaGreatDoor
open Go.ChangeShapes Go.WideShapes Go.ChangeAt Go.RowKit

set_option maxRecDepth 100000 in
set_option maxHeartbeats 2000000 in
theorem drawD_any (B g : Nat) (w : World) (hs : Src w B g) (hB : B ≤ w.heap.size) :
    Calls Tryz.prog 96 #[.pointer (some ⟨g, 0, none⟩)] w (DrawnD w B g) := by
  have hgl := hs.lt
  have HS := Lib.hid hs; clear hs
  have KN := Lib.hid (blks_one w 79 #[.int .i64 0, .int .i64 0, .string ⟨#[]⟩, .int .i64 0, .string ⟨#[]⟩, .string ⟨#[]⟩])
  go_enter Tryz.func96, Tryz.ntmps96
  go_wp2_with fail
  generalize hW : w.alloc (.cells #[.int .i64 0, .int .i64 0, .string ⟨#[]⟩, .int .i64 0, .string ⟨#[]⟩, .string ⟨#[]⟩] 79) = W
  obtain ⟨b0, bw, hwz⟩ := KN.out W hW.symm
  clear hW
  refine (goodD_any B g W (HS.out.below bw) (by omega)).mono ?_
  rintro e w1 ⟨⟨kd, ct, un, dr, a, b⟩, rfl, ⟨ou, oa, ob⟩, hs1, ho1⟩
  dsimp only at ou oa ob
  unfold Dsc.val
  dsimp only
  have hz1 := ho1.size
  have R1 := Lib.hid (b0.grown ho1 (by intro e; injection e with e; omega))
  have O1 := Lib.hid (only_trans (only_of_below bw : Only w W g) ho1)
  have S1 := Lib.hid hs1
  clear b0 bw hs1 ho1
  go_upto_region 2 with (fail)
  generalize hW3 : w1.alloc (.cells #[.int .i64 kd, .int .i64 ct, .string un, .int .i64 dr, .string a, .string b] 79) = W3
  have D3 := Lib.hid (show Blk W3 w1.heap.size 79 #[.int .i64 kd, .int .i64 ct, .string un, .int .i64 dr, .string a, .string b] by rw [← hW3]; exact Blk.new _ _ _)
  have R3 := Lib.hid (show Blk W3 w.heap.size 79 #[.int .i64 0, .int .i64 0, .string ⟨#[]⟩, .int .i64 0, .string ⟨#[]⟩, .string ⟨#[]⟩] by rw [← hW3]; exact R1.out.alloc _)
  have S3 := Lib.hid (show Src W3 B g by rw [← hW3]; exact S1.out.alloc _)
  have O3 := Lib.hid (show Only w W3 g by rw [← hW3]; exact only_alloc O1.out _)
  obtain ⟨hz3⟩ : Nonempty (w1.heap.size < W3.heap.size) := ⟨D3.out.lt⟩
  clear hW3 R1 O1 S1
  go_wp2_with fail
  refine (draw_any 30 B g W3 S3.out (by omega)).mono ?_
  rintro e w4 ⟨x, rfl, x0, x1, x2, hs4, ho4⟩
  have hz4 := ho4.size
  have D4 := Lib.hid (D3.out.grown ho4 (by intro e; injection e with e; omega))
  have R4 := Lib.hid (R3.out.grown ho4 (by intro e; injection e with e; omega))
  have S4 := Lib.hid hs4
  have O4 := Lib.hid (only_trans O3.out ho4)
  clear hs4 ho4 x1 x2 D3 R3 S3 O3
  obtain rfl | rfl | rfl | rfl | rfl | hx : x = 0 ∨ x = 1 ∨ x = 2 ∨ x = 3 ∨ x = 4 ∨ 4 < x := by omega
  · go_wp2_with fail
    refine (pick_any [0, 1, 2, 99, 100] w4.heap.size 5 B g (w4.alloc (.cells #[.int .i64 0, .int .i64 1, .int .i64 2, .int .i64 99, .int .i64 100] 2)) (S4.out.alloc _) (by simp; omega) (by simp) (by simp) (Blk.new _ _ _) (by omega)).mono ?_
    rintro e w5 ⟨cn, rfl, _, hs5, ho5⟩
    have hz5 : w4.heap.size < w5.heap.size := by have := ho5.size; simp at this; omega
    have D5 := (D4.out.alloc _).grown ho5 (by intro e; injection e with e; omega)
    have R5 := (R4.out.alloc _).grown ho5 (by intro e; injection e with e; omega)
    have O5 := only_trans (only_alloc O4.out _) ho5
    obtain ⟨m0, m1, m2, m3, m4, m5⟩ := six_cells D5
    have fz := Blk.frozen D5 1
    have D8 : Blk (w5.setCell ⟨w1.heap.size, 1, none⟩ (.int .i64 cn)) w1.heap.size 79 #[.int .i64 kd, .int .i64 cn, .string un, .int .i64 dr, .string a, .string b] := by simpa using Blk.set_ D5 1 (.int .i64 cn)
    have R8 := Blk.far R5 (p := ⟨w1.heap.size, 1, none⟩) (by simp; omega) (.int .i64 cn)
    have S8 := src_new hs5 w1.heap.size 1 (by omega) (by omega) (.int .i64 cn)
    have O8 := only_new O5 w1.heap.size 1 (by omega) (.int .i64 cn)
    obtain ⟨p0, p1, p2, p3, p4, p5⟩ := six_cells D8
    obtain ⟨g0, g1, g2, g3, g4, g5, g6, g7, g8, g9, g10, g11, g12, g13, g14, g15, g16, g17⟩ := six_facts R8
    go_wp2_with fail
    obtain ⟨sn, on⟩ := six_new O8 S8 (Nat.le_refl w.heap.size) (by omega) hB (.int .i64 kd) (.int .i64 cn) (.string un) (.int .i64 dr) (.string a) (.string b)
    exact bodyPost_ret (v := .agg #[.int .i64 kd, .int .i64 cn, .string un, .int .i64 dr, .string a, .string b]) (by simp [results, Tryz.results96, go_sem, g12, g13, g14, g15, g16, g17]) rfl ⟨⟨kd, cn, un, dr, a, b⟩, rfl, ⟨ou, oa, ob⟩, sn, on⟩
  · go_wp2_with fail
    have BU := Blk.new w4 9 #[.string ⟨#[]⟩, .string ⟨#[110, 101, 97, 114]⟩, .string ⟨#[110, 111, 114, 116, 104]⟩, .string ⟨#[65, 115, 104]⟩, .string ⟨#[108, 101, 97, 103, 117, 101, 115]⟩]
    refine (draw_any 5 B g _ (S4.out.alloc _) (by simp; omega)).mono ?_
    rintro e w5 ⟨y, rfl, y0, y1, y2, hs5, ho5⟩
    obtain ⟨j, rfl⟩ : ∃ j : Nat, y = j := ⟨y.toNat, by omega⟩
    have hj : j < 5 := by have := y1 (by omega); omega
    have hz5 : w4.heap.size < w5.heap.size := by have := ho5.size; simp at this; omega
    have cu := (BU.grown ho5 (by intro e; injection e with e; omega)).cell j
    obtain ⟨us, hun, hus⟩ : ∃ s : ByteArray, (#[Value.string ⟨#[]⟩, .string ⟨#[110, 101, 97, 114]⟩, .string ⟨#[110, 111, 114, 116, 104]⟩, .string ⟨#[65, 115, 104]⟩, .string ⟨#[108, 101, 97, 103, 117, 101, 115]⟩] : Array Value)[j]? = some (.string s) ∧ s.size ≤ 100 := by
      match j, hj with
      | 0, _ => exact ⟨_, rfl, by decide⟩
      | 1, _ => exact ⟨_, rfl, by decide⟩
      | 2, _ => exact ⟨_, rfl, by decide⟩
      | 3, _ => exact ⟨_, rfl, by decide⟩
      | 4, _ => exact ⟨_, rfl, by decide⟩
    rw [hun] at cu
    have D5 := (D4.out.alloc _).grown ho5 (by intro e; injection e with e; omega)
    have R5 := (R4.out.alloc _).grown ho5 (by intro e; injection e with e; omega)
    have O5 := only_trans (only_alloc O4.out _) ho5
    clear hun y0 y1 y2 BU
    obtain ⟨m0, m1, m2, m3, m4, m5⟩ := six_cells D5
    have fz := Blk.frozen D5 4
    have D8 : Blk (w5.setCell ⟨w1.heap.size, 4, none⟩ (.string us)) w1.heap.size 79 #[.int .i64 kd, .int .i64 ct, .string un, .int .i64 dr, .string us, .string b] := by simpa using Blk.set_ D5 4 (.string us)
    have R8 := Blk.far R5 (p := ⟨w1.heap.size, 4, none⟩) (by simp; omega) (.string us)
    have S8 := src_new hs5 w1.heap.size 4 (by omega) (by omega) (.string us)
    have O8 := only_new O5 w1.heap.size 4 (by omega) (.string us)
    obtain ⟨p0, p1, p2, p3, p4, p5⟩ := six_cells D8
    obtain ⟨g0, g1, g2, g3, g4, g5, g6, g7, g8, g9, g10, g11, g12, g13, g14, g15, g16, g17⟩ := six_facts R8
    go_wp2_with fail
    obtain ⟨sn, on⟩ := six_new O8 S8 (Nat.le_refl w.heap.size) (by omega) hB (.int .i64 kd) (.int .i64 ct) (.string un) (.int .i64 dr) (.string us) (.string b)
    exact bodyPost_ret (v := .agg #[.int .i64 kd, .int .i64 ct, .string un, .int .i64 dr, .string us, .string b]) (by simp [results, Tryz.results96, go_sem, g12, g13, g14, g15, g16, g17]) rfl ⟨⟨kd, ct, un, dr, us, b⟩, rfl, ⟨ou, by dsimp only; omega, ob⟩, sn, on⟩
  · go_wp2_with fail
    refine (draw_any 6 B g w4 S4.out (by omega)).mono ?_
    rintro e w5 ⟨y, rfl, y0, y1, y2, hs5, ho5⟩
    have hyy := y1 (by omega)
    have yw : IntKind.i64.wrap (y - 1) = y - 1 := IntWalk.i64_in _ (by omega)
    have hz5 := ho5.size
    have D5 := D4.out.grown ho5 (by intro e; injection e with e; omega)
    have R5 := R4.out.grown ho5 (by intro e; injection e with e; omega)
    have O5 := only_trans O4.out ho5
    clear y1 y2
    obtain ⟨m0, m1, m2, m3, m4, m5⟩ := six_cells D5
    have fz := Blk.frozen D5 0
    have D8 : Blk (w5.setCell ⟨w1.heap.size, 0, none⟩ (.int .i64 (y - 1))) w1.heap.size 79 #[.int .i64 (y - 1), .int .i64 ct, .string un, .int .i64 dr, .string a, .string b] := by simpa using Blk.set_ D5 0 (.int .i64 (y - 1))
    have R8 := Blk.far R5 (p := ⟨w1.heap.size, 0, none⟩) (by simp; omega) (.int .i64 (y - 1))
    have S8 := src_new hs5 w1.heap.size 0 (by omega) (by omega) (.int .i64 (y - 1))
    have O8 := only_new O5 w1.heap.size 0 (by omega) (.int .i64 (y - 1))
    obtain ⟨p0, p1, p2, p3, p4, p5⟩ := six_cells D8
    obtain ⟨g0, g1, g2, g3, g4, g5, g6, g7, g8, g9, g10, g11, g12, g13, g14, g15, g16, g17⟩ := six_facts R8
    go_wp2_with fail
    obtain ⟨sn, on⟩ := six_new O8 S8 (Nat.le_refl w.heap.size) (by omega) hB (.int .i64 (y - 1)) (.int .i64 ct) (.string un) (.int .i64 dr) (.string a) (.string b)
    exact bodyPost_ret (v := .agg #[.int .i64 (y - 1), .int .i64 ct, .string un, .int .i64 dr, .string a, .string b]) (by simp [results, Tryz.results96, go_sem, g12, g13, g14, g15, g16, g17]) rfl ⟨⟨y - 1, ct, un, dr, a, b⟩, rfl, ⟨ou, oa, ob⟩, sn, on⟩
  · go_wp2_with fail
    have BU := Blk.new w4 9 #[.string ⟨#[97, 115, 104]⟩, .string ⟨#[97, 110, 100]⟩, .string ⟨#[]⟩]
    refine (draw_any 3 B g _ (S4.out.alloc _) (by simp; omega)).mono ?_
    rintro e w5 ⟨y, rfl, y0, y1, y2, hs5, ho5⟩
    obtain ⟨j, rfl⟩ : ∃ j : Nat, y = j := ⟨y.toNat, by omega⟩
    have hj : j < 3 := by have := y1 (by omega); omega
    have hz5 : w4.heap.size < w5.heap.size := by have := ho5.size; simp at this; omega
    have cu := (BU.grown ho5 (by intro e; injection e with e; omega)).cell j
    obtain ⟨us, hun, hus⟩ : ∃ s : ByteArray, (#[Value.string ⟨#[97, 115, 104]⟩, .string ⟨#[97, 110, 100]⟩, .string ⟨#[]⟩] : Array Value)[j]? = some (.string s) ∧ s.size ≤ 100 := by
      match j, hj with
      | 0, _ => exact ⟨_, rfl, by decide⟩
      | 1, _ => exact ⟨_, rfl, by decide⟩
      | 2, _ => exact ⟨_, rfl, by decide⟩
    rw [hun] at cu
    have D5 := (D4.out.alloc _).grown ho5 (by intro e; injection e with e; omega)
    have R5 := (R4.out.alloc _).grown ho5 (by intro e; injection e with e; omega)
    have O5 := only_trans (only_alloc O4.out _) ho5
    clear hun y0 y1 y2 BU
    obtain ⟨m0, m1, m2, m3, m4, m5⟩ := six_cells D5
    have fz := Blk.frozen D5 5
    have D8 : Blk (w5.setCell ⟨w1.heap.size, 5, none⟩ (.string us)) w1.heap.size 79 #[.int .i64 kd, .int .i64 ct, .string un, .int .i64 dr, .string a, .string us] := by simpa using Blk.set_ D5 5 (.string us)
    have R8 := Blk.far R5 (p := ⟨w1.heap.size, 5, none⟩) (by simp; omega) (.string us)
    have S8 := src_new hs5 w1.heap.size 5 (by omega) (by omega) (.string us)
    have O8 := only_new O5 w1.heap.size 5 (by omega) (.string us)
    obtain ⟨p0, p1, p2, p3, p4, p5⟩ := six_cells D8
    obtain ⟨g0, g1, g2, g3, g4, g5, g6, g7, g8, g9, g10, g11, g12, g13, g14, g15, g16, g17⟩ := six_facts R8
    go_wp2_with fail
    obtain ⟨sn, on⟩ := six_new O8 S8 (Nat.le_refl w.heap.size) (by omega) hB (.int .i64 kd) (.int .i64 ct) (.string un) (.int .i64 dr) (.string a) (.string us)
    exact bodyPost_ret (v := .agg #[.int .i64 kd, .int .i64 ct, .string un, .int .i64 dr, .string a, .string us]) (by simp [results, Tryz.results96, go_sem, g12, g13, g14, g15, g16, g17]) rfl ⟨⟨kd, ct, un, dr, a, us⟩, rfl, ⟨ou, oa, by dsimp only; omega⟩, sn, on⟩
  · go_wp2_with fail
    refine (pick_any [-1, 8, 3] w4.heap.size 3 B g (w4.alloc (.cells #[.int .i64 (-1), .int .i64 8, .int .i64 3] 2)) (S4.out.alloc _) (by simp; omega) (by simp) (by simp) (Blk.new _ _ _) (by omega)).mono ?_
    rintro e w5 ⟨cn, rfl, _, hs5, ho5⟩
    have hz5 : w4.heap.size < w5.heap.size := by have := ho5.size; simp at this; omega
    have D5 := (D4.out.alloc _).grown ho5 (by intro e; injection e with e; omega)
    have R5 := (R4.out.alloc _).grown ho5 (by intro e; injection e with e; omega)
    have O5 := only_trans (only_alloc O4.out _) ho5
    obtain ⟨m0, m1, m2, m3, m4, m5⟩ := six_cells D5
    have fz := Blk.frozen D5 3
    have D8 : Blk (w5.setCell ⟨w1.heap.size, 3, none⟩ (.int .i64 cn)) w1.heap.size 79 #[.int .i64 kd, .int .i64 ct, .string un, .int .i64 cn, .string a, .string b] := by simpa using Blk.set_ D5 3 (.int .i64 cn)
    have R8 := Blk.far R5 (p := ⟨w1.heap.size, 3, none⟩) (by simp; omega) (.int .i64 cn)
    have S8 := src_new hs5 w1.heap.size 3 (by omega) (by omega) (.int .i64 cn)
    have O8 := only_new O5 w1.heap.size 3 (by omega) (.int .i64 cn)
    obtain ⟨p0, p1, p2, p3, p4, p5⟩ := six_cells D8
    obtain ⟨g0, g1, g2, g3, g4, g5, g6, g7, g8, g9, g10, g11, g12, g13, g14, g15, g16, g17⟩ := six_facts R8
    go_wp2_with fail
    obtain ⟨sn, on⟩ := six_new O8 S8 (Nat.le_refl w.heap.size) (by omega) hB (.int .i64 kd) (.int .i64 ct) (.string un) (.int .i64 cn) (.string a) (.string b)
    exact bodyPost_ret (v := .agg #[.int .i64 kd, .int .i64 ct, .string un, .int .i64 cn, .string a, .string b]) (by simp [results, Tryz.results96, go_sem, g12, g13, g14, g15, g16, g17]) rfl ⟨⟨kd, ct, un, cn, a, b⟩, rfl, ⟨ou, oa, ob⟩, sn, on⟩
  · have e0 : (x == 0) = false := by simp; omega
    have e1 : (x == 1) = false := by simp; omega
    have e2 : (x == 2) = false := by simp; omega
    have e3 : (x == 3) = false := by simp; omega
    have e4 : (x == 4) = false := by simp; omega
    obtain ⟨p0, p1, p2, p3, p4, p5⟩ := six_cells D4.out
    obtain ⟨g0, g1, g2, g3, g4, g5, g6, g7, g8, g9, g10, g11, g12, g13, g14, g15, g16, g17⟩ := six_facts R4.out
    go_wp2_with fail
    obtain ⟨sn, on⟩ := six_new O4.out S4.out (Nat.le_refl w.heap.size) (by omega) hB (.int .i64 kd) (.int .i64 ct) (.string un) (.int .i64 dr) (.string a) (.string b)
    exact bodyPost_ret (v := .agg #[.int .i64 kd, .int .i64 ct, .string un, .int .i64 dr, .string a, .string b]) (by simp [results, Tryz.results96, go_sem, g12, g13, g14, g15, g16, g17]) rfl ⟨⟨kd, ct, un, dr, a, b⟩, rfl, ⟨ou, oa, ob⟩, sn, on⟩
end Go.Proofs.YtaaioengebaebaaGreatDoor
namespace Go.Proofs.YtaaioengebaebaaGreatDoor
open Go.ChangeShapes Go.WideShapes Go.ChangeAt Go.RowKit

theorem only_own {a b c : World} {g : Nat} {row : Option Nat} (h : Only a b g) (k : b.grownBy c row) (hr : ∀ j, row = some j → a.heap.size ≤ j) : Only a c g :=
  ⟨k.os.trans h.os, k.tape.trans h.tape, k.output.trans h.output, Nat.le_trans h.size k.size, fun i hi _ => (k.block i (Nat.lt_of_lt_of_le hi h.size) (by intro e; have := hr i e.symm; omega)).trans (h.block i hi ‹_›)⟩
theorem new_vs (w : World) (t : TypeId) (cs : List Value) (n : Nat) (hn : cs.length = n) : Reads (w.alloc (.cells cs.toArray t)) (w.alloc (.cells cs.toArray t)).heap.size n (some ⟨w.heap.size, 0, none⟩) 1 cs :=
  ⟨by omega, fun _ => ⟨w.heap.size, 0, rfl, by simp, fun j v hv => by
    rw [Nat.zero_add, (Blk.new w t cs.toArray).cell]; simpa using hv⟩⟩
/-- Drawn descriptions. -/
def DrawnDs (w : World) (B g : Nat) (e : Ending) (w' : World) : Prop := ∃ (L : List Dsc) (Bq : Option Addr) (dq : Nat), e = .returned (.slice Bq L.length dq) ∧ w'.ownsRow w.heap.size 79 6 (.slice Bq L.length dq) L.length (dsC L) ∧ (∀ s ∈ L, s.Ok) ∧ L.length ≤ 20 ∧ Src w' B g ∧ Only w w' g
set_option maxRecDepth 100000 in
set_option maxHeartbeats 2000000 in
theorem listD_any (B g : Nat) (w : World) (hs : Src w B g) (hB : B ≤ w.heap.size) :
    Calls Tryz.prog 67 #[.pointer (some ⟨g, 0, none⟩)] w (DrawnDs w B g) := by
  obtain ⟨i0, hi0, hz0, hz1, hz2⟩ := info_parts infoDsc
  have hgl := hs.lt
  have HS := Lib.hid hs; clear hs
  have OW := Lib.hid (World.ownsRow_made (e := 79) (base := w.heap.size) (size := 6) w #[] 0 (Nat.le_refl _) (by decide) rfl)
  have S0 := Lib.hid (HS.out.alloc (.cells #[] 79))
  have N0 := Lib.hid (only_of_below ((Below.refl w.heap.size w).alloc (Nat.le_refl _) (.cells #[] 79)) : Only w _ g)
  go_enter Tryz.func67, Tryz.ntmps67
  go_wp2_with fail
  refine (draw_any 4 B g _ S0.out (by simp; omega)).mono ?_
  rintro e w1 ⟨x, rfl, h0, h1, _, hs1, ho1⟩
  have h1' := h1 (by omega)
  have O1 := Lib.hid (own_only OW.out ho1 hgl)
  have N1 := Lib.hid (only_trans N0.out ho1)
  have S1 := Lib.hid hs1
  clear hs1 ho1 h1 OW N0 S0
  obtain ⟨m, rfl⟩ : ∃ m : Nat, x = m := ⟨x.toNat, by omega⟩
  have hm3 : m ≤ 3 := by omega
  clear h0 h1'
  go_wp2_with fail
  go_loopw [3, 4] (fun v3 v4 wr => ∃ (L : List Dsc) (n j : Nat) (Bq : Option Addr) (dq : Nat), n + j ≤ 3 ∧ Hid (L.length = n) ∧ Hid (∀ s ∈ L, s.Ok) ∧ v3 = .slice Bq n dq ∧ Hid (wr.ownsRow w.heap.size 79 6 (.slice Bq n dq) n (dsC L)) ∧ Hid (Src wr B g) ∧ Hid (Only w wr g) ∧ v4 = .int .i64 (j : Int)) (fun _ i _ => (intOf i).toNat)
  case atStart => exact ⟨[], 0, m, _, 0, by omega, rfl, (fun s h => by cases h), rfl, O1.out, S1.out, N1.out, rfl⟩
  case round =>
    clear O1 S1 N1
    obtain ⟨L, n, j, Bq, dq, hj, HN, HL, rfl, HO, S1, N1, rfl⟩ := hrel
    have hwB : w.heap.size ≤ wr.heap.size := N1.out.size
    cases j with
    | zero =>
      have hno : ¬ (0 : Int) < ((0 : Nat) : Int) := by omega
      go_wp2_with fail
      refine (draw_any 30 B g wr S1.out (by omega)).mono ?_
      rintro e w2 ⟨y, rfl, y0, y1, _, hs2, ho2⟩
      have O2 := Lib.hid (own_only HO.out ho2 hgl)
      have N2 := Lib.hid (only_trans N1.out ho2)
      have S2 := Lib.hid hs2
      have hz2' := N2.out.size
      clear hs2 ho2 y1 HO N1 S1
      by_cases hy0 : y = 0
      · subst hy0
        go_wp2_with fail
        go_loopw [3] (fun v3 wr => ∃ (L : List Dsc) (n : Nat) (Bq : Option Addr) (dq : Nat), n ≤ 9 ∧ Hid (L.length = n) ∧ Hid (∀ s ∈ L, s.Ok) ∧ v3 = .slice Bq n dq ∧ Hid (wr.ownsRow w.heap.size 79 6 (.slice Bq n dq) n (dsC L)) ∧ Hid (Src wr B g) ∧ Hid (Only w wr g)) (fun v _ => 9 - (match v with | .slice _ n _ => n | _ => 0))
        case atStart => exact ⟨L, n, Bq, dq, by omega, HN.out, HL.out, rfl, O2.out, S2.out, N2.out⟩
        case round =>
          clear O2 S2 N2 HN HL
          obtain ⟨L, n, Bq, dq, hj, HN, HL, rfl, HO, S1, N1⟩ := hrel
          have hwB : w.heap.size ≤ wr.heap.size := N1.out.size
          go_wp2_with fail
          refine (draw_any 2 B g wr S1.out (by omega)).mono ?_
          rintro e w2 ⟨z, rfl, z0, z1, _, hs2, ho2⟩
          have hzz := z1 (by omega)
          have O2 := Lib.hid (own_only HO.out ho2 hgl)
          have N2 := Lib.hid (only_trans N1.out ho2)
          have S2 := Lib.hid hs2
          have hz2' := N2.out.size
          have zw : IntKind.i64.wrap (8 + z) = 8 + z := IntWalk.i64_in _ (by omega)
          clear hs2 ho2 z1 HO N1 S1
          by_cases hlt : (n : Int) < 8 + z
          · skip
            go_wp2_with (at_builtin; refine wpList_append_any _ rfl (.tmp 33) (.tmp 35) _ rfl w.heap.size 79 i0 _ 6 72 Tryz.underlying37 hi0 hz0 hz1 hz2 rfl (by omega) (.slice Bq n dq) n (dsC L) rfl (O2.out.alloc _) _ (some ⟨w2.heap.size, 0, none⟩) 1 1 [.int .i64 1, .int .i64 0, .string ⟨#[]⟩, .int .i64 0, .string ⟨#[97, 115, 104]⟩, .string ⟨#[]⟩] rfl (new_vs _ _ _ _ rfl) (by simp [Value.oneCell']) (by simp only [maxLen]; omega) (by omega) (by simp; omega) ?_; intro v9 w9 hown9 hg9 hat9; obtain ⟨B9, d9, rfl, _⟩ := own_shape hown9)
            have hlo : ∀ k, (Value.slice Bq n dq).ownBlock = some k → w.heap.size ≤ k := fun k hk => (own_lt O2.out k hk).1
            have S9 := Lib.hid ((S2.out.alloc _).grown hg9 (by intro e; have := hlo g e; omega) (fun k hk => by have := hlo k hk; omega))
            have N9 := Lib.hid (only_own (only_trans N2.out (only_of_below ((Below.refl w2.heap.size w2).alloc (Nat.le_refl _) _))) hg9 hlo)
            have O9 := Lib.hid (show w9.ownsRow w.heap.size 79 6 (.slice B9 (n + 1) d9) (n + 1) (dsC (L ++ [⟨1, 0, ⟨#[]⟩, 0, ⟨#[97, 115, 104]⟩, ⟨#[]⟩⟩])) by simpa [dsC, Dsc.cells] using hown9)
            clear hown9 hg9 hat9 hlo
            go_roundw
            case rel => exact ⟨L ++ [(⟨1, 0, ⟨#[]⟩, 0, ⟨#[97, 115, 104]⟩, ⟨#[]⟩⟩ : Dsc)], n + 1, B9, d9, by omega, by have := HN.out; simp [Hid, this], (fun a ha => (List.mem_append.1 ha).elim (HL.out a) (fun h => by rw [List.mem_singleton] at h; rw [h]; exact (show Dsc.Ok ⟨1, 0, ⟨#[]⟩, 0, ⟨#[97, 115, 104]⟩, ⟨#[]⟩⟩ from ⟨by decide, by decide, by decide⟩))), rfl, O9.out, S9.out, N9.out⟩
            case measure => dsimp only; omega
          · skip
            go_wp2_with fail
            go_ret
            have hn := HN.out
            subst hn
            exact ⟨L, Bq, dq, by first | rfl | simp, by first | exact O2.out | simpa using O2.out, HL.out, by (try simp); omega, S2.out, N2.out⟩
      · have e0 : (y == 0) = false := by simpa using hy0
        go_wp2_with fail
        go_ret
        have hn := HN.out
        subst hn
        exact ⟨L, Bq, dq, by first | rfl | simp, by first | exact O2.out | simpa using O2.out, HL.out, by (try simp); omega, S2.out, N2.out⟩
    | succ j =>
      have hyes : (0 : Int) < ((j + 1 : Nat) : Int) := by omega
      go_wp2_with fail
      refine (goodD_any B g wr S1.out (by omega)).mono ?_
      rintro e w2 ⟨⟨kd, ct, un, dr, a, b⟩, rfl, c0, hs2, ho2⟩
      unfold Dsc.val
      dsimp only
      have O2 := Lib.hid (own_only HO.out ho2 hgl)
      have N2 := Lib.hid (only_trans N1.out ho2)
      have S2 := Lib.hid hs2
      have hz2' := N2.out.size
      have hsz2 := ho2.size
      clear hs2 ho2
      go_upto_region 6 with (fail)
      generalize hW3 : w2.alloc (.cells #[.int .i64 kd, .int .i64 ct, .string un, .int .i64 dr, .string a, .string b] 79) = w3
      have K3 := Lib.hid (show Blk w3 w2.heap.size 79 #[.int .i64 kd, .int .i64 ct, .string un, .int .i64 dr, .string a, .string b] by rw [← hW3]; exact Blk.new _ _ _)
      have S3 := Lib.hid (show Src w3 B g by rw [← hW3]; exact S2.out.alloc _)
      have N3 := Lib.hid (show Only w w3 g by rw [← hW3]; exact only_trans N2.out (only_of_below ((Below.refl _ _).alloc (Nat.le_refl _) _)))
      have O3 := Lib.hid (show w3.ownsRow w.heap.size 79 6 (.slice Bq n dq) n (dsC L) by rw [← hW3]; exact own_below O2.out ((Below.refl _ _).alloc (Nat.le_refl _) _))
      have HNE := Lib.hid (show ∀ k, (Value.slice Bq n dq).ownBlock = some k → k ≠ w2.heap.size from fun k hk => by have := (own_lt O2.out k hk).2; omega)
      have hz3' : w2.heap.size + 1 ≤ w3.heap.size := K3.out.lt
      clear hW3 S2 N2 O2
      go_wp2_with fail
      refine (draw_any 30 B g w3 S3.out (by omega)).mono ?_
      rintro e w4 ⟨y, rfl, y0, y1, _, hs4, ho4⟩
      have O4 := Lib.hid (own_only O3.out ho4 hgl)
      have K4 := Lib.hid (K3.out.grown ho4 (by intro e; injection e with e; omega))
      have N4 := Lib.hid (only_trans N3.out ho4)
      have S4 := Lib.hid hs4
      have hz4' := ho4.size
      clear hs4 ho4 y1 O3 N3 S3 K3
      by_cases hy0 : y = 0
      · subst hy0
        go_wp2_with fail
        refine (drawD_any B g w4 S4.out (by omega)).mono ?_
        rintro e w5 ⟨⟨kd2, ct2, un2, dr2, a2, b2⟩, rfl, c2, hs5, ho5⟩
        unfold Dsc.val
        dsimp only
        have O5 := Lib.hid (own_only O4.out ho5 hgl)
        have K5 := Lib.hid (K4.out.grown ho5 (by intro e; injection e with e; omega))
        have N5 := Lib.hid (only_trans N4.out ho5)
        have S5 := Lib.hid hs5
        have hz5' := ho5.size
        clear hs5 ho5 O4 N4 S4 K4
        obtain ⟨g0, g1, g2, g3, g4, g5, g6, g7, g8, g9, g10, g11, g12, g13, g14, g15, g16, g17⟩ := six_facts K5.out
        go_upto_region 8 with (fail)
        clear g0 g1 g2 g3 g4 g5 g6 g7 g8 g9 g10 g11 g12 g13 g14 g15 g16 g17
        generalize hw : (((((w5.setCell ⟨w2.heap.size, 0, none⟩ (.int .i64 kd2)).setCell ⟨w2.heap.size, 1, none⟩ (.int .i64 ct2)).setCell ⟨w2.heap.size, 2, none⟩ (.string un2)).setCell ⟨w2.heap.size, 3, none⟩ (.int .i64 dr2)).setCell ⟨w2.heap.size, 4, none⟩ (.string a2)).setCell ⟨w2.heap.size, 5, none⟩ (.string b2) = w6
        obtain ⟨kq, kept⟩ := stored_6 K5.out S5.out N5.out (by omega) (by omega) (by omega) (.int .i64 kd2) (.int .i64 ct2) (.string un2) (.int .i64 dr2) (.string a2) (.string b2) w6 hw.symm
        have K6 := Lib.hid kq
        have O6 := Lib.hid (kept.own O5.out HNE.out)
        have S6 := Lib.hid kept.src
        have N6 := Lib.hid kept.only
        have hz6' := Nat.le_of_eq kept.size.symm
        clear kq kept hw O5 N5 S5 K5
        obtain ⟨q0, q1, q2, q3, q4, q5⟩ := six_cells K6.out
        go_wp2_with (at_builtin; refine wpList_append_any _ rfl (.tmp 20) (.tmp 22) _ rfl w.heap.size 79 i0 _ 6 72 Tryz.underlying37 hi0 hz0 hz1 hz2 rfl (by omega) (.slice Bq n dq) n (dsC L) rfl (O6.out.alloc _) _ (some ⟨w6.heap.size, 0, none⟩) 1 1 [.int .i64 kd2, .int .i64 ct2, .string un2, .int .i64 dr2, .string a2, .string b2] rfl (new_vs _ _ _ _ rfl) (by simp [Value.oneCell']) (by simp only [maxLen]; omega) (by omega) (by simp; omega) ?_; intro v9 w9 hown9 hg9 hat9; obtain ⟨B9, d9, rfl, _⟩ := own_shape hown9)
        have hlo : ∀ k, (Value.slice Bq n dq).ownBlock = some k → w.heap.size ≤ k := fun k hk => (own_lt O6.out k hk).1
        have S9 := Lib.hid ((S6.out.alloc _).grown hg9 (by intro e; have := hlo g e; omega) (fun k hk => by have := hlo k hk; omega))
        have N9 := Lib.hid (only_own (only_trans N6.out (only_of_below ((Below.refl w6.heap.size w6).alloc (Nat.le_refl _) _))) hg9 hlo)
        have O9 := Lib.hid (show w9.ownsRow w.heap.size 79 6 (.slice B9 (n + 1) d9) (n + 1) (dsC (L ++ [⟨kd2, ct2, un2, dr2, a2, b2⟩])) by simpa [dsC, Dsc.cells] using hown9)
        clear hown9 hg9 hat9 hlo
        clear q0 q1 q2 q3 q4 q5
        go_roundw
        case rel => exact ⟨L ++ [(⟨kd2, ct2, un2, dr2, a2, b2⟩ : Dsc)], n + 1, j, B9, d9, by omega, by have := HN.out; simp [Hid, this], (fun a ha => (List.mem_append.1 ha).elim (HL.out a) (fun h => by rw [List.mem_singleton] at h; rw [h]; exact c2)), rfl, O9.out, S9.out, N9.out, by go_num⟩
        case measure => simp [intOf]
      · have e0 : (y == 0) = false := by simpa using hy0
        obtain ⟨q0, q1, q2, q3, q4, q5⟩ := six_cells K4.out
        go_wp2_with (at_builtin; refine wpList_append_any _ rfl (.tmp 20) (.tmp 22) _ rfl w.heap.size 79 i0 _ 6 72 Tryz.underlying37 hi0 hz0 hz1 hz2 rfl (by omega) (.slice Bq n dq) n (dsC L) rfl (O4.out.alloc _) _ (some ⟨w4.heap.size, 0, none⟩) 1 1 [.int .i64 kd, .int .i64 ct, .string un, .int .i64 dr, .string a, .string b] rfl (new_vs _ _ _ _ rfl) (by simp [Value.oneCell']) (by simp only [maxLen]; omega) (by omega) (by simp; omega) ?_; intro v9 w9 hown9 hg9 hat9; obtain ⟨B9, d9, rfl, _⟩ := own_shape hown9)
        have hlo : ∀ k, (Value.slice Bq n dq).ownBlock = some k → w.heap.size ≤ k := fun k hk => (own_lt O4.out k hk).1
        have S9 := Lib.hid ((S4.out.alloc _).grown hg9 (by intro e; have := hlo g e; omega) (fun k hk => by have := hlo k hk; omega))
        have N9 := Lib.hid (only_own (only_trans N4.out (only_of_below ((Below.refl w4.heap.size w4).alloc (Nat.le_refl _) _))) hg9 hlo)
        have O9 := Lib.hid (show w9.ownsRow w.heap.size 79 6 (.slice B9 (n + 1) d9) (n + 1) (dsC (L ++ [⟨kd, ct, un, dr, a, b⟩])) by simpa [dsC, Dsc.cells] using hown9)
        clear hown9 hg9 hat9 hlo
        clear q0 q1 q2 q3 q4 q5
        go_roundw
        case rel => exact ⟨L ++ [(⟨kd, ct, un, dr, a, b⟩ : Dsc)], n + 1, j, B9, d9, by omega, by have := HN.out; simp [Hid, this], (fun a ha => (List.mem_append.1 ha).elim (HL.out a) (fun h => by rw [List.mem_singleton] at h; rw [h]; exact c0)), rfl, O9.out, S9.out, N9.out, by go_num⟩
        case measure => simp [intOf]
end Go.Proofs.YtaaioengebaebaaGreatDoor
