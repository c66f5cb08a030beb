/- DrawDoesSatisfy, DrawCountSatisfied of the reference. -/
import Derived.Test.YtnbpbidflacoiaaDoorRows
import Derived.Test.YtnbpbidflacoiaaDoorL0
import Derived.Test.YtnbpbidflacoiaaDoorM0
import Derived.WalkKit
import Derived.ProofKit
import Derived.OpenShut
import Derived.BigQuiet
import Derived.Outline
import Derived.WalkSpells
import Derived.WalkLawsBesides
import Derived.Deep.DeepCutAuto
import Derived.Test.YtnbpbidflacoiaaDoorZG
import Derived.Test.YtnbpbidflacoiaaDoorZD
import Derived.Test.YtnbpbidflacoiaaDoorZ4
namespace Go.Proofs.YtnbpbidflacoiaaDoor
open Go.ChangeShapes Go.WideShapes Go.ChangeAt Go.RowKit

abbrev set2 (w : World) (r : Nat) (v0 v1 : Value) : World := (w.setCell ⟨r, 0, none⟩ v0).setCell ⟨r, 1, none⟩ v1
theorem set6_far {w : World} {r s : Nat} {t : TypeId} {ys : Array Value} (hs : Blk w s t ys) (h : s ≠ r) (v0 v1 v2 v3 v4 v5 : Value) : Blk (set6 w r v0 v1 v2 v3 v4 v5) s t ys :=
  (((((hs.far (p := ⟨r, 0, none⟩) h v0).far (p := ⟨r, 1, none⟩) h v1).far (p := ⟨r, 2, none⟩) h v2).far (p := ⟨r, 3, none⟩) h v3).far (p := ⟨r, 4, none⟩) h v4).far (p := ⟨r, 5, none⟩) h v5
theorem set2_far {w : World} {r s : Nat} {t : TypeId} {ys : Array Value} (hs : Blk w s t ys) (h : s ≠ r) (v0 v1 : Value) : Blk (set2 w r v0 v1) s t ys :=
  (hs.far (p := ⟨r, 0, none⟩) h v0).far (p := ⟨r, 1, none⟩) h v1
theorem set2_blk {w : World} {r : Nat} {t : TypeId} {z0 z1 : Value} (h : Blk w r t #[z0, z1]) (v0 v1 : Value) : Blk (set2 w r v0 v1) r t #[v0, v1] := by
  simpa using (h.set_ 0 v0).set_ 1 v1
/-- Drawn sites, a description and a point. -/
def DrawnDoes (w : World) (e : Ending) (w' : World) : Prop := ∃ (L : List Sit) (d : Dsc) (px py : Int) (Bq : Option Addr) (dq : Nat), e = .returned (.tuple #[.slice Bq L.length dq, d.val, .agg #[.int .i64 px, .int .i64 py]]) ∧ w'.ownsRow w.heap.size 81 3 (.slice Bq L.length dq) L.length (siC L) ∧ (∀ s ∈ L, SmallSt s) ∧ L.length ≤ 30 ∧ d.Ok ∧ Below w.heap.size w w'
set_option maxRecDepth 100000 in
set_option maxHeartbeats 4000000 in
theorem drawDoes_any (A : Option Addr) (n c : Nat) (w : World) (h : Code8 w A n) :
    Calls Tryd.prog 33 #[.slice A n c] w (DrawnDoes w) := by
  have mixed : Tryd.prog.follows Departure.mixedOrders = true := by kernel_rfl
  have HC := Lib.hid h; clear h
  have KN := Lib.hid (blks_two w 25 52 #[.int .i64 0, .int .i64 0, .string ⟨#[]⟩, .int .i64 0, .string ⟨#[]⟩, .string ⟨#[]⟩] #[.int .i64 0, .int .i64 0])
  go_enter Tryd.func33, Tryd.ntmps33
  go_wp2_with fail
  generalize hW : ((w.alloc (.cells #[.int .i64 0, .int .i64 0, .string ⟨#[]⟩, .int .i64 0, .string ⟨#[]⟩, .string ⟨#[]⟩] 25)).alloc (.cells #[.int .i64 0, .int .i64 0] 52)) = W
  obtain ⟨b0r, b0s, bw, hwz⟩ := KN.out W hW.symm
  have hwz := Nat.le_of_eq hwz.symm
  clear hW KN
  refine (codeB A n c w W HC.out bw).mono ?_
  rintro e w1 ⟨g, rfl, hs1, hgb, b1⟩
  obtain ⟨B, hBe⟩ : ∃ B, B = w.heap.size := ⟨_, rfl⟩
  rw [← hBe] at hs1
  have hB1 : B ≤ w.heap.size := by omega
  have hB0 : w.heap.size ≤ B := by omega
  have hB2 : B ≤ w1.heap.size := by have := b1.size; omega
  have hgl := hs1.lt
  have N1 := Lib.hid (only_of_below (bw.trans (b1.mono bw.size)) : Only w w1 g)
  have Kr1 := Lib.hid (b0r.below b1 b0r.lt)
  have Ks1 := Lib.hid (b0s.below b1 b0s.lt)
  have S1 := Lib.hid hs1
  clear b0r b0s bw hs1 b1 hBe hwz HC
  go_wp2_with fail
  refine (listSt_any B g w1 S1.out (by omega)).mono ?_
  rintro e w2 ⟨L, Bq, dq, rfl, own, HL, hl, hs2, ho2⟩
  obtain ⟨wb, hwb⟩ : ∃ wb, wb = w1.heap.size := ⟨_, rfl⟩
  rw [← hwb] at own
  have hgw : g < wb := by omega
  have O2 := Lib.hid own
  have HL := Lib.hid HL
  have hlz : (L.length : Int) ≤ 30 := by omega
  clear own
  have Kr2 := Lib.hid ((Kr1.out).grown ho2 (by intro e; injection e with e; omega))
  have Ks2 := Lib.hid ((Ks1.out).grown ho2 (by intro e; injection e with e; omega))
  have N2 := Lib.hid (only_trans N1.out ho2)
  have S2 := Lib.hid hs2
  have szq2 : w1.heap.size ≤ w2.heap.size := by have := ho2.size; (try simp at this); omega
  clear ho2 hs2 S1 N1 Kr1 Ks1
  have HNEr := Lib.hid (show ∀ k, (Value.slice Bq L.length dq).ownBlock = some k → k ≠ w.heap.size from fun k hk => by have := (own_lt O2.out k hk).1; omega)
  have HNEs := Lib.hid (show ∀ k, (Value.slice Bq L.length dq).ownBlock = some k → k ≠ w.heap.size + 1 from fun k hk => by have := (own_lt O2.out k hk).1; omega)
  go_wp2_with fail
  refine (drawD_any B g w2 S2.out (by omega)).mono ?_
  rintro e w3 ⟨⟨kd, ct, un, dr, a, b⟩, rfl, ok, hs3, ho3⟩
  unfold Dsc.val
  dsimp only
  have O3 := Lib.hid (own_only O2.out ho3 hgw)
  clear O2
  have Kr3 := Lib.hid ((Kr2.out).grown ho3 (by intro e; injection e with e; omega))
  have Ks3 := Lib.hid ((Ks2.out).grown ho3 (by intro e; injection e with e; omega))
  have N3 := Lib.hid (only_trans N2.out ho3)
  have S3 := Lib.hid hs3
  have szq3 : w2.heap.size ≤ w3.heap.size := by have := ho3.size; (try simp at this); omega
  clear ho3 hs3 S2 N2 Kr2 Ks2
  go_upto_region 4 with (fail)
  generalize hW3 : w3.alloc (.cells #[.int .i64 kd, .int .i64 ct, .string un, .int .i64 dr, .string a, .string b] 25) = w4
  have Kd4 := Lib.hid (show Blk w4 w3.heap.size 25 #[.int .i64 kd, .int .i64 ct, .string un, .int .i64 dr, .string a, .string b] by rw [← hW3]; exact Blk.new _ _ _)
  have Kr4 := Lib.hid (show Blk w4 w.heap.size 25 #[.int .i64 0, .int .i64 0, .string ⟨#[]⟩, .int .i64 0, .string ⟨#[]⟩, .string ⟨#[]⟩] by rw [← hW3]; exact Kr3.out.alloc _)
  have Ks4 := Lib.hid (show Blk w4 (w.heap.size + 1) 52 #[.int .i64 0, .int .i64 0] by rw [← hW3]; exact Ks3.out.alloc _)
  have S4 := Lib.hid (show Src w4 B g by rw [← hW3]; exact S3.out.alloc _)
  have N4 := Lib.hid (show Only w w4 g by rw [← hW3]; exact only_trans N3.out (only_of_below ((Below.refl _ _).alloc (Nat.le_refl _) _)))
  have O4 := Lib.hid (show w4.ownsRow wb 81 3 (.slice Bq L.length dq) L.length (siC L) by rw [← hW3]; exact own_below O3.out ((Below.refl _ _).alloc (Nat.le_refl _) _))
  have HNEd := Lib.hid (show ∀ k, (Value.slice Bq L.length dq).ownBlock = some k → k ≠ w3.heap.size from fun k hk => by have := (own_lt O3.out k hk).2; omega)
  have szq4 : w3.heap.size + 1 ≤ w4.heap.size := Kd4.out.lt
  clear hW3 S3 N3 Kr3 Ks3 O3
  go_wp2_with fail
  refine (draw_any 41 B g w4 S4.out (by omega)).mono ?_
  rintro e w5 ⟨x, rfl, x0, x1, _, hs5, ho5⟩
  have hx := x1 (by omega)
  clear x1
  have O5 := Lib.hid (own_only O4.out ho5 hgw)
  clear O4
  have Kr5 := Lib.hid ((Kr4.out).grown ho5 (by intro e; injection e with e; omega))
  have Ks5 := Lib.hid ((Ks4.out).grown ho5 (by intro e; injection e with e; omega))
  have Kd5 := Lib.hid ((Kd4.out).grown ho5 (by intro e; injection e with e; omega))
  have N5 := Lib.hid (only_trans N4.out ho5)
  have S5 := Lib.hid hs5
  have szq5 : w4.heap.size ≤ w5.heap.size := by have := ho5.size; (try simp at this); omega
  clear ho5 hs5 S4 N4 Kr4 Ks4 Kd4
  have hx1 : IntKind.i64.wrap (x - 20) = x - 20 := IntWalk.i64_in _ (by omega)
  go_wp2_with fail
  refine (draw_any 41 B g w5 S5.out (by omega)).mono ?_
  rintro e w6 ⟨y, rfl, y0, y1, _, hs6, ho6⟩
  have hy := y1 (by omega)
  clear y1
  have O6 := Lib.hid (own_only O5.out ho6 hgw)
  clear O5
  have Kr6 := Lib.hid ((Kr5.out).grown ho6 (by intro e; injection e with e; omega))
  have Ks6 := Lib.hid ((Ks5.out).grown ho6 (by intro e; injection e with e; omega))
  have Kd6 := Lib.hid ((Kd5.out).grown ho6 (by intro e; injection e with e; omega))
  have N6 := Lib.hid (only_trans N5.out ho6)
  have S6 := Lib.hid hs6
  have szq6 : w5.heap.size ≤ w6.heap.size := by have := ho6.size; (try simp at this); omega
  clear ho6 hs6 S5 N5 Kr5 Ks5 Kd5
  have hy1 : IntKind.i64.wrap (y - 20) = y - 20 := IntWalk.i64_in _ (by omega)
  go_upto_region 5 with (fail)
  generalize hW3 : w6.alloc (.cells #[.int .i64 (x - 20), .int .i64 (y - 20)] 52) = w7
  have Kp7 := Lib.hid (show Blk w7 w6.heap.size 52 #[.int .i64 (x - 20), .int .i64 (y - 20)] by rw [← hW3]; exact Blk.new _ _ _)
  have Kr7 := Lib.hid (show Blk w7 w.heap.size 25 #[.int .i64 0, .int .i64 0, .string ⟨#[]⟩, .int .i64 0, .string ⟨#[]⟩, .string ⟨#[]⟩] by rw [← hW3]; exact Kr6.out.alloc _)
  have Ks7 := Lib.hid (show Blk w7 (w.heap.size + 1) 52 #[.int .i64 0, .int .i64 0] by rw [← hW3]; exact Ks6.out.alloc _)
  have Kd7 := Lib.hid (show Blk w7 w3.heap.size 25 #[.int .i64 kd, .int .i64 ct, .string un, .int .i64 dr, .string a, .string b] by rw [← hW3]; exact Kd6.out.alloc _)
  have S7 := Lib.hid (show Src w7 B g by rw [← hW3]; exact S6.out.alloc _)
  have N7 := Lib.hid (show Only w w7 g by rw [← hW3]; exact only_trans N6.out (only_of_below ((Below.refl _ _).alloc (Nat.le_refl _) _)))
  have O7 := Lib.hid (show w7.ownsRow wb 81 3 (.slice Bq L.length dq) L.length (siC L) by rw [← hW3]; exact own_below O6.out ((Below.refl _ _).alloc (Nat.le_refl _) _))
  have HNEp := Lib.hid (show ∀ k, (Value.slice Bq L.length dq).ownBlock = some k → k ≠ w6.heap.size from fun k hk => by have := (own_lt O6.out k hk).2; omega)
  have szq7 : w6.heap.size + 1 ≤ w7.heap.size := Kp7.out.lt
  clear hW3 S6 N6 Kr6 Ks6 Kd6 O6
  by_cases hl0 : (0 : Int) < (L.length : Int)
  · skip
    go_wp2_with fail
    refine (draw_any 3 B g w7 S7.out (by omega)).mono ?_
    rintro e w8 ⟨z, rfl, z0, z1, _, hs8, ho8⟩
    have hz := z1 (by omega)
    clear z1
    have O8 := Lib.hid (own_only O7.out ho8 hgw)
    clear O7
    have Kr8 := Lib.hid ((Kr7.out).grown ho8 (by intro e; injection e with e; omega))
    have Ks8 := Lib.hid ((Ks7.out).grown ho8 (by intro e; injection e with e; omega))
    have Kd8 := Lib.hid ((Kd7.out).grown ho8 (by intro e; injection e with e; omega))
    have Kp8 := Lib.hid ((Kp7.out).grown ho8 (by intro e; injection e with e; omega))
    have N8 := Lib.hid (only_trans N7.out ho8)
    have S8 := Lib.hid hs8
    have szq8 : w7.heap.size ≤ w8.heap.size := by have := ho8.size; (try simp at this); omega
    clear ho8 hs8 S7 N7 Kr7 Ks7 Kd7 Kp7
    by_cases hz0 : z = 0
    · subst hz0
      obtain ⟨ab, ao, hA, hadb, hcell⟩ := (Reads.of_own O8.out).2 (by omega)
      obtain ⟨e0, e1, e2⟩ := siC_get L 0 (by omega)
      have c1 := hcell _ _ e1
      have c2 := hcell _ _ e2
      simp only [Nat.zero_mul, Nat.zero_add] at c1 c2
      clear hcell e0 e1 e2
      generalize L[0] = s0 at c1 c2
      subst hA
      obtain ⟨px, hpx⟩ : ∃ px, px = s0.x := ⟨_, rfl⟩
      obtain ⟨py, hpy⟩ : ∃ py, py = s0.y := ⟨_, rfl⟩
      rw [← hpx] at c1
      rw [← hpy] at c2
      clear hpx hpy
      obtain ⟨fp0, fp1, fp2, fp3, fp4, fp5⟩ := facts_2 Kp8.out
      go_upto_region 7 with (fail)
      clear c1 c2 hadb
      clear fp0 fp1 fp2 fp3 fp4 fp5
      generalize hw : (w8.setCell ⟨w6.heap.size, 0, none⟩ (.int .i64 px)).setCell ⟨w6.heap.size, 1, none⟩ (.int .i64 py) = w9
      obtain ⟨kq, kept⟩ := stored_2 Kp8.out S8.out N8.out (by omega) (by omega) (by omega) (.int .i64 px) (.int .i64 py) w9 hw.symm
      have Kr9 := Lib.hid (kept.blk (by omega) Kr8.out)
      have Ks9 := Lib.hid (kept.blk (by omega) Ks8.out)
      have Kd9 := Lib.hid (kept.blk (by omega) Kd8.out)
      have Kp9 := Lib.hid kq
      have S9 := Lib.hid kept.src
      have N9 := Lib.hid kept.only
      have szq9 := Nat.le_of_eq kept.size.symm
      have O9 := Lib.hid (kept.own O8.out HNEp.out)
      clear O8
      clear kq kept hw S8 N8 Kr8 Ks8 Kd8 Kp8
      go_wp2_with fail
      refine (draw_any 30 B g w9 S9.out (by omega)).mono ?_
      rintro e w10 ⟨q, rfl, q0, q1, _, hs10, ho10⟩
      have hq := q1 (by omega)
      clear q1
      have O10 := Lib.hid (own_only O9.out ho10 hgw)
      clear O9
      have Kr10 := Lib.hid ((Kr9.out).grown ho10 (by intro e; injection e with e; omega))
      have Ks10 := Lib.hid ((Ks9.out).grown ho10 (by intro e; injection e with e; omega))
      have Kd10 := Lib.hid ((Kd9.out).grown ho10 (by intro e; injection e with e; omega))
      have Kp10 := Lib.hid ((Kp9.out).grown ho10 (by intro e; injection e with e; omega))
      have N10 := Lib.hid (only_trans N9.out ho10)
      have S10 := Lib.hid hs10
      have szq10 : w9.heap.size ≤ w10.heap.size := by have := ho10.size; (try simp at this); omega
      clear ho10 hs10 S9 N9 Kr9 Ks9 Kd9 Kp9
      by_cases hq0 : q = 0
      · subst hq0
        have fz := Kp10.out.frozen 0
        obtain ⟨cp0, cp1⟩ := cells_2 Kp10.out
        go_upto_region 9 with (fail)
        clear fz cp0 cp1
        generalize hw : w10.setCell ⟨w6.heap.size, 0, none⟩ (.int .i64 1001) = w11
        obtain ⟨kq, kept⟩ := cell_2_0 Kp10.out S10.out N10.out (by omega) (by omega) (by omega) (.int .i64 1001) w11 hw.symm
        have Kr11 := Lib.hid (kept.blk (by omega) Kr10.out)
        have Ks11 := Lib.hid (kept.blk (by omega) Ks10.out)
        have Kd11 := Lib.hid (kept.blk (by omega) Kd10.out)
        have Kp11 := Lib.hid kq
        have S11 := Lib.hid kept.src
        have N11 := Lib.hid kept.only
        have szq11 := Nat.le_of_eq kept.size.symm
        have O11 := Lib.hid (kept.own O10.out HNEp.out)
        clear O10
        clear kq kept hw S10 N10 Kr10 Ks10 Kd10 Kp10
        obtain ⟨d0, d1, d2, d3, d4, d5⟩ := six_cells Kd11.out
        obtain ⟨p0, p1⟩ := cells_2 Kp11.out
        obtain ⟨g0, g1, g2, g3, g4, g5, g6, g7, g8, g9, g10, g11, g12, g13, g14, g15, g16, g17⟩ := six_facts Kr11.out
        have ks := set6_far (r := w.heap.size) Ks11.out (by omega) (.int .i64 kd) (.int .i64 ct) (.string un) (.int .i64 dr) (.string a) (.string b)
        have kp := set6_far (r := w.heap.size) Kp11.out (by omega) (.int .i64 kd) (.int .i64 ct) (.string un) (.int .i64 dr) (.string a) (.string b)
        have kr := set6_blk Kr11.out (.int .i64 kd) (.int .i64 ct) (.string un) (.int .i64 dr) (.string a) (.string b)
        obtain ⟨f0, f1, f2, f3, f4, f5⟩ := facts_2 ks
        obtain ⟨m0, m1⟩ := cells_2 kp
        obtain ⟨y0, y1, y2, y3, y4, y5⟩ := six_cells (set2_far (r := w.heap.size + 1) kr (by omega) (.int .i64 1001) (.int .i64 py))
        obtain ⟨x0, x1⟩ := cells_2 (set2_blk ks (.int .i64 1001) (.int .i64 py))
        obtain ⟨kq, kept⟩ := stored_6 Kr11.out S11.out N11.out (by omega) (by omega) (by omega) (.int .i64 kd) (.int .i64 ct) (.string un) (.int .i64 dr) (.string a) (.string b) _ rfl
        have OF := kept.own O11.out HNEr.out
        obtain ⟨kq2, kept2⟩ := stored_2 ks kept.src kept.only (by omega) (by omega) (by omega) (.int .i64 1001) (.int .i64 py) _ rfl
        have OG := Lib.hid (kept2.own OF HNEs.out)
        have NG := Lib.hid kept2.only
        clear kq kept kq2 kept2 OF ks kp kr
        go_region
        all_goals
          go_wp2_with fail
          exact bodyPost_ret (v := .tuple #[.slice (some ⟨ab, ao, none⟩) L.length dq, .agg #[.int .i64 kd, .int .i64 ct, .string un, .int .i64 dr, .string a, .string b], .agg #[.int .i64 1001, .int .i64 py]]) (by simp [results, Tryd.results33, go_sem, y0, y1, y2, y3, y4, y5, x0, x1]) rfl ⟨L, ⟨kd, ct, un, dr, a, b⟩, 1001, py, (some ⟨ab, ao, none⟩), dq, rfl, own_mono (own_below OG.out (Below.refl _ _).drew) (by omega), HL.out, by omega, ok, (only_below NG.out (by omega) (Nat.le_refl _)).drew⟩
      · have hq1 : (q == 0) = false := by simpa using hq0
        go_upto_region 9 with (fail)
        obtain ⟨d0, d1, d2, d3, d4, d5⟩ := six_cells Kd10.out
        obtain ⟨p0, p1⟩ := cells_2 Kp10.out
        obtain ⟨g0, g1, g2, g3, g4, g5, g6, g7, g8, g9, g10, g11, g12, g13, g14, g15, g16, g17⟩ := six_facts Kr10.out
        have ks := set6_far (r := w.heap.size) Ks10.out (by omega) (.int .i64 kd) (.int .i64 ct) (.string un) (.int .i64 dr) (.string a) (.string b)
        have kp := set6_far (r := w.heap.size) Kp10.out (by omega) (.int .i64 kd) (.int .i64 ct) (.string un) (.int .i64 dr) (.string a) (.string b)
        have kr := set6_blk Kr10.out (.int .i64 kd) (.int .i64 ct) (.string un) (.int .i64 dr) (.string a) (.string b)
        obtain ⟨f0, f1, f2, f3, f4, f5⟩ := facts_2 ks
        obtain ⟨m0, m1⟩ := cells_2 kp
        obtain ⟨y0, y1, y2, y3, y4, y5⟩ := six_cells (set2_far (r := w.heap.size + 1) kr (by omega) (.int .i64 px) (.int .i64 py))
        obtain ⟨x0, x1⟩ := cells_2 (set2_blk ks (.int .i64 px) (.int .i64 py))
        obtain ⟨kq, kept⟩ := stored_6 Kr10.out S10.out N10.out (by omega) (by omega) (by omega) (.int .i64 kd) (.int .i64 ct) (.string un) (.int .i64 dr) (.string a) (.string b) _ rfl
        have OF := kept.own O10.out HNEr.out
        obtain ⟨kq2, kept2⟩ := stored_2 ks kept.src kept.only (by omega) (by omega) (by omega) (.int .i64 px) (.int .i64 py) _ rfl
        have OG := Lib.hid (kept2.own OF HNEs.out)
        have NG := Lib.hid kept2.only
        clear kq kept kq2 kept2 OF ks kp kr
        go_region
        all_goals
          go_wp2_with fail
          exact bodyPost_ret (v := .tuple #[.slice (some ⟨ab, ao, none⟩) L.length dq, .agg #[.int .i64 kd, .int .i64 ct, .string un, .int .i64 dr, .string a, .string b], .agg #[.int .i64 px, .int .i64 py]]) (by simp [results, Tryd.results33, go_sem, y0, y1, y2, y3, y4, y5, x0, x1]) rfl ⟨L, ⟨kd, ct, un, dr, a, b⟩, px, py, (some ⟨ab, ao, none⟩), dq, rfl, own_mono (own_below OG.out (Below.refl _ _).drew) (by omega), HL.out, by omega, ok, (only_below NG.out (by omega) (Nat.le_refl _)).drew⟩
    · have hz1 : (z == 0) = false := by simpa using hz0
      go_wp2_with fail
      refine (draw_any 30 B g w8 S8.out (by omega)).mono ?_
      rintro e w9 ⟨q, rfl, q0, q1, _, hs9, ho9⟩
      have hq := q1 (by omega)
      clear q1
      have O9 := Lib.hid (own_only O8.out ho9 hgw)
      clear O8
      have Kr9 := Lib.hid ((Kr8.out).grown ho9 (by intro e; injection e with e; omega))
      have Ks9 := Lib.hid ((Ks8.out).grown ho9 (by intro e; injection e with e; omega))
      have Kd9 := Lib.hid ((Kd8.out).grown ho9 (by intro e; injection e with e; omega))
      have Kp9 := Lib.hid ((Kp8.out).grown ho9 (by intro e; injection e with e; omega))
      have N9 := Lib.hid (only_trans N8.out ho9)
      have S9 := Lib.hid hs9
      have szq9 : w8.heap.size ≤ w9.heap.size := by have := ho9.size; (try simp at this); omega
      clear ho9 hs9 S8 N8 Kr8 Ks8 Kd8 Kp8
      by_cases hq0 : q = 0
      · subst hq0
        have fz := Kp9.out.frozen 0
        obtain ⟨cp0, cp1⟩ := cells_2 Kp9.out
        go_upto_region 9 with (fail)
        clear fz cp0 cp1
        generalize hw : w9.setCell ⟨w6.heap.size, 0, none⟩ (.int .i64 1001) = w10
        obtain ⟨kq, kept⟩ := cell_2_0 Kp9.out S9.out N9.out (by omega) (by omega) (by omega) (.int .i64 1001) w10 hw.symm
        have Kr10 := Lib.hid (kept.blk (by omega) Kr9.out)
        have Ks10 := Lib.hid (kept.blk (by omega) Ks9.out)
        have Kd10 := Lib.hid (kept.blk (by omega) Kd9.out)
        have Kp10 := Lib.hid kq
        have S10 := Lib.hid kept.src
        have N10 := Lib.hid kept.only
        have szq10 := Nat.le_of_eq kept.size.symm
        have O10 := Lib.hid (kept.own O9.out HNEp.out)
        clear O9
        clear kq kept hw S9 N9 Kr9 Ks9 Kd9 Kp9
        obtain ⟨d0, d1, d2, d3, d4, d5⟩ := six_cells Kd10.out
        obtain ⟨p0, p1⟩ := cells_2 Kp10.out
        obtain ⟨g0, g1, g2, g3, g4, g5, g6, g7, g8, g9, g10, g11, g12, g13, g14, g15, g16, g17⟩ := six_facts Kr10.out
        have ks := set6_far (r := w.heap.size) Ks10.out (by omega) (.int .i64 kd) (.int .i64 ct) (.string un) (.int .i64 dr) (.string a) (.string b)
        have kp := set6_far (r := w.heap.size) Kp10.out (by omega) (.int .i64 kd) (.int .i64 ct) (.string un) (.int .i64 dr) (.string a) (.string b)
        have kr := set6_blk Kr10.out (.int .i64 kd) (.int .i64 ct) (.string un) (.int .i64 dr) (.string a) (.string b)
        obtain ⟨f0, f1, f2, f3, f4, f5⟩ := facts_2 ks
        obtain ⟨m0, m1⟩ := cells_2 kp
        obtain ⟨y0, y1, y2, y3, y4, y5⟩ := six_cells (set2_far (r := w.heap.size + 1) kr (by omega) (.int .i64 1001) (.int .i64 (y - 20)))
        obtain ⟨x0, x1⟩ := cells_2 (set2_blk ks (.int .i64 1001) (.int .i64 (y - 20)))
        obtain ⟨kq, kept⟩ := stored_6 Kr10.out S10.out N10.out (by omega) (by omega) (by omega) (.int .i64 kd) (.int .i64 ct) (.string un) (.int .i64 dr) (.string a) (.string b) _ rfl
        have OF := kept.own O10.out HNEr.out
        obtain ⟨kq2, kept2⟩ := stored_2 ks kept.src kept.only (by omega) (by omega) (by omega) (.int .i64 1001) (.int .i64 (y - 20)) _ rfl
        have OG := Lib.hid (kept2.own OF HNEs.out)
        have NG := Lib.hid kept2.only
        clear kq kept kq2 kept2 OF ks kp kr
        go_region
        all_goals
          go_wp2_with fail
          exact bodyPost_ret (v := .tuple #[.slice Bq L.length dq, .agg #[.int .i64 kd, .int .i64 ct, .string un, .int .i64 dr, .string a, .string b], .agg #[.int .i64 1001, .int .i64 (y - 20)]]) (by simp [results, Tryd.results33, go_sem, y0, y1, y2, y3, y4, y5, x0, x1]) rfl ⟨L, ⟨kd, ct, un, dr, a, b⟩, 1001, (y - 20), Bq, dq, rfl, own_mono (own_below OG.out (Below.refl _ _).drew) (by omega), HL.out, by omega, ok, (only_below NG.out (by omega) (Nat.le_refl _)).drew⟩
      · have hq1 : (q == 0) = false := by simpa using hq0
        go_upto_region 9 with (fail)
        obtain ⟨d0, d1, d2, d3, d4, d5⟩ := six_cells Kd9.out
        obtain ⟨p0, p1⟩ := cells_2 Kp9.out
        obtain ⟨g0, g1, g2, g3, g4, g5, g6, g7, g8, g9, g10, g11, g12, g13, g14, g15, g16, g17⟩ := six_facts Kr9.out
        have ks := set6_far (r := w.heap.size) Ks9.out (by omega) (.int .i64 kd) (.int .i64 ct) (.string un) (.int .i64 dr) (.string a) (.string b)
        have kp := set6_far (r := w.heap.size) Kp9.out (by omega) (.int .i64 kd) (.int .i64 ct) (.string un) (.int .i64 dr) (.string a) (.string b)
        have kr := set6_blk Kr9.out (.int .i64 kd) (.int .i64 ct) (.string un) (.int .i64 dr) (.string a) (.string b)
        obtain ⟨f0, f1, f2, f3, f4, f5⟩ := facts_2 ks
        obtain ⟨m0, m1⟩ := cells_2 kp
        obtain ⟨y0, y1, y2, y3, y4, y5⟩ := six_cells (set2_far (r := w.heap.size + 1) kr (by omega) (.int .i64 (x - 20)) (.int .i64 (y - 20)))
        obtain ⟨x0, x1⟩ := cells_2 (set2_blk ks (.int .i64 (x - 20)) (.int .i64 (y - 20)))
        obtain ⟨kq, kept⟩ := stored_6 Kr9.out S9.out N9.out (by omega) (by omega) (by omega) (.int .i64 kd) (.int .i64 ct) (.string un) (.int .i64 dr) (.string a) (.string b) _ rfl
        have OF := kept.own O9.out HNEr.out
        obtain ⟨kq2, kept2⟩ := stored_2 ks kept.src kept.only (by omega) (by omega) (by omega) (.int .i64 (x - 20)) (.int .i64 (y - 20)) _ rfl
        have OG := Lib.hid (kept2.own OF HNEs.out)
        have NG := Lib.hid kept2.only
        clear kq kept kq2 kept2 OF ks kp kr
        go_region
        all_goals
          go_wp2_with fail
          exact bodyPost_ret (v := .tuple #[.slice Bq L.length dq, .agg #[.int .i64 kd, .int .i64 ct, .string un, .int .i64 dr, .string a, .string b], .agg #[.int .i64 (x - 20), .int .i64 (y - 20)]]) (by simp [results, Tryd.results33, go_sem, y0, y1, y2, y3, y4, y5, x0, x1]) rfl ⟨L, ⟨kd, ct, un, dr, a, b⟩, (x - 20), (y - 20), Bq, dq, rfl, own_mono (own_below OG.out (Below.refl _ _).drew) (by omega), HL.out, by omega, ok, (only_below NG.out (by omega) (Nat.le_refl _)).drew⟩
  · skip
    go_wp2_with fail
    refine (draw_any 30 B g w7 S7.out (by omega)).mono ?_
    rintro e w8 ⟨q, rfl, q0, q1, _, hs8, ho8⟩
    have hq := q1 (by omega)
    clear q1
    have O8 := Lib.hid (own_only O7.out ho8 hgw)
    clear O7
    have Kr8 := Lib.hid ((Kr7.out).grown ho8 (by intro e; injection e with e; omega))
    have Ks8 := Lib.hid ((Ks7.out).grown ho8 (by intro e; injection e with e; omega))
    have Kd8 := Lib.hid ((Kd7.out).grown ho8 (by intro e; injection e with e; omega))
    have Kp8 := Lib.hid ((Kp7.out).grown ho8 (by intro e; injection e with e; omega))
    have N8 := Lib.hid (only_trans N7.out ho8)
    have S8 := Lib.hid hs8
    have szq8 : w7.heap.size ≤ w8.heap.size := by have := ho8.size; (try simp at this); omega
    clear ho8 hs8 S7 N7 Kr7 Ks7 Kd7 Kp7
    by_cases hq0 : q = 0
    · subst hq0
      have fz := Kp8.out.frozen 0
      obtain ⟨cp0, cp1⟩ := cells_2 Kp8.out
      go_upto_region 9 with (fail)
      clear fz cp0 cp1
      generalize hw : w8.setCell ⟨w6.heap.size, 0, none⟩ (.int .i64 1001) = w9
      obtain ⟨kq, kept⟩ := cell_2_0 Kp8.out S8.out N8.out (by omega) (by omega) (by omega) (.int .i64 1001) w9 hw.symm
      have Kr9 := Lib.hid (kept.blk (by omega) Kr8.out)
      have Ks9 := Lib.hid (kept.blk (by omega) Ks8.out)
      have Kd9 := Lib.hid (kept.blk (by omega) Kd8.out)
      have Kp9 := Lib.hid kq
      have S9 := Lib.hid kept.src
      have N9 := Lib.hid kept.only
      have szq9 := Nat.le_of_eq kept.size.symm
      have O9 := Lib.hid (kept.own O8.out HNEp.out)
      clear O8
      clear kq kept hw S8 N8 Kr8 Ks8 Kd8 Kp8
      obtain ⟨d0, d1, d2, d3, d4, d5⟩ := six_cells Kd9.out
      obtain ⟨p0, p1⟩ := cells_2 Kp9.out
      obtain ⟨g0, g1, g2, g3, g4, g5, g6, g7, g8, g9, g10, g11, g12, g13, g14, g15, g16, g17⟩ := six_facts Kr9.out
      have ks := set6_far (r := w.heap.size) Ks9.out (by omega) (.int .i64 kd) (.int .i64 ct) (.string un) (.int .i64 dr) (.string a) (.string b)
      have kp := set6_far (r := w.heap.size) Kp9.out (by omega) (.int .i64 kd) (.int .i64 ct) (.string un) (.int .i64 dr) (.string a) (.string b)
      have kr := set6_blk Kr9.out (.int .i64 kd) (.int .i64 ct) (.string un) (.int .i64 dr) (.string a) (.string b)
      obtain ⟨f0, f1, f2, f3, f4, f5⟩ := facts_2 ks
      obtain ⟨m0, m1⟩ := cells_2 kp
      obtain ⟨y0, y1, y2, y3, y4, y5⟩ := six_cells (set2_far (r := w.heap.size + 1) kr (by omega) (.int .i64 1001) (.int .i64 (y - 20)))
      obtain ⟨x0, x1⟩ := cells_2 (set2_blk ks (.int .i64 1001) (.int .i64 (y - 20)))
      obtain ⟨kq, kept⟩ := stored_6 Kr9.out S9.out N9.out (by omega) (by omega) (by omega) (.int .i64 kd) (.int .i64 ct) (.string un) (.int .i64 dr) (.string a) (.string b) _ rfl
      have OF := kept.own O9.out HNEr.out
      obtain ⟨kq2, kept2⟩ := stored_2 ks kept.src kept.only (by omega) (by omega) (by omega) (.int .i64 1001) (.int .i64 (y - 20)) _ rfl
      have OG := Lib.hid (kept2.own OF HNEs.out)
      have NG := Lib.hid kept2.only
      clear kq kept kq2 kept2 OF ks kp kr
      go_region
      all_goals
        go_wp2_with fail
        exact bodyPost_ret (v := .tuple #[.slice Bq L.length dq, .agg #[.int .i64 kd, .int .i64 ct, .string un, .int .i64 dr, .string a, .string b], .agg #[.int .i64 1001, .int .i64 (y - 20)]]) (by simp [results, Tryd.results33, go_sem, y0, y1, y2, y3, y4, y5, x0, x1]) rfl ⟨L, ⟨kd, ct, un, dr, a, b⟩, 1001, (y - 20), Bq, dq, rfl, own_mono (own_below OG.out (Below.refl _ _).drew) (by omega), HL.out, by omega, ok, (only_below NG.out (by omega) (Nat.le_refl _)).drew⟩
    · have hq1 : (q == 0) = false := by simpa using hq0
      go_upto_region 9 with (fail)
      obtain ⟨d0, d1, d2, d3, d4, d5⟩ := six_cells Kd8.out
      obtain ⟨p0, p1⟩ := cells_2 Kp8.out
      obtain ⟨g0, g1, g2, g3, g4, g5, g6, g7, g8, g9, g10, g11, g12, g13, g14, g15, g16, g17⟩ := six_facts Kr8.out
      have ks := set6_far (r := w.heap.size) Ks8.out (by omega) (.int .i64 kd) (.int .i64 ct) (.string un) (.int .i64 dr) (.string a) (.string b)
      have kp := set6_far (r := w.heap.size) Kp8.out (by omega) (.int .i64 kd) (.int .i64 ct) (.string un) (.int .i64 dr) (.string a) (.string b)
      have kr := set6_blk Kr8.out (.int .i64 kd) (.int .i64 ct) (.string un) (.int .i64 dr) (.string a) (.string b)
      obtain ⟨f0, f1, f2, f3, f4, f5⟩ := facts_2 ks
      obtain ⟨m0, m1⟩ := cells_2 kp
      obtain ⟨y0, y1, y2, y3, y4, y5⟩ := six_cells (set2_far (r := w.heap.size + 1) kr (by omega) (.int .i64 (x - 20)) (.int .i64 (y - 20)))
      obtain ⟨x0, x1⟩ := cells_2 (set2_blk ks (.int .i64 (x - 20)) (.int .i64 (y - 20)))
      obtain ⟨kq, kept⟩ := stored_6 Kr8.out S8.out N8.out (by omega) (by omega) (by omega) (.int .i64 kd) (.int .i64 ct) (.string un) (.int .i64 dr) (.string a) (.string b) _ rfl
      have OF := kept.own O8.out HNEr.out
      obtain ⟨kq2, kept2⟩ := stored_2 ks kept.src kept.only (by omega) (by omega) (by omega) (.int .i64 (x - 20)) (.int .i64 (y - 20)) _ rfl
      have OG := Lib.hid (kept2.own OF HNEs.out)
      have NG := Lib.hid kept2.only
      clear kq kept kq2 kept2 OF ks kp kr
      go_region
      all_goals
        go_wp2_with fail
        exact bodyPost_ret (v := .tuple #[.slice Bq L.length dq, .agg #[.int .i64 kd, .int .i64 ct, .string un, .int .i64 dr, .string a, .string b], .agg #[.int .i64 (x - 20), .int .i64 (y - 20)]]) (by simp [results, Tryd.results33, go_sem, y0, y1, y2, y3, y4, y5, x0, x1]) rfl ⟨L, ⟨kd, ct, un, dr, a, b⟩, (x - 20), (y - 20), Bq, dq, rfl, own_mono (own_below OG.out (Below.refl _ _).drew) (by omega), HL.out, by omega, ok, (only_below NG.out (by omega) (Nat.le_refl _)).drew⟩
end Go.Proofs.YtnbpbidflacoiaaDoor
