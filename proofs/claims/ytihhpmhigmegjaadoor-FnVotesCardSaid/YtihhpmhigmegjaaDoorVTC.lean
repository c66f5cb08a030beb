/- DrawIsCarried, DrawLeastChanges, DrawHasQuorum, DrawCastBallot of the reference. -/
import Derived.Test.YtihhpmhigmegjaaDoorRows
import Derived.Test.YtihhpmhigmegjaaDoorL0
import Derived.Test.YtihhpmhigmegjaaDoorM0
import Derived.WalkKit
import Derived.ProofKit
import Derived.OpenShut
import Derived.BigQuiet
import Derived.Outline
import Derived.WalkSpells
import Derived.WalkLawsBesides
import Derived.Deep.DeepCutAuto
import Derived.Test.YtihhpmhigmegjaaDoorVTB
import Derived.Test.YtihhpmhigmegjaaDoorSC
namespace Go.Proofs.YtihhpmhigmegjaaDoor
open Go.ChangeShapes Go.WideShapes Go.ChangeAt Go.RowKit

/-- Drawn ballots and a number. -/
def DrawnBR (w : World) (e : Ending) (w' : World) : Prop := ∃ (L : List Bal) (r : Int) (Bq : Option Addr) (dq : Nat), e = .returned (.tuple #[.slice Bq L.length dq, .int .i64 r]) ∧ w'.ownsRow w.heap.size 32 3 (.slice Bq L.length dq) L.length (baC L) ∧ (∀ s ∈ L, SmallB s) ∧ L.length ≤ 30 ∧ Below w.heap.size w w'
set_option maxRecDepth 100000 in
set_option maxHeartbeats 1000000 in
theorem drawCar_any (A : Option Addr) (n c : Nat) (w : World) (h : Code8 w A n) :
    Calls Tryd.prog 6 #[.slice A n c] w (DrawnBR w) := by
  have HC := Lib.hid h; clear h
  go_enter Tryd.func6, Tryd.ntmps6
  go_wp2_with fail
  refine (from_code A n c w HC.out).mono ?_
  rintro e w1 ⟨g, rfl, hs1, b1⟩
  have hgb := hs1.base
  have hgl := hs1.lt
  obtain ⟨B, hBe⟩ : ∃ B, B = w.heap.size := ⟨_, rfl⟩
  rw [← hBe] at hs1
  have hB1 : w.heap.size ≤ B := by omega
  have hB2 : B ≤ w1.heap.size := by rw [hBe]; exact b1.size
  have hgw : w.heap.size ≤ g := by omega
  have N1 := Lib.hid (only_of_below b1 : Only w w1 g)
  have S1 := Lib.hid hs1
  clear hs1 b1 hBe HC
  go_wp2_with fail
  refine (listB_any B g w1 S1.out hB2).mono ?_
  rintro e w2 ⟨L, Bq, dq, rfl, own, hsm, hln, hs2, ho2⟩
  have O2 := Lib.hid own
  have HL := Lib.hid hsm
  clear own hsm
  have N2 := Lib.hid (only_trans N1.out ho2)
  have S2 := Lib.hid hs2
  have szq2 : w1.heap.size ≤ w2.heap.size := by have := ho2.size; (try simp at this); omega
  clear ho2 hs2 S1 N1
  go_wp2_with fail
  refine (pick_any [0, 1, 2, 0, 1, 2, 3, -1] w2.heap.size 8 B g (w2.alloc (.cells #[.int .i64 0, .int .i64 1, .int .i64 2, .int .i64 0, .int .i64 1, .int .i64 2, .int .i64 3, .int .i64 (-1)] 2)) (S2.out.alloc _) (by simp; omega) (by simp) (by simp) (Blk.new _ _ _) (by omega)).mono ?_
  rintro e w3 ⟨r, rfl, hr, hs3, ho3⟩
  clear hr
  have O3 := Lib.hid (own_only (O2.out.alloc _) ho3 (by omega))
  clear O2
  have N3 := Lib.hid (only_trans (only_trans N2.out (only_of_below ((Below.refl _ _).alloc (Nat.le_refl _) _))) ho3)
  have S3 := Lib.hid hs3
  have szq3 : w2.heap.size + 1 ≤ w3.heap.size := by have := ho3.size; (try simp at this); omega
  clear ho3 hs3 S2 N2
  go_wp2_with fail
  go_ret2
  exact ⟨L, r, Bq, dq, rfl, own_mono O3.out (by omega), HL.out, hln, only_below N3.out hgw (Nat.le_refl _)⟩
set_option maxRecDepth 100000 in
theorem drawLea_any (A : Option Addr) (n c : Nat) (w : World) (h : Code8 w A n) :
    Calls Tryd.prog 19 #[.slice A n c] w (DrawnBR w) := by
  have HC := Lib.hid h; clear h
  go_enter Tryd.func19, Tryd.ntmps19
  go_wp2_with fail
  refine (drawCar_any A n c w HC.out).mono ?_
  rintro e w3 ⟨L, r, Bq, dq, rfl, own, hsm, hln, b1⟩
  have O3 := Lib.hid own
  have B3 := Lib.hid b1
  have HL := Lib.hid hsm
  clear own hsm b1
  go_wp2_with fail
  go_ret2
  exact ⟨L, r, Bq, dq, rfl, O3.out, HL.out, hln, B3.out⟩
/-- Drawn ballots and two numbers. -/
def DrawnBQ (w : World) (e : Ending) (w' : World) : Prop := ∃ (L : List Bal) (r s : Int) (Bq : Option Addr) (dq : Nat), e = .returned (.tuple #[.slice Bq L.length dq, .int .i64 r, .int .i64 s]) ∧ w'.ownsRow w.heap.size 32 3 (.slice Bq L.length dq) L.length (baC L) ∧ (∀ s ∈ L, SmallB s) ∧ L.length ≤ 30 ∧ Below w.heap.size w w'
set_option maxRecDepth 100000 in
set_option maxHeartbeats 1000000 in
theorem drawQuo_any (A : Option Addr) (n c : Nat) (w : World) (h : Code8 w A n) :
    Calls Tryd.prog 14 #[.slice A n c] w (DrawnBQ w) := by
  have HC := Lib.hid h; clear h
  go_enter Tryd.func14, Tryd.ntmps14
  go_wp2_with fail
  refine (from_code A n c w HC.out).mono ?_
  rintro e w1 ⟨g, rfl, hs1, b1⟩
  have hgb := hs1.base
  have hgl := hs1.lt
  obtain ⟨B, hBe⟩ : ∃ B, B = w.heap.size := ⟨_, rfl⟩
  rw [← hBe] at hs1
  have hB1 : w.heap.size ≤ B := by omega
  have hB2 : B ≤ w1.heap.size := by rw [hBe]; exact b1.size
  have hgw : w.heap.size ≤ g := by omega
  have N1 := Lib.hid (only_of_below b1 : Only w w1 g)
  have S1 := Lib.hid hs1
  clear hs1 b1 hBe HC
  go_wp2_with fail
  refine (listB_any B g w1 S1.out hB2).mono ?_
  rintro e w2 ⟨L, Bq, dq, rfl, own, hsm, hln, hs2, ho2⟩
  have O2 := Lib.hid own
  have HL := Lib.hid hsm
  clear own hsm
  have N2 := Lib.hid (only_trans N1.out ho2)
  have S2 := Lib.hid hs2
  have szq2 : w1.heap.size ≤ w2.heap.size := by have := ho2.size; (try simp at this); omega
  clear ho2 hs2 S1 N1
  go_wp2_with fail
  refine (draw_any 40 B g w2 S2.out (by omega)).mono ?_
  rintro e w3 ⟨x, rfl, x0, x1, _, hs3, ho3⟩
  have hx := x1 (by omega)
  clear x1
  have O3 := Lib.hid (own_only O2.out ho3 (by omega))
  clear O2
  have N3 := Lib.hid (only_trans N2.out ho3)
  have S3 := Lib.hid hs3
  have szq3 : w2.heap.size ≤ w3.heap.size := by have := ho3.size; (try simp at this); omega
  clear ho3 hs3 S2 N2
  go_wp2_with fail
  refine (draw_any 40 B g w3 S3.out (by omega)).mono ?_
  rintro e w4 ⟨y, rfl, y0, y1, _, hs4, ho4⟩
  have hy := y1 (by omega)
  clear y1
  have O4 := Lib.hid (own_only O3.out ho4 (by omega))
  clear O3
  have N4 := Lib.hid (only_trans N3.out ho4)
  have S4 := Lib.hid hs4
  have szq4 : w3.heap.size ≤ w4.heap.size := by have := ho4.size; (try simp at this); omega
  clear ho4 hs4 S3 N3
  go_wp2_with fail
  refine (pick_any [x, y, 1000, 1001, 0, -1] w4.heap.size 6 B g (w4.alloc (.cells #[.int .i64 x, .int .i64 y, .int .i64 1000, .int .i64 1001, .int .i64 0, .int .i64 (-1)] 2)) (S4.out.alloc _) (by simp; omega) (by simp) (by simp) (Blk.new _ _ _) (by omega)).mono ?_
  rintro e w5 ⟨r, rfl, hr, hs5, ho5⟩
  clear hr
  have O5 := Lib.hid (own_only (O4.out.alloc _) ho5 (by omega))
  clear O4
  have N5 := Lib.hid (only_trans (only_trans N4.out (only_of_below ((Below.refl _ _).alloc (Nat.le_refl _) _))) ho5)
  have S5 := Lib.hid hs5
  have szq5 : w4.heap.size + 1 ≤ w5.heap.size := by have := ho5.size; (try simp at this); omega
  clear ho5 hs5 S4 N4
  go_wp2_with fail
  refine (draw_any 101 B g w5 S5.out (by omega)).mono ?_
  rintro e w6 ⟨z, rfl, z0, z1, _, hs6, ho6⟩
  have hz := z1 (by omega)
  clear z1
  have O6 := Lib.hid (own_only O5.out ho6 (by omega))
  clear O5
  have N6 := Lib.hid (only_trans N5.out ho6)
  have S6 := Lib.hid hs6
  have szq6 : w5.heap.size ≤ w6.heap.size := by have := ho6.size; (try simp at this); omega
  clear ho6 hs6 S5 N5
  go_wp2_with fail
  refine (pick_any [50, 100, 0, 101, z] w6.heap.size 5 B g (w6.alloc (.cells #[.int .i64 50, .int .i64 100, .int .i64 0, .int .i64 101, .int .i64 z] 2)) (S6.out.alloc _) (by simp; omega) (by simp) (by simp) (Blk.new _ _ _) (by omega)).mono ?_
  rintro e w7 ⟨s, rfl, hs, hs7, ho7⟩
  clear hs
  have O7 := Lib.hid (own_only (O6.out.alloc _) ho7 (by omega))
  clear O6
  have N7 := Lib.hid (only_trans (only_trans N6.out (only_of_below ((Below.refl _ _).alloc (Nat.le_refl _) _))) ho7)
  have S7 := Lib.hid hs7
  have szq7 : w6.heap.size + 1 ≤ w7.heap.size := by have := ho7.size; (try simp at this); omega
  clear ho7 hs7 S6 N6
  go_wp2_with fail
  exact bodyPost_ret (v := .tuple #[.slice Bq L.length dq, .int .i64 r, .int .i64 s]) (by simp [results, Tryd.results14, go_sem]) rfl ⟨L, r, s, Bq, dq, rfl, own_mono O7.out (by omega), HL.out, hln, only_below N7.out hgw (Nat.le_refl _)⟩
theorem own_farB {w : World} {base : Nat} {e : TypeId} {size n : Nat} {v : Value} {xs : List Value} (h : w.ownsRow base e size v n xs) (r i : Nat) (u : Value) (hr : r < base) : (w.setCell ⟨r, i, none⟩ u).ownsRow base e size v n xs :=
  own_only h (only_set (only_refl w r) i u) hr
theorem below_chainB {a w : World} (h : Below a.heap.size a w) (r : Nat) (hr : a.heap.size ≤ r) (v0 v1 v2 : Value) : Below a.heap.size a (((w.setCell ⟨r, 0, none⟩ v0).setCell ⟨r, 1, none⟩ v1).setCell ⟨r, 2, none⟩ v2) :=
  ((h.setCell (p := ⟨r, 0, none⟩) hr v0).setCell (p := ⟨r, 1, none⟩) hr v1).setCell (p := ⟨r, 2, none⟩) hr v2
/-- Drawn ballots and a ballot. -/
def DrawnBB (w : World) (e : Ending) (w' : World) : Prop := ∃ (L : List Bal) (b : Bal) (Bq : Option Addr) (dq : Nat), e = .returned (.tuple #[.slice Bq L.length dq, b.val]) ∧ w'.ownsRow w.heap.size 32 3 (.slice Bq L.length dq) L.length (baC L) ∧ (∀ s ∈ L, SmallB s) ∧ L.length ≤ 30 ∧ SmallB b ∧ Below w.heap.size w w'
set_option maxRecDepth 100000 in
set_option maxHeartbeats 1000000 in
theorem drawCas_any (A : Option Addr) (n c : Nat) (w : World) (h : Code8 w A n) :
    Calls Tryd.prog 11 #[.slice A n c] w (DrawnBB w) := by
  have HC := Lib.hid h; clear h
  have KN := Lib.hid (blks_one w 32 #[.string ⟨#[]⟩, .int .i64 0, .int .i64 0])
  go_enter Tryd.func11, Tryd.ntmps11
  go_wp2_with fail
  generalize hW : w.alloc (.cells #[.string ⟨#[]⟩, .int .i64 0, .int .i64 0] 32) = W
  obtain ⟨b0, bw, hwz⟩ := KN.out W hW.symm
  have hwz := Nat.le_of_eq hwz.symm
  clear hW KN
  refine (from_code A n c W (HC.out.below bw)).mono ?_
  rintro e w1 ⟨g, rfl, hs1, b1⟩
  have hgb := hs1.base
  have hgl := hs1.lt
  obtain ⟨B, hBe⟩ : ∃ B, B = W.heap.size := ⟨_, rfl⟩
  rw [← hBe] at hs1
  have hB1 : w.heap.size + 1 ≤ B := by omega
  have hB2 : B ≤ w1.heap.size := by rw [hBe]; exact b1.size
  have hgw : w.heap.size + 1 ≤ g := by omega
  have N1 := Lib.hid (only_of_below (bw.trans (b1.mono bw.size)) : Only w w1 g)
  have Kr1 := Lib.hid (b0.below b1 b0.lt)
  have S1 := Lib.hid hs1
  clear hs1 b1 hBe HC b0 bw
  go_wp2_with fail
  refine (listB_any B g w1 S1.out hB2).mono ?_
  rintro e w2 ⟨L, Bq, dq, rfl, own, hsm, hln, hs2, ho2⟩
  have O2 := Lib.hid own
  have HL := Lib.hid hsm
  clear own hsm
  have Kr2 := Lib.hid ((Kr1.out).grown ho2 (by intro e; injection e with e; omega))
  have N2 := Lib.hid (only_trans N1.out ho2)
  have S2 := Lib.hid hs2
  have szq2 : w1.heap.size ≤ w2.heap.size := by have := ho2.size; (try simp at this); omega
  clear ho2 hs2 S1 N1 Kr1
  go_wp2_with fail
  refine (ballot_any B g w2 S2.out (by omega)).mono ?_
  rintro e w3 ⟨⟨nm, ct, wt⟩, rfl, hsb, hs3, ho3⟩
  have O3 := Lib.hid (own_only O2.out ho3 (by omega))
  clear O2
  unfold Bal.val
  dsimp only
  have Kr3 := Lib.hid ((Kr2.out).grown ho3 (by intro e; injection e with e; omega))
  have N3 := Lib.hid (only_trans N2.out ho3)
  have S3 := Lib.hid hs3
  have szq3 : w2.heap.size ≤ w3.heap.size := by have := ho3.size; (try simp at this); omega
  clear ho3 hs3 S2 N2 Kr2
  obtain ⟨fr0, fr1, fr2, fr3, fr4, fr5, fr6, fr7, fr8⟩ := facts_3 Kr3.out
  go_wp2_with fail
  exact bodyPost_ret (v := .tuple #[.slice Bq L.length dq, .agg #[.string nm, .int .i64 ct, .int .i64 wt]]) (by simp [results, Tryd.results11, go_sem, fr6, fr7, fr8]) rfl ⟨L, ⟨nm, ct, wt⟩, Bq, dq, rfl, own_mono (own_farB (own_farB (own_farB O3.out _ _ _ (by omega)) _ _ _ (by omega)) _ _ _ (by omega)) (by omega), HL.out, hln, hsb, below_chainB (only_below N3.out (by omega) (Nat.le_refl _)) _ (Nat.le_refl _) _ _ _⟩
end Go.Proofs.YtihhpmhigmegjaaDoor
