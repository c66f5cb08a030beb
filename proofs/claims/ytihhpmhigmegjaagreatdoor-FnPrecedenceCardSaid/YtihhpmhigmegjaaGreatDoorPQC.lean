/- DrawClearedEntries, DrawComparePrecedence of the reference. -/
import Derived.Test.YtihhpmhigmegjaaGreatDoorRows
import Derived.Test.YtihhpmhigmegjaaGreatDoorL0
import Derived.Test.YtihhpmhigmegjaaGreatDoorM0
import Derived.WalkKit
import Derived.ProofKit
import Derived.OpenShut
import Derived.BigQuiet
import Derived.Outline
import Derived.WalkSpells
import Derived.WalkLawsBesides
import Derived.Deep.DeepCutAuto
import Derived.Test.YtihhpmhigmegjaaGreatDoorPQH
namespace Go.Proofs.YtihhpmhigmegjaaGreatDoor
open Go.ChangeShapes Go.WideShapes Go.ChangeAt Go.RowKit

/-- Drawn entries and a number. -/
def DrawnClr (w : World) (e : Ending) (w' : World) : Prop := ∃ (L : List Ent) (d : Int) (Bq : Option Addr) (dq : Nat), e = .returned (.tuple #[.slice Bq L.length dq, .int .i64 d]) ∧ w'.ownsRow w.heap.size 45 4 (.slice Bq L.length dq) L.length (enC L) ∧ (∀ s ∈ L, SmallE s) ∧ L.length ≤ 20 ∧ Below w.heap.size w w'
set_option maxRecDepth 100000 in
theorem drawClr_any (A : Option Addr) (n c : Nat) (w : World) (h : Code8 w A n) :
    Calls Tryz.prog 33 #[.slice A n c] w (DrawnClr w) := by
  have HC := Lib.hid h; clear h
  go_enter Tryz.func33, Tryz.ntmps33
  go_wp2_with fail
  refine (drawHom_any A n c w HC.out).mono ?_
  rintro e w3 ⟨L, ⟨tx, ex, ey, si⟩, d, Bq, dq, rfl, own, hsm, hln, hsb, b1⟩
  have O3 := Lib.hid own
  have B3 := Lib.hid b1
  have HL := Lib.hid hsm
  unfold Ent.val
  dsimp only
  clear own hsm b1
  go_upto_region 2 with (fail)
  have bw : Below w3.heap.size w3 (w3.alloc (.cells #[.string tx, .int .i64 ex, .int .i64 ey, .int .i64 si] 45)) := (Below.refl _ _).alloc (Nat.le_refl _) _
  generalize w3.alloc (.cells #[.string tx, .int .i64 ex, .int .i64 ey, .int .i64 si] 45) = w4 at bw ⊢
  have O4 := Lib.hid (own_below O3.out bw)
  have B4 := Lib.hid (B3.out.trans (bw.mono B3.out.size))
  clear bw O3 B3
  go_wp2_with fail
  go_ret2
  exact ⟨L, d, Bq, dq, rfl, O4.out, HL.out, hln, B4.out⟩
theorem chain_blk {W : World} {r s : Nat} {t t' : TypeId} {z0 z1 z2 z3 : Value} {ys : Array Value} (hr : Blk W r t #[z0, z1, z2, z3]) (hs : Blk W s t' ys) (hrs : s ≠ r) (v0 v1 v2 v3 : Value) :
    Blk ((((W.setCell ⟨r, 0, none⟩ v0).setCell ⟨r, 1, none⟩ v1).setCell ⟨r, 2, none⟩ v2).setCell ⟨r, 3, none⟩ v3) r t #[v0, v1, v2, v3] ∧ Blk ((((W.setCell ⟨r, 0, none⟩ v0).setCell ⟨r, 1, none⟩ v1).setCell ⟨r, 2, none⟩ v2).setCell ⟨r, 3, none⟩ v3) s t' ys := by
  have h0 : Blk (W.setCell ⟨r, 0, none⟩ v0) r t #[v0, z1, z2, z3] := by simpa using hr.set_ 0 v0
  have h1 : Blk ((W.setCell ⟨r, 0, none⟩ v0).setCell ⟨r, 1, none⟩ v1) r t #[v0, v1, z2, z3] := by simpa using h0.set_ 1 v1
  have h2 : Blk (((W.setCell ⟨r, 0, none⟩ v0).setCell ⟨r, 1, none⟩ v1).setCell ⟨r, 2, none⟩ v2) r t #[v0, v1, v2, z3] := by simpa using h1.set_ 2 v2
  have h3 : Blk ((((W.setCell ⟨r, 0, none⟩ v0).setCell ⟨r, 1, none⟩ v1).setCell ⟨r, 2, none⟩ v2).setCell ⟨r, 3, none⟩ v3) r t #[v0, v1, v2, v3] := by simpa using h2.set_ 3 v3
  exact ⟨h3, (((hs.far (p := ⟨r, 0, none⟩) hrs v0).far (p := ⟨r, 1, none⟩) hrs v1).far (p := ⟨r, 2, none⟩) hrs v2).far (p := ⟨r, 3, none⟩) hrs v3⟩
theorem below_chain2 {a w : World} (h : Below a.heap.size a w) (r : Nat) (hr : a.heap.size ≤ r) (v0 v1 v2 v3 : Value) : Below a.heap.size a ((((w.setCell ⟨r, 0, none⟩ v0).setCell ⟨r, 1, none⟩ v1).setCell ⟨r, 2, none⟩ v2).setCell ⟨r, 3, none⟩ v3) := below_chainE h r hr v0 v1 v2 v3
/-- Two drawn entries. -/
def DrawnTwo (w : World) (e : Ending) (w' : World) : Prop := ∃ a b : Ent, e = .returned (.tuple #[a.val, b.val]) ∧ SmallE a ∧ SmallE b ∧ Below w.heap.size w w'
set_option maxRecDepth 100000 in
set_option maxHeartbeats 2000000 in
theorem drawCmp_any (A : Option Addr) (n c : Nat) (w : World) (h : Code8 w A n) :
    Calls Tryz.prog 38 #[.slice A n c] w (DrawnTwo w) := by
  have mixed : Tryz.prog.follows Departure.mixedOrders = true := by kernel_rfl
  have HC := Lib.hid h; clear h
  have KN := Lib.hid (blks_two w 45 45 #[.string ⟨#[]⟩, .int .i64 0, .int .i64 0, .int .i64 0] #[.string ⟨#[]⟩, .int .i64 0, .int .i64 0, .int .i64 0])
  go_enter Tryz.func38, Tryz.ntmps38
  go_wp2_with fail
  generalize hW : (w.alloc (.cells #[.string ⟨#[]⟩, .int .i64 0, .int .i64 0, .int .i64 0] 45)).alloc (.cells #[.string ⟨#[]⟩, .int .i64 0, .int .i64 0, .int .i64 0] 45) = W
  obtain ⟨b0, b1', bw, hwz⟩ := KN.out W hW.symm
  have hwz := Nat.le_of_eq hwz.symm
  clear hW KN
  refine (from_code A n c W (HC.out.below bw)).mono ?_
  rintro e w1 ⟨g, rfl, hs1, b1⟩
  obtain ⟨B, hBe⟩ : ∃ B, B = W.heap.size := ⟨_, rfl⟩
  rw [← hBe] at hs1
  have hB1 : w.heap.size + 2 ≤ B := by omega
  have hB2 : B ≤ w1.heap.size := by rw [hBe]; exact b1.size
  have hgb := hs1.base
  have hgl := hs1.lt
  have N1 := Lib.hid (only_of_below (bw.trans (b1.mono bw.size)) : Only w w1 g)
  have Kr1 := Lib.hid (b0.below b1 b0.lt)
  have Ks1 := Lib.hid (b1'.below b1 b1'.lt)
  have S1 := Lib.hid hs1
  clear b0 b1' bw hs1 b1 hBe hwz HC
  go_wp2_with fail
  refine (drawE_any B g w1 S1.out (by omega)).mono ?_
  rintro e w2 ⟨⟨at_, ax, ay, as_⟩, rfl, hsa, hs2, ho2⟩
  unfold Ent.val
  dsimp only [SmallE] at hsa ⊢
  have Kr2 := Lib.hid ((Kr1.out).grown ho2 (by intro e; injection e with e; omega))
  have Ks2 := Lib.hid ((Ks1.out).grown ho2 (by intro e; injection e with e; omega))
  have N2 := Lib.hid (only_trans N1.out ho2)
  have S2 := Lib.hid hs2
  have szq2 : w1.heap.size ≤ w2.heap.size := by have := ho2.size; (try simp at this); omega
  clear ho2 hs2 S1 N1 Kr1 Ks1
  go_upto_region 3 with (fail)
  generalize hW3 : w2.alloc (.cells #[.string at_, .int .i64 ax, .int .i64 ay, .int .i64 as_] 45) = w3
  have Ka3 := Lib.hid (show Blk w3 w2.heap.size 45 #[.string at_, .int .i64 ax, .int .i64 ay, .int .i64 as_] by rw [← hW3]; exact Blk.new _ _ _)
  have Kr3 := Lib.hid (show Blk w3 w.heap.size 45 #[.string ⟨#[]⟩, .int .i64 0, .int .i64 0, .int .i64 0] by rw [← hW3]; exact Kr2.out.alloc _)
  have Ks3 := Lib.hid (show Blk w3 (w.heap.size + 1) 45 #[.string ⟨#[]⟩, .int .i64 0, .int .i64 0, .int .i64 0] by rw [← hW3]; exact Ks2.out.alloc _)
  have S3 := Lib.hid (show Src w3 B g by rw [← hW3]; exact S2.out.alloc _)
  have N3 := Lib.hid (show Only w w3 g by rw [← hW3]; exact only_trans N2.out (only_of_below ((Below.refl _ _).alloc (Nat.le_refl _) _)))
  have szq3 : w2.heap.size + 1 ≤ w3.heap.size := Ka3.out.lt
  clear hW3 S2 N2 Kr2 Ks2
  go_wp2_with fail
  refine (drawE_any B g w3 S3.out (by omega)).mono ?_
  rintro e w4 ⟨⟨bt, bx, by_, bs⟩, rfl, hsb, hs4, ho4⟩
  unfold Ent.val
  dsimp only [SmallE] at hsb ⊢
  have Kr4 := Lib.hid ((Kr3.out).grown ho4 (by intro e; injection e with e; omega))
  have Ks4 := Lib.hid ((Ks3.out).grown ho4 (by intro e; injection e with e; omega))
  have Ka4 := Lib.hid ((Ka3.out).grown ho4 (by intro e; injection e with e; omega))
  have N4 := Lib.hid (only_trans N3.out ho4)
  have S4 := Lib.hid hs4
  have szq4 : w3.heap.size ≤ w4.heap.size := by have := ho4.size; (try simp at this); omega
  clear ho4 hs4 S3 N3 Kr3 Ks3 Ka3
  go_upto_region 4 with (fail)
  generalize hW3 : w4.alloc (.cells #[.string bt, .int .i64 bx, .int .i64 by_, .int .i64 bs] 45) = w5
  have Kb5 := Lib.hid (show Blk w5 w4.heap.size 45 #[.string bt, .int .i64 bx, .int .i64 by_, .int .i64 bs] by rw [← hW3]; exact Blk.new _ _ _)
  have Kr5 := Lib.hid (show Blk w5 w.heap.size 45 #[.string ⟨#[]⟩, .int .i64 0, .int .i64 0, .int .i64 0] by rw [← hW3]; exact Kr4.out.alloc _)
  have Ks5 := Lib.hid (show Blk w5 (w.heap.size + 1) 45 #[.string ⟨#[]⟩, .int .i64 0, .int .i64 0, .int .i64 0] by rw [← hW3]; exact Ks4.out.alloc _)
  have Ka5 := Lib.hid (show Blk w5 w2.heap.size 45 #[.string at_, .int .i64 ax, .int .i64 ay, .int .i64 as_] by rw [← hW3]; exact Ka4.out.alloc _)
  have S5 := Lib.hid (show Src w5 B g by rw [← hW3]; exact S4.out.alloc _)
  have N5 := Lib.hid (show Only w w5 g by rw [← hW3]; exact only_trans N4.out (only_of_below ((Below.refl _ _).alloc (Nat.le_refl _) _)))
  have szq5 : w4.heap.size + 1 ≤ w5.heap.size := Kb5.out.lt
  clear hW3 S4 N4 Kr4 Ks4 Ka4
  go_wp2_with fail
  refine (draw_any 6 B g w5 S5.out (by omega)).mono ?_
  rintro e w6 ⟨z, rfl, z0, z1, _, hs6, ho6⟩
  have hz := z1 (by omega)
  clear z1
  have Kr6 := Lib.hid ((Kr5.out).grown ho6 (by intro e; injection e with e; omega))
  have Ks6 := Lib.hid ((Ks5.out).grown ho6 (by intro e; injection e with e; omega))
  have Ka6 := Lib.hid ((Ka5.out).grown ho6 (by intro e; injection e with e; omega))
  have Kb6 := Lib.hid ((Kb5.out).grown ho6 (by intro e; injection e with e; omega))
  have N6 := Lib.hid (only_trans N5.out ho6)
  have S6 := Lib.hid hs6
  have szq6 : w5.heap.size ≤ w6.heap.size := by have := ho6.size; (try simp at this); omega
  clear ho6 hs6 S5 N5 Kr5 Ks5 Ka5 Kb5
  by_cases hz0 : z = 0
  · subst hz0
    obtain ⟨fb0, fb1, fb2, fb3, fb4, fb5, fb6, fb7, fb8, fb9, fb10, fb11⟩ := facts_4 Kb6.out
    obtain ⟨q0, q1, q2, q3⟩ := cells_4 Ka6.out
    go_upto_region 6 with (fail)
    clear q0 q1 q2 q3
    clear fb0 fb1 fb2 fb3 fb4 fb5 fb6 fb7 fb8 fb9 fb10 fb11
    generalize hw : ((((w6.setCell ⟨w4.heap.size, 0, none⟩ (.string at_)).setCell ⟨w4.heap.size, 1, none⟩ (.int .i64 ax)).setCell ⟨w4.heap.size, 2, none⟩ (.int .i64 ay)).setCell ⟨w4.heap.size, 3, none⟩ (.int .i64 as_)) = w7
    obtain ⟨kq, kept⟩ := stored_4 Kb6.out S6.out N6.out (by omega) (by omega) (by omega) (.string at_) (.int .i64 ax) (.int .i64 ay) (.int .i64 as_) w7 hw.symm
    have Kr7 := Lib.hid (kept.blk (by omega) Kr6.out)
    have Ks7 := Lib.hid (kept.blk (by omega) Ks6.out)
    have Ka7 := Lib.hid (kept.blk (by omega) Ka6.out)
    have Kb7 := Lib.hid kq
    have S7 := Lib.hid kept.src
    have N7 := Lib.hid kept.only
    have szq7 := Nat.le_of_eq kept.size.symm
    clear kq kept hw S6 N6 Kr6 Ks6 Ka6 Kb6
    obtain ⟨fr0, fr1, fr2, fr3, fr4, fr5, fr6, fr7, fr8, fr9, fr10, fr11⟩ := facts_4 Kr7.out
    obtain ⟨p0, p1, p2, p3⟩ := cells_4 Ka7.out
    obtain ⟨q0, q1, q2, q3⟩ := cells_4 Kb7.out
    obtain ⟨kr, ks⟩ := chain_blk Kr7.out Ks7.out (by omega) (.string at_) (.int .i64 ax) (.int .i64 ay) (.int .i64 as_)
    have kb := (chain_blk Kr7.out Kb7.out (by omega) (.string at_) (.int .i64 ax) (.int .i64 ay) (.int .i64 as_)).2
    obtain ⟨g0, g1, g2, g3, g4, g5, g6, g7, g8, g9, g10, g11⟩ := facts_4 ks
    obtain ⟨m0, m1, m2, m3⟩ := cells_4 kb
    obtain ⟨ks2, kr2⟩ := chain_blk ks kr (by omega) (.string at_) (.int .i64 ax) (.int .i64 ay) (.int .i64 as_)
    obtain ⟨y0, y1, y2, y3⟩ := cells_4 kr2
    obtain ⟨x0, x1, x2, x3⟩ := cells_4 ks2
    have Y := Lib.hid kr2
    clear kr ks kr2 ks2 kb
    go_upto_region 6 with (fail)
    go_region
    all_goals
      go_wp2_with fail
      exact bodyPost_ret (v := .tuple #[.agg #[.string at_, .int .i64 ax, .int .i64 ay, .int .i64 as_], .agg #[.string at_, .int .i64 ax, .int .i64 ay, .int .i64 as_]]) (by simp [results, Tryz.results38, go_sem, y0, y1, y2, y3, x0, x1, x2, x3]) rfl ⟨⟨at_, ax, ay, as_⟩, ⟨at_, ax, ay, as_⟩, rfl, hsa, hsa, (below_chain2 (below_chainE (only_below N7.out (by omega) (Nat.le_refl _)) _ (Nat.le_refl _) _ _ _ _) _ (by omega) _ _ _ _).drew⟩
  · have hz1 : (z == 0) = false := by simp [hz0]
    obtain ⟨fr0, fr1, fr2, fr3, fr4, fr5, fr6, fr7, fr8, fr9, fr10, fr11⟩ := facts_4 Kr6.out
    obtain ⟨p0, p1, p2, p3⟩ := cells_4 Ka6.out
    obtain ⟨q0, q1, q2, q3⟩ := cells_4 Kb6.out
    obtain ⟨kr, ks⟩ := chain_blk Kr6.out Ks6.out (by omega) (.string at_) (.int .i64 ax) (.int .i64 ay) (.int .i64 as_)
    have kb := (chain_blk Kr6.out Kb6.out (by omega) (.string at_) (.int .i64 ax) (.int .i64 ay) (.int .i64 as_)).2
    obtain ⟨g0, g1, g2, g3, g4, g5, g6, g7, g8, g9, g10, g11⟩ := facts_4 ks
    obtain ⟨m0, m1, m2, m3⟩ := cells_4 kb
    obtain ⟨ks2, kr2⟩ := chain_blk ks kr (by omega) (.string bt) (.int .i64 bx) (.int .i64 by_) (.int .i64 bs)
    obtain ⟨y0, y1, y2, y3⟩ := cells_4 kr2
    obtain ⟨x0, x1, x2, x3⟩ := cells_4 ks2
    have Y := Lib.hid kr2
    clear kr ks kr2 ks2 kb
    go_upto_region 6 with (fail)
    go_region
    all_goals
      go_wp2_with fail
      exact bodyPost_ret (v := .tuple #[.agg #[.string at_, .int .i64 ax, .int .i64 ay, .int .i64 as_], .agg #[.string bt, .int .i64 bx, .int .i64 by_, .int .i64 bs]]) (by simp [results, Tryz.results38, go_sem, y0, y1, y2, y3, x0, x1, x2, x3]) rfl ⟨⟨at_, ax, ay, as_⟩, ⟨bt, bx, by_, bs⟩, rfl, hsa, hsb, (below_chain2 (below_chainE (only_below N6.out (by omega) (Nat.le_refl _)) _ (Nat.le_refl _) _ _ _ _) _ (by omega) _ _ _ _).drew⟩
end Go.Proofs.YtihhpmhigmegjaaGreatDoor
