/- Masks: the point of a cell, squared distances; of the program and of the reference. -/
import Derived.Test.YtaaioengebaebaaGreatDoorRows
import Derived.Test.YtaaioengebaebaaGreatDoorK9GA
import Derived.WalkKit
import Derived.ProofKit
import Derived.OpenShut
import Derived.BigQuiet
import Derived.Outline
import Derived.WalkSpells
import Derived.WalkLawsBesides
import Derived.Deep.DeepCutAuto
import Derived.Test.YtaaioengebaebaaGreatDoorK9NA1
import Derived.StillTailTactics
import Derived.Lib.Hide
namespace Go.Proofs.YtaaioengebaebaaGreatDoor
open Go.ChangeShapes Go.WideShapes Go.ChangeAt Go.RowKit Go.Sort



def pX (x W : Int) (i : Nat) : Int := x + (i : Int) % W
def pY (y W : Int) (i : Nat) : Int := y + (i : Int) / W
theorem mod_bd (i : Nat) {W : Int} (h1 : 1 ≤ W) (h2 : W ≤ 24) (hi : i ≤ 576) : 0 ≤ (i : Int) % W ∧ (i : Int) % W ≤ 23 ∧ 0 ≤ (i : Int) / W ∧ (i : Int) / W ≤ 576 := by
  have a := Int.emod_nonneg (i : Int) (show W ≠ 0 by omega)
  have b := Int.emod_lt_of_pos (i : Int) (show 0 < W by omega)
  have c := Int.ediv_nonneg (show (0 : Int) ≤ i by omega) (show 0 ≤ W by omega)
  have d := Int.ediv_le_self W (show (0 : Int) ≤ i by omega)
  omega
theorem pX_co {x W : Int} (i : Nat) (hx : -1000 ≤ x) (hx' : x ≤ 1000) (h1 : 1 ≤ W) (h2 : W ≤ 24) (hi : i ≤ 576) : Co (pX x W i) := by
  have := mod_bd i h1 h2 hi; unfold Co pX; omega
theorem pY_co {y W : Int} (i : Nat) (hx : -1000 ≤ y) (hx' : y ≤ 1000) (h1 : 1 ≤ W) (h2 : W ≤ 24) (hi : i ≤ 576) : Co (pY y W i) := by
  have := mod_bd i h1 h2 hi; unfold Co pY; omega

theorem two_blocks (w : World) (t t' : TypeId) (a b c d e : Value) :
    let W0 := (w.alloc (.cells #[a, b, c, d, e] t)).alloc (.cells #[.int .i64 0, .int .i64 0] t')
    W0.cell? ⟨w.heap.size, 0, none⟩ = some a ∧ W0.cell? ⟨w.heap.size, 1, none⟩ = some b ∧ W0.cell? ⟨w.heap.size, 2, none⟩ = some c ∧ W0.cell? ⟨w.heap.size, 3, none⟩ = some d ∧ W0.cell? ⟨w.heap.size, 4, none⟩ = some e ∧
      Blk W0 (w.heap.size + 1) t' #[.int .i64 0, .int .i64 0] ∧ W0.heap.size = w.heap.size + 2 ∧ Below w.heap.size w W0 := by
  have hB := (Blk.new w t #[a, b, c, d, e]).alloc (.cells #[.int .i64 0, .int .i64 0] t')
  have hC := Blk.new (w.alloc (.cells #[a, b, c, d, e] t)) t' #[.int .i64 0, .int .i64 0]
  refine ⟨?_, ?_, ?_, ?_, ?_, ?_, ?_, ?_⟩
  · rw [hB.cell]; rfl
  · rw [hB.cell]; rfl
  · rw [hB.cell]; rfl
  · rw [hB.cell]; rfl
  · rw [hB.cell]; rfl
  · simpa using hC
  · simp
  · exact ((Below.refl _ _).alloc (Nat.le_refl _) _).alloc (by simp) _
set_option maxRecDepth 100000 in
theorem specPoint (x y W H : Int) (A : Option Addr) (n c : Nat) (i : Nat) (hx : -1000 ≤ x) (hx' : x ≤ 1000) (hy : -1000 ≤ y) (hy' : y ≤ 1000) (h1 : 1 ≤ W) (h2 : W ≤ 24) (hi : i ≤ 576) (w : World) :
    Calls Tryz.prog 46 #[maskV x y W H A n c, .int .i64 i] w fun e w' => e = .returned (.agg #[.int .i64 (pX x W i), .int .i64 (pY y W i)]) ∧ Below w.heap.size w w' := by
  obtain ⟨m1, m2, m3, m4⟩ := mod_bd i h1 h2 hi
  unfold maskV
  go_enter Tryz.func46, Tryz.ntmps46
  go_wp2_with fail
  obtain ⟨k0, k1, k2, k3, k4, k5, k6, hb⟩ := two_blocks w 40 32 (.int .i64 x) (.int .i64 y) (.int .i64 W) (.int .i64 H) (.slice A n c)
  generalize (w.alloc (.cells #[.int .i64 x, .int .i64 y, .int .i64 W, .int .i64 H, .slice A n c] 40)).alloc (.cells #[.int .i64 0, .int .i64 0] 32) = W0 at *
  have n0 : ¬ W = 0 := by omega
  have q1 : (i : Int).tmod W = i % W := Int.tmod_eq_emod_of_nonneg (by omega)
  have q2 : IntKind.i64.wrap ((i : Int).tdiv W) = i / W := IntWalk.i64_quo _ _ (by omega)
  have q3 : IntKind.i64.wrap (x + i % W) = pX x W i := IntWalk.i64_in _ (by omega)
  have q4 : IntKind.i64.wrap (y + i / W) = pY y W i := IntWalk.i64_in _ (by omega)
  have q5 : IntKind.i64.wrap ((i : Int) / W) = i / W := IntWalk.i64_in _ (by omega)
  have k7 : W0.cell? ⟨w.heap.size + 1, 0, none⟩ = some (.int .i64 0) := by rw [k5.cell]; rfl
  have k8 : W0.frozen? ⟨w.heap.size + 1, 0, none⟩ = false := k5.frozen 0
  have k9 : ∀ v, (W0.setCell ⟨w.heap.size + 1, 0, none⟩ v).cell? ⟨w.heap.size + 1, 1, none⟩ = some (.int .i64 0) := fun v => by rw [(k5.set_ 0 v).cell]; rfl
  have k10 : ∀ v, (W0.setCell ⟨w.heap.size + 1, 0, none⟩ v).frozen? ⟨w.heap.size + 1, 1, none⟩ = false := fun v => (k5.set_ 0 v).frozen 1
  have k11 : ∀ u v, ((W0.setCell ⟨w.heap.size + 1, 0, none⟩ u).setCell ⟨w.heap.size + 1, 1, none⟩ v).cell? ⟨w.heap.size + 1, 0, none⟩ = some u := fun u v => by rw [((k5.set_ 0 u).set_ 1 v).cell]; rfl
  have k12 : ∀ u v, ((W0.setCell ⟨w.heap.size + 1, 0, none⟩ u).setCell ⟨w.heap.size + 1, 1, none⟩ v).cell? ⟨w.heap.size + 1, 1, none⟩ = some v := fun u v => by rw [((k5.set_ 0 u).set_ 1 v).cell]; rfl
  go_still_tail 17, (by kernel_rfl)
  change wpList _ _ _ _ _ (World.drew _)
  go_wp2_with fail
  refine bodyPost_ret (v := .agg #[.int .i64 (pX x W i), .int .i64 (pY y W i)]) (by simp [results, Tryz.results46, go_sem, k11, k12]) rfl ⟨rfl, ((hb.drew).setCell (by simp) _).setCell (by simp) _⟩
set_option maxRecDepth 100000 in
theorem implPoint (x y W H : Int) (A : Option Addr) (n c : Nat) (i : Nat) (hx : -1000 ≤ x) (hx' : x ≤ 1000) (hy : -1000 ≤ y) (hy' : y ≤ 1000) (h1 : 1 ≤ W) (h2 : W ≤ 24) (hi : i ≤ 576) (w : World) :
    Calls Tryz.prog 53 #[maskV x y W H A n c, .int .i64 i] w fun e w' => e = .returned (.agg #[.int .i64 (pX x W i), .int .i64 (pY y W i)]) ∧ Below w.heap.size w w' := by
  obtain ⟨m1, m2, m3, m4⟩ := mod_bd i h1 h2 hi
  unfold maskV
  go_enter Tryz.func53, Tryz.ntmps53
  go_wp2_with fail
  obtain ⟨k0, k1, k2, k3, k4, k5, k6, hb⟩ := two_blocks w 40 32 (.int .i64 x) (.int .i64 y) (.int .i64 W) (.int .i64 H) (.slice A n c)
  generalize (w.alloc (.cells #[.int .i64 x, .int .i64 y, .int .i64 W, .int .i64 H, .slice A n c] 40)).alloc (.cells #[.int .i64 0, .int .i64 0] 32) = W0 at *
  have n0 : ¬ W = 0 := by omega
  have q1 : (i : Int).tmod W = i % W := Int.tmod_eq_emod_of_nonneg (by omega)
  have q2 : IntKind.i64.wrap ((i : Int).tdiv W) = i / W := IntWalk.i64_quo _ _ (by omega)
  have q3 : IntKind.i64.wrap (x + i % W) = pX x W i := IntWalk.i64_in _ (by omega)
  have q4 : IntKind.i64.wrap (y + i / W) = pY y W i := IntWalk.i64_in _ (by omega)
  have q5 : IntKind.i64.wrap ((i : Int) / W) = i / W := IntWalk.i64_in _ (by omega)
  have k7 : W0.cell? ⟨w.heap.size + 1, 0, none⟩ = some (.int .i64 0) := by rw [k5.cell]; rfl
  have k8 : W0.frozen? ⟨w.heap.size + 1, 0, none⟩ = false := k5.frozen 0
  have k9 : ∀ v, (W0.setCell ⟨w.heap.size + 1, 0, none⟩ v).cell? ⟨w.heap.size + 1, 1, none⟩ = some (.int .i64 0) := fun v => by rw [(k5.set_ 0 v).cell]; rfl
  have k10 : ∀ v, (W0.setCell ⟨w.heap.size + 1, 0, none⟩ v).frozen? ⟨w.heap.size + 1, 1, none⟩ = false := fun v => (k5.set_ 0 v).frozen 1
  have k11 : ∀ u v, ((W0.setCell ⟨w.heap.size + 1, 0, none⟩ u).setCell ⟨w.heap.size + 1, 1, none⟩ v).cell? ⟨w.heap.size + 1, 0, none⟩ = some u := fun u v => by rw [((k5.set_ 0 u).set_ 1 v).cell]; rfl
  have k12 : ∀ u v, ((W0.setCell ⟨w.heap.size + 1, 0, none⟩ u).setCell ⟨w.heap.size + 1, 1, none⟩ v).cell? ⟨w.heap.size + 1, 1, none⟩ = some v := fun u v => by rw [((k5.set_ 0 u).set_ 1 v).cell]; rfl
  go_still_tail 17, (by kernel_rfl)
  change wpList _ _ _ _ _ (World.drew _)
  go_wp2_with fail
  refine bodyPost_ret (v := .agg #[.int .i64 (pX x W i), .int .i64 (pY y W i)]) (by simp [results, Tryz.results53, go_sem, k11, k12]) rfl ⟨rfl, ((hb.drew).setCell (by simp) _).setCell (by simp) _⟩
end Go.Proofs.YtaaioengebaebaaGreatDoor
