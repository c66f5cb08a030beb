/- Descriptions compared; what a store of six cells into a block known whole needs. -/
import Derived.Test.YtaaioengebaebaaGreatDoorRows
import Derived.Test.YtaaioengebaebaaGreatDoorK8GA
import Derived.WalkKit
import Derived.ProofKit
import Derived.OpenShut
import Derived.BigQuiet
import Derived.Outline
import Derived.WalkSpells
import Derived.WalkLawsBesides
import Derived.Deep.DeepCutAuto
import Derived.Test.YtaaioengebaebaaGreatDoorK8Q6
import Derived.Lib.Hide
namespace Go.Proofs.YtaaioengebaebaaGreatDoor
open Go.ChangeShapes Go.WideShapes Go.ChangeAt Go.RowKit

theorem six_facts {W : World} {g : Nat} {t : TypeId} {z0 z1 z2 z3 z4 z5 : Value} (h : Blk W g t #[z0, z1, z2, z3, z4, z5]) :
    (W.cell? ⟨g, 0, none⟩ = some z0) ∧ (W.frozen? ⟨g, 0, none⟩ = false) ∧ (∀ v0, (W.setCell ⟨g, 0, none⟩ v0).cell? ⟨g, 1, none⟩ = some z1) ∧ (∀ v0, (W.setCell ⟨g, 0, none⟩ v0).frozen? ⟨g, 1, none⟩ = false) ∧ (∀ v0 v1, ((W.setCell ⟨g, 0, none⟩ v0).setCell ⟨g, 1, none⟩ v1).cell? ⟨g, 2, none⟩ = some z2) ∧ (∀ v0 v1, ((W.setCell ⟨g, 0, none⟩ v0).setCell ⟨g, 1, none⟩ v1).frozen? ⟨g, 2, none⟩ = false) ∧ (∀ v0 v1 v2, (((W.setCell ⟨g, 0, none⟩ v0).setCell ⟨g, 1, none⟩ v1).setCell ⟨g, 2, none⟩ v2).cell? ⟨g, 3, none⟩ = some z3) ∧ (∀ v0 v1 v2, (((W.setCell ⟨g, 0, none⟩ v0).setCell ⟨g, 1, none⟩ v1).setCell ⟨g, 2, none⟩ v2).frozen? ⟨g, 3, none⟩ = false) ∧ (∀ v0 v1 v2 v3, ((((W.setCell ⟨g, 0, none⟩ v0).setCell ⟨g, 1, none⟩ v1).setCell ⟨g, 2, none⟩ v2).setCell ⟨g, 3, none⟩ v3).cell? ⟨g, 4, none⟩ = some z4) ∧ (∀ v0 v1 v2 v3, ((((W.setCell ⟨g, 0, none⟩ v0).setCell ⟨g, 1, none⟩ v1).setCell ⟨g, 2, none⟩ v2).setCell ⟨g, 3, none⟩ v3).frozen? ⟨g, 4, none⟩ = false) ∧ (∀ v0 v1 v2 v3 v4, (((((W.setCell ⟨g, 0, none⟩ v0).setCell ⟨g, 1, none⟩ v1).setCell ⟨g, 2, none⟩ v2).setCell ⟨g, 3, none⟩ v3).setCell ⟨g, 4, none⟩ v4).cell? ⟨g, 5, none⟩ = some z5) ∧ (∀ v0 v1 v2 v3 v4, (((((W.setCell ⟨g, 0, none⟩ v0).setCell ⟨g, 1, none⟩ v1).setCell ⟨g, 2, none⟩ v2).setCell ⟨g, 3, none⟩ v3).setCell ⟨g, 4, none⟩ v4).frozen? ⟨g, 5, none⟩ = false) ∧ (∀ v0 v1 v2 v3 v4 v5, ((((((W.setCell ⟨g, 0, none⟩ v0).setCell ⟨g, 1, none⟩ v1).setCell ⟨g, 2, none⟩ v2).setCell ⟨g, 3, none⟩ v3).setCell ⟨g, 4, none⟩ v4).setCell ⟨g, 5, none⟩ v5).cell? ⟨g, 0, none⟩ = some v0) ∧ (∀ v0 v1 v2 v3 v4 v5, ((((((W.setCell ⟨g, 0, none⟩ v0).setCell ⟨g, 1, none⟩ v1).setCell ⟨g, 2, none⟩ v2).setCell ⟨g, 3, none⟩ v3).setCell ⟨g, 4, none⟩ v4).setCell ⟨g, 5, none⟩ v5).cell? ⟨g, 1, none⟩ = some v1) ∧ (∀ v0 v1 v2 v3 v4 v5, ((((((W.setCell ⟨g, 0, none⟩ v0).setCell ⟨g, 1, none⟩ v1).setCell ⟨g, 2, none⟩ v2).setCell ⟨g, 3, none⟩ v3).setCell ⟨g, 4, none⟩ v4).setCell ⟨g, 5, none⟩ v5).cell? ⟨g, 2, none⟩ = some v2) ∧ (∀ v0 v1 v2 v3 v4 v5, ((((((W.setCell ⟨g, 0, none⟩ v0).setCell ⟨g, 1, none⟩ v1).setCell ⟨g, 2, none⟩ v2).setCell ⟨g, 3, none⟩ v3).setCell ⟨g, 4, none⟩ v4).setCell ⟨g, 5, none⟩ v5).cell? ⟨g, 3, none⟩ = some v3) ∧ (∀ v0 v1 v2 v3 v4 v5, ((((((W.setCell ⟨g, 0, none⟩ v0).setCell ⟨g, 1, none⟩ v1).setCell ⟨g, 2, none⟩ v2).setCell ⟨g, 3, none⟩ v3).setCell ⟨g, 4, none⟩ v4).setCell ⟨g, 5, none⟩ v5).cell? ⟨g, 4, none⟩ = some v4) ∧ (∀ v0 v1 v2 v3 v4 v5, ((((((W.setCell ⟨g, 0, none⟩ v0).setCell ⟨g, 1, none⟩ v1).setCell ⟨g, 2, none⟩ v2).setCell ⟨g, 3, none⟩ v3).setCell ⟨g, 4, none⟩ v4).setCell ⟨g, 5, none⟩ v5).cell? ⟨g, 5, none⟩ = some v5) := by
  have b1 : ∀ v0, Blk (W.setCell ⟨g, 0, none⟩ v0) g t #[v0, z1, z2, z3, z4, z5] := fun v0 => by simpa using h.set_ 0 v0
  have b2 : ∀ v0 v1, Blk ((W.setCell ⟨g, 0, none⟩ v0).setCell ⟨g, 1, none⟩ v1) g t #[v0, v1, z2, z3, z4, z5] := fun v0 v1 => by simpa using (b1 v0).set_ 1 v1
  have b3 : ∀ v0 v1 v2, Blk (((W.setCell ⟨g, 0, none⟩ v0).setCell ⟨g, 1, none⟩ v1).setCell ⟨g, 2, none⟩ v2) g t #[v0, v1, v2, z3, z4, z5] := fun v0 v1 v2 => by simpa using (b2 v0 v1).set_ 2 v2
  have b4 : ∀ v0 v1 v2 v3, Blk ((((W.setCell ⟨g, 0, none⟩ v0).setCell ⟨g, 1, none⟩ v1).setCell ⟨g, 2, none⟩ v2).setCell ⟨g, 3, none⟩ v3) g t #[v0, v1, v2, v3, z4, z5] := fun v0 v1 v2 v3 => by simpa using (b3 v0 v1 v2).set_ 3 v3
  have b5 : ∀ v0 v1 v2 v3 v4, Blk (((((W.setCell ⟨g, 0, none⟩ v0).setCell ⟨g, 1, none⟩ v1).setCell ⟨g, 2, none⟩ v2).setCell ⟨g, 3, none⟩ v3).setCell ⟨g, 4, none⟩ v4) g t #[v0, v1, v2, v3, v4, z5] := fun v0 v1 v2 v3 v4 => by simpa using (b4 v0 v1 v2 v3).set_ 4 v4
  have b6 : ∀ v0 v1 v2 v3 v4 v5, Blk ((((((W.setCell ⟨g, 0, none⟩ v0).setCell ⟨g, 1, none⟩ v1).setCell ⟨g, 2, none⟩ v2).setCell ⟨g, 3, none⟩ v3).setCell ⟨g, 4, none⟩ v4).setCell ⟨g, 5, none⟩ v5) g t #[v0, v1, v2, v3, v4, v5] := fun v0 v1 v2 v3 v4 v5 => by simpa using (b5 v0 v1 v2 v3 v4).set_ 5 v5
  exact ⟨(by rw [h.cell]; rfl), (h.frozen 0), (fun v0 => by rw [(b1 v0).cell]; rfl), (fun v0 => (b1 v0).frozen 1), (fun v0 v1 => by rw [(b2 v0 v1).cell]; rfl), (fun v0 v1 => (b2 v0 v1).frozen 2), (fun v0 v1 v2 => by rw [(b3 v0 v1 v2).cell]; rfl), (fun v0 v1 v2 => (b3 v0 v1 v2).frozen 3), (fun v0 v1 v2 v3 => by rw [(b4 v0 v1 v2 v3).cell]; rfl), (fun v0 v1 v2 v3 => (b4 v0 v1 v2 v3).frozen 4), (fun v0 v1 v2 v3 v4 => by rw [(b5 v0 v1 v2 v3 v4).cell]; rfl), (fun v0 v1 v2 v3 v4 => (b5 v0 v1 v2 v3 v4).frozen 5), (fun v0 v1 v2 v3 v4 v5 => by rw [(b6 v0 v1 v2 v3 v4 v5).cell]; rfl), (fun v0 v1 v2 v3 v4 v5 => by rw [(b6 v0 v1 v2 v3 v4 v5).cell]; rfl), (fun v0 v1 v2 v3 v4 v5 => by rw [(b6 v0 v1 v2 v3 v4 v5).cell]; rfl), (fun v0 v1 v2 v3 v4 v5 => by rw [(b6 v0 v1 v2 v3 v4 v5).cell]; rfl), (fun v0 v1 v2 v3 v4 v5 => by rw [(b6 v0 v1 v2 v3 v4 v5).cell]; rfl), (fun v0 v1 v2 v3 v4 v5 => by rw [(b6 v0 v1 v2 v3 v4 v5).cell]; rfl)⟩
set_option maxRecDepth 100000 in
set_option maxHeartbeats 1000000 in
theorem eqD_any (x y : Dsc) (w : World) :
    Calls Tryz.prog 56 #[x.val, y.val] w fun e w' => e = .returned (.bool (decide (x.kind = y.kind ∧ x.count = y.count ∧ x.unit = y.unit ∧ x.dir = y.dir ∧ x.a = y.a ∧ x.b = y.b))) ∧ Below w.heap.size w w' := by
  obtain ⟨k, c, u, d, a, b⟩ := x
  obtain ⟨k', c', u', d', a', b'⟩ := y
  unfold Dsc.val
  dsimp only
  go_enter Tryz.func56, Tryz.ntmps56
  go_wp2
  all_goals
    go_ret
    refine ⟨ret_bool ?_, ?_⟩
    · simp only [str_eq, bne, Bool.not_eq_true', Bool.not_eq_false', beq_iff_eq, beq_eq_false_iff_ne, ne_eq, decide_eq_true_eq, decide_eq_false_iff_not] at *; simp [*]
    · (repeat (first | exact Below.refl _ _ | assumption | refine Below.drew ?_ | refine below_drewN' ?_ _ | refine Below.alloc ?_ (by (try simp); (try omega)) _ | refine Below.setCell ?_ (by (try simp); (try omega)) _))
theorem eqD_same (x : Dsc) (w : World) : Calls Tryz.prog 56 #[x.val, x.val] w fun e w' => e = .returned (.bool true) ∧ Below w.heap.size w w' := by
  have := eqD_any x x w
  simpa using this
/-- The result that says nothing. -/
def zeroD : Dsc := ⟨0, 0, ⟨#[]⟩, 0, ⟨#[]⟩, ⟨#[]⟩⟩
theorem two_new (w : World) (t : TypeId) (cs zs : Array Value) : ∀ W, W = (w.alloc (.cells cs t)).alloc (.cells zs t) → Blk W w.heap.size t cs ∧ Blk W (w.heap.size + 1) t zs ∧ Below w.heap.size w W ∧ W.heap.size = w.heap.size + 2 := by
  rintro W rfl
  refine ⟨(Blk.new _ _ _).alloc _, by have := Blk.new (w.alloc (.cells cs t)) t zs; simpa using this, ((Below.refl _ _).alloc (Nat.le_refl _) _).alloc (by simp) _, by simp⟩
end Go.Proofs.YtaaioengebaebaaGreatDoor
