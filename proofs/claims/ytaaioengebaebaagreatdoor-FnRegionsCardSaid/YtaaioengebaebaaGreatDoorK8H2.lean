/- Points: squared distances, turns, signs, sizes; of the program and of the reference. -/
import Derived.Test.YtaaioengebaebaaGreatDoorRows
import Derived.Test.YtaaioengebaebaaGreatDoorK8GA
import Derived.WalkKit
import Derived.ProofKit
import Derived.OpenShut
import Derived.BigQuiet
import Derived.Outline
import Derived.WalkSpells
import Derived.WalkLawsBesides
import Derived.Deep.DeepCutAuto
import Derived.StillTailTactics
import Derived.Lib.Hide
import Derived.Lib.MinMaxS
import Derived.Lib.QuietBelow
import Derived.Deep.QuietTactic
import Derived.IntWalk
namespace Go.Proofs.YtaaioengebaebaaGreatDoor
open Go.ChangeShapes Go.WideShapes Go.ChangeAt Go.RowKit Go.Sort

def sq (ax ay bx bY : Int) : Int := (ax - bx) * (ax - bx) + (ay - bY) * (ay - bY)
theorem sq_bd {d : Int} (h1 : -6000 ≤ d) (h2 : d ≤ 6000) : 0 ≤ d * d ∧ d * d ≤ 36000000 := by
  refine ⟨by rcases Int.le_total 0 d with h0 | h0
             · exact Int.mul_nonneg h0 h0
             · have := Int.mul_nonneg (show 0 ≤ -d by omega) (show 0 ≤ -d by omega)
               rwa [Int.neg_mul_neg] at this, ?_⟩
  have h : d * d ≤ 6000 * 6000 := by
    rcases Int.le_total 0 d with h0 | h0
    · exact Int.mul_le_mul h2 h2 h0 (by omega)
    · have := Int.mul_le_mul (show -d ≤ 6000 by omega) (show -d ≤ 6000 by omega) (show 0 ≤ -d by omega) (by omega)
      rwa [Int.neg_mul_neg] at this
  simpa using h
theorem mul_bd {u v : Int} (h1 : -6000 ≤ u) (h2 : u ≤ 6000) (h3 : -6000 ≤ v) (h4 : v ≤ 6000) : -36000000 ≤ u * v ∧ u * v ≤ 36000000 := by
  obtain ⟨a1, a2⟩ := sq_bd h1 h2
  obtain ⟨b1, b2⟩ := sq_bd h3 h4
  obtain ⟨p1, _⟩ := sq_bd (d := 0) (by omega) (by omega)
  have s1 : 0 ≤ (u + v) * (u + v) := by
    rcases Int.le_total 0 (u + v) with h | h
    · exact Int.mul_nonneg h h
    · have := Int.mul_nonneg (show 0 ≤ -(u + v) by omega) (show 0 ≤ -(u + v) by omega)
      rwa [Int.neg_mul_neg] at this
  have s2 : 0 ≤ (u - v) * (u - v) := by
    rcases Int.le_total 0 (u - v) with h | h
    · exact Int.mul_nonneg h h
    · have := Int.mul_nonneg (show 0 ≤ -(u - v) by omega) (show 0 ≤ -(u - v) by omega)
      rwa [Int.neg_mul_neg] at this
  have e1 : (u + v) * (u + v) = u * u + 2 * (u * v) + v * v := by
    rw [Int.mul_add, Int.add_mul, Int.add_mul, Int.mul_comm v u]; omega
  have e2 : (u - v) * (u - v) = u * u - 2 * (u * v) + v * v := by
    rw [Int.mul_sub, Int.sub_mul, Int.sub_mul, Int.mul_comm v u]; omega
  omega
theorem sq_comm (a b c d : Int) : sq a b c d = sq c d a b := by
  unfold sq
  rw [show c - a = -(a - c) from by omega, show d - b = -(b - d) from by omega, Int.neg_mul_neg, Int.neg_mul_neg]
/-- A coordinate that a point near a mask can have. -/
def Co (a : Int) : Prop := -3000 ≤ a ∧ a ≤ 3000
theorem sq_all {a b c d : Int} (ha : Co a) (hb : Co b) (hc : Co c) (hd : Co d) : 0 ≤ sq a b c d ∧ sq a b c d ≤ 72000000 := by
  obtain ⟨a1, a2⟩ := ha; obtain ⟨b1, b2⟩ := hb; obtain ⟨c1, c2⟩ := hc; obtain ⟨d1, d2⟩ := hd
  have h1 := sq_bd (d := a - c) (by omega) (by omega)
  have h2 := sq_bd (d := b - d) (by omega) (by omega)
  unfold sq; omega

set_option maxRecDepth 100000 in
theorem specSq (a b c d : Int) (ha : Co a) (hb : Co b) (hc : Co c) (hd : Co d) (w : World) :
    Calls Tryz.prog 72 #[.agg #[.int .i64 a, .int .i64 b], .agg #[.int .i64 c, .int .i64 d]] w fun e w' => e = .returned (.int .i64 (sq a b c d)) ∧ Below w.heap.size w w' := by
  obtain ⟨a1, a2⟩ := ha; obtain ⟨b1, b2⟩ := hb; obtain ⟨c1, c2⟩ := hc; obtain ⟨d1, d2⟩ := hd
  obtain ⟨p1, p2⟩ := sq_bd (d := a - c) (by omega) (by omega)
  obtain ⟨p3, p4⟩ := sq_bd (d := b - d) (by omega) (by omega)
  go_enter Tryz.func72, Tryz.ntmps72
  go_wp2
  go_ret
  exact ⟨rfl, by (repeat (first | exact Below.refl _ _ | assumption | refine Below.drew ?_ | refine below_drewN' ?_ _ | refine Below.alloc ?_ (by (try simp); (try omega)) _ | refine Below.setCell ?_ (by (try simp); (try omega)) _))⟩
set_option maxRecDepth 100000 in
theorem implSq (a b c d : Int) (ha : Co a) (hb : Co b) (hc : Co c) (hd : Co d) (w : World) :
    Calls Tryz.prog 99 #[.agg #[.int .i64 a, .int .i64 b], .agg #[.int .i64 c, .int .i64 d]] w fun e w' => e = .returned (.int .i64 (sq a b c d)) ∧ Below w.heap.size w w' := by
  obtain ⟨a1, a2⟩ := ha; obtain ⟨b1, b2⟩ := hb; obtain ⟨c1, c2⟩ := hc; obtain ⟨d1, d2⟩ := hd
  obtain ⟨p1, p2⟩ := sq_bd (d := a - c) (by omega) (by omega)
  obtain ⟨p3, p4⟩ := sq_bd (d := b - d) (by omega) (by omega)
  go_enter Tryz.func99, Tryz.ntmps99
  go_wp2
  go_ret
  exact ⟨rfl, by (repeat (first | exact Below.refl _ _ | assumption | refine Below.drew ?_ | refine below_drewN' ?_ _ | refine Below.alloc ?_ (by (try simp); (try omega)) _ | refine Below.setCell ?_ (by (try simp); (try omega)) _))⟩
end Go.Proofs.YtaaioengebaebaaGreatDoor
