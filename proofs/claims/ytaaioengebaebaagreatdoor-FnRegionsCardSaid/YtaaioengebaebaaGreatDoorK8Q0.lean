/- Descriptions: their cells; the law's own helpers over descriptions. -/
import Derived.Test.YtaaioengebaebaaGreatDoorRows
import Derived.Test.YtaaioengebaebaaGreatDoorK8GA
import Derived.WalkKit
import Derived.ProofKit
import Derived.OpenShut
import Derived.BigQuiet
import Derived.Outline
import Derived.WalkSpells
import Derived.WalkLawsBesides
import Derived.Deep.DeepCutAuto
import Derived.Lib.Hide
namespace Go.Proofs.YtaaioengebaebaaGreatDoor
open Go.ChangeShapes Go.WideShapes Go.ChangeAt Go.RowKit

structure Dsc where
  kind : Int
  count : Int
  unit : ByteArray
  dir : Int
  a : ByteArray
  b : ByteArray
def Dsc.val (d : Dsc) : Value := .agg #[.int .i64 d.kind, .int .i64 d.count, .string d.unit, .int .i64 d.dir, .string d.a, .string d.b]
def szD (d : Dsc) : Int := if (1048576 : Int) - d.unit.size < 0 then -1 else if (1048576 : Int) - d.unit.size - d.a.size < 0 then -1 else if (1048576 : Int) - d.unit.size - d.a.size - d.b.size < 0 then -1 else 1048576 - d.unit.size - d.a.size - d.b.size
/-- Strings that are not too long. -/
def Dsc.Ok (d : Dsc) : Prop := d.unit.size ≤ 9223372036854775807 ∧ d.a.size ≤ 9223372036854775807 ∧ d.b.size ≤ 9223372036854775807
set_option maxRecDepth 100000 in
theorem szD_any (d : Dsc) (h : d.Ok) (w : World) :
    Calls Tryz.prog 42 #[d.val, .int .i64 1048576] w fun e w' => e = .returned (.int .i64 (szD d)) ∧ Below w.heap.size w w' := by
  obtain ⟨kind, count, unit, dir, a, b⟩ := d
  obtain ⟨h1, h2, h3⟩ := h
  dsimp only at h1 h2 h3
  unfold szD Dsc.val
  dsimp only
  by_cases c1 : (1048576 : Int) - unit.size < 0
  · rw [if_pos c1]
    go_enter Tryz.func42, Tryz.ntmps42
    go_wp2
    go_ret
    exact ⟨rfl, by (repeat (first | exact Below.refl _ _ | assumption | refine Below.drew ?_ | refine below_drewN' ?_ _ | refine Below.alloc ?_ (by (try simp); (try omega)) _ | refine Below.setCell ?_ (by (try simp); (try omega)) _))⟩
  · rw [if_neg c1]
    by_cases c2 : (1048576 : Int) - unit.size - a.size < 0
    · rw [if_pos c2]
      go_enter Tryz.func42, Tryz.ntmps42
      go_wp2
      go_ret
      exact ⟨rfl, by (repeat (first | exact Below.refl _ _ | assumption | refine Below.drew ?_ | refine below_drewN' ?_ _ | refine Below.alloc ?_ (by (try simp); (try omega)) _ | refine Below.setCell ?_ (by (try simp); (try omega)) _))⟩
    · rw [if_neg c2]
      by_cases c3 : (1048576 : Int) - unit.size - a.size - b.size < 0
      · rw [if_pos c3]
        go_enter Tryz.func42, Tryz.ntmps42
        go_wp2
        go_ret
        exact ⟨rfl, by (repeat (first | exact Below.refl _ _ | assumption | refine Below.drew ?_ | refine below_drewN' ?_ _ | refine Below.alloc ?_ (by (try simp); (try omega)) _ | refine Below.setCell ?_ (by (try simp); (try omega)) _))⟩
      · rw [if_neg c3]
        go_enter Tryz.func42, Tryz.ntmps42
        go_wp2
        go_ret
        exact ⟨rfl, by (repeat (first | exact Below.refl _ _ | assumption | refine Below.drew ?_ | refine below_drewN' ?_ _ | refine Below.alloc ?_ (by (try simp); (try omega)) _ | refine Below.setCell ?_ (by (try simp); (try omega)) _))⟩
set_option maxRecDepth 100000 in
theorem toD_any (d : Dsc) (w : World) :
    Calls Tryz.prog 48 #[d.val] w fun e w' => e = .returned d.val ∧ Below w.heap.size w w' := by
  obtain ⟨kind, count, unit, dir, a, b⟩ := d
  unfold Dsc.val
  dsimp only
  go_enter Tryz.func48, Tryz.ntmps48
  go_wp2
  refine bodyPost_ret (v := .agg #[.int .i64 kind, .int .i64 count, .string unit, .int .i64 dir, .string a, .string b]) (by simp [results, Tryz.results48, go_sem]) rfl ⟨rfl, ?_⟩
  (repeat (first | exact Below.refl _ _ | assumption | refine Below.drew ?_ | refine below_drewN' ?_ _ | refine Below.alloc ?_ (by (try simp); (try omega)) _ | refine Below.setCell ?_ (by (try simp); (try omega)) _))
end Go.Proofs.YtaaioengebaebaaGreatDoor
