/- Lists of int64 in memory. -/
import Derived.Test.YtihhpmhigmegjaaGreatDoorRows
import Derived.Test.YtihhpmhigmegjaaGreatDoorL0
import Derived.Test.YtihhpmhigmegjaaGreatDoorM0
import Derived.WalkKit
import Derived.ProofKit
import Derived.OpenShut
import Derived.BigQuiet
import Derived.Outline
import Derived.WalkSpells
import Derived.WalkLawsBesides
import Derived.Deep.DeepCutAuto
import Derived.Test.YtihhpmhigmegjaaGreatDoorM1
import Derived.Lib.Hide
import Derived.IntWalk
namespace Go.Proofs.YtihhpmhigmegjaaGreatDoor
open Go.ChangeShapes Go.WideShapes Go.ChangeAt Go.RowKit

def inC (xs : List Int) : List Value := xs.map (Value.int .i64)
theorem inC_len (xs : List Int) : (inC xs).length = xs.length * 1 := by simp [inC]
theorem inC_get (xs : List Int) (k : Nat) (h : k < xs.length) : (inC xs)[k]? = some (.int .i64 xs[k]) := by simp [inC, h]
theorem inC_one (xs : List Int) : ∀ u ∈ inC xs, u.oneCell' = true := by
  intro u hu
  simp only [inC, List.mem_map] at hu
  obtain ⟨s, _, rfl⟩ := hu
  rfl
theorem inC_snoc (xs : List Int) (a : Int) : inC (xs ++ [a]) = inC xs ++ [.int .i64 a] := by simp [inC]
theorem inC_set (ys zs : List Int) (x a : Int) : (inC (ys ++ x :: zs)).set ys.length (.int .i64 a) = inC (ys ++ a :: zs) := by simp [inC]
theorem infoInt : (Tryz.prog.info? 2).map (fun i => (i.zero, i.size, i.bytes)) = some (some (.int .i64 0), 1, 8) := by kernel_rfl
/-- A block of one cell that holds a number reads as a list of one. -/
theorem new_in1 (w : World) (t : TypeId) (a : Int) : Reads (w.alloc (.cells #[.int .i64 a] t)) (w.alloc (.cells #[.int .i64 a] t)).heap.size 1 (some ⟨w.heap.size, 0, none⟩) 1 [.int .i64 a] :=
  ⟨rfl, fun _ => ⟨w.heap.size, 0, rfl, by simp, fun j u hu => by
    rw [Nat.zero_add, (Blk.new w t #[.int .i64 a]).cell]; simpa using hu⟩⟩
end Go.Proofs.YtihhpmhigmegjaaGreatDoor
