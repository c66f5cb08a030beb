/- Ballots: their cells; the law's own helpers over ballots: sizes, copies, comparisons. -/
import Derived.Test.YtihhpmhigmegjaaDoorRows
import Derived.Test.YtihhpmhigmegjaaDoorL0
import Derived.Test.YtihhpmhigmegjaaDoorM0
import Derived.WalkKit
import Derived.ProofKit
import Derived.OpenShut
import Derived.BigQuiet
import Derived.Outline
import Derived.WalkSpells
import Derived.WalkLawsBesides
import Derived.Deep.DeepCutAuto
import Derived.Test.YtihhpmhigmegjaaDoorM1
import Derived.Test.YtihhpmhigmegjaaDoorW0
import Derived.Lib.Hide
import Derived.StillTailTactics
namespace Go.Proofs.YtihhpmhigmegjaaDoor
open Go.ChangeShapes Go.WideShapes Go.ChangeAt Go.RowKit

structure Bal where
  name : ByteArray
  choice : Int
  weight : Int
def Bal.cells (b : Bal) : List Value := [.string b.name, .int .i64 b.choice, .int .i64 b.weight]
def Bal.val (b : Bal) : Value := .agg #[.string b.name, .int .i64 b.choice, .int .i64 b.weight]
def baC (xs : List Bal) : List Value := xs.flatMap Bal.cells
theorem baC_len (xs : List Bal) : (baC xs).length = xs.length * 3 := by
  induction xs with
  | nil => rfl
  | cons x r ih => simp [baC, Bal.cells] at *; omega
theorem baC_get (xs : List Bal) (k : Nat) (h : k < xs.length) : (baC xs)[k * 3]? = some (.string xs[k].name) ∧ (baC xs)[k * 3 + 1]? = some (.int .i64 xs[k].choice) ∧ (baC xs)[k * 3 + 2]? = some (.int .i64 xs[k].weight) := by
  induction xs generalizing k with
  | nil => simp at h
  | cons x r ih =>
    cases k with
    | zero => simp [baC, Bal.cells]
    | succ k =>
      obtain ⟨i0, i1, i2⟩ := ih k (by simpa using h)
      simp only [baC, List.flatMap_cons, Bal.cells] at i0 i1 i2 ⊢
      refine ⟨?_, ?_, ?_⟩
      · rw [show (k + 1) * 3 = k * 3 + 1 + 1 + 1 from by omega]; simpa using i0
      · rw [show (k + 1) * 3 + 1 = k * 3 + 1 + 1 + 1 + 1 from by omega]; simpa using i1
      · rw [show (k + 1) * 3 + 2 = k * 3 + 2 + 1 + 1 + 1 from by omega]; simpa using i2
theorem baC_one (xs : List Bal) : ∀ u ∈ baC xs, u.oneCell' = true := by
  intro u hu
  simp only [baC, List.mem_flatMap] at hu
  obtain ⟨s, _, h⟩ := hu
  simp [Bal.cells] at h
  rcases h with rfl | rfl | rfl <;> rfl

/-- What is left of the size: -1 if it is too large. -/
def szTo (left : Int) : List Bal → Int
  | [] => left
  | b :: r => if left - b.name.size < 0 then -1 else szTo (left - b.name.size) r
def szB (xs : List Bal) : Int := if (1048576 : Int) - xs.length < 0 then -1 else szTo (1048576 - xs.length) xs
theorem szTo_pos {left : Int} (xs : List Bal) (h : 0 ≤ szTo left xs) : ∀ b ∈ xs, (b.name.size : Int) ≤ left := by
  induction xs generalizing left with
  | nil => intro b hb; simp at hb
  | cons x r ih =>
    unfold szTo at h
    split at h
    · omega
    · intro b hb
      rcases List.mem_cons.1 hb with rfl | hb
      · omega
      · have := ih h b hb; omega
theorem szB_pos {xs : List Bal} (h : 0 ≤ szB xs) : xs.length ≤ 1048576 ∧ ∀ b ∈ xs, b.name.size ≤ 1048576 := by
  unfold szB at h
  split at h
  · omega
  · refine ⟨by omega, fun b hb => ?_⟩
    have := szTo_pos xs h b hb
    omega
theorem infoBal : (Tryd.prog.info? 32).map (fun i => (i.zero, i.size, i.bytes)) = some (some (.agg #[.string ⟨#[]⟩, .int .i64 0, .int .i64 0]), 3, 32) := by kernel_rfl
instance : DecidableEq Bal := fun a b => by
  cases a; cases b
  rw [Bal.mk.injEq]
  infer_instance
theorem bal_pair {xs ys : List Bal} {k : Nat} (hl : xs.length = ys.length) (hlt : k < xs.length) (ht : xs.take k = ys.take k) (h1 : xs[k] = ys[k]) : xs.take (k + 1) = ys.take (k + 1) := by
  rw [List.take_succ_eq_append_getElem hlt, List.take_succ_eq_append_getElem (by omega), ht, h1]
end Go.Proofs.YtihhpmhigmegjaaDoor
