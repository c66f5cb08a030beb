/- Fact: their cells; the law's own helpers over them: sizes, copies, comparisons. -/
import Derived.Test.YtihhpmhigmegjaaGreatDoorRows
import Derived.Test.YtihhpmhigmegjaaGreatDoorL0
import Derived.Test.YtihhpmhigmegjaaGreatDoorM0
import Derived.WalkKit
import Derived.ProofKit
import Derived.OpenShut
import Derived.BigQuiet
import Derived.Outline
import Derived.WalkSpells
import Derived.WalkLawsBesides
import Derived.Deep.DeepCutAuto
import Derived.Test.YtihhpmhigmegjaaGreatDoorM1
import Derived.Test.YtihhpmhigmegjaaGreatDoorW0
import Derived.Test.YtihhpmhigmegjaaGreatDoorFA
import Derived.Lib.Hide
import Derived.StillTailTactics
namespace Go.Proofs.YtihhpmhigmegjaaGreatDoor
open Go.ChangeShapes Go.WideShapes Go.ChangeAt Go.RowKit

structure Fct where
  kind : Int
  place : ByteArray
  val_ : ByteArray
  year : Int
def Fct.val (b : Fct) : Value := .agg #[.int .i64 b.kind, .string b.place, .string b.val_, .int .i64 b.year]
/-- Strings that are not too long. -/
def Fct.Ok (b : Fct) : Prop := b.place.size ≤ 9223372036854775807 ∧ b.val_.size ≤ 9223372036854775807
def Fct.cells (b : Fct) : List Value := [.int .i64 b.kind, .string b.place, .string b.val_, .int .i64 b.year]
def faC (xs : List Fct) : List Value := xs.flatMap Fct.cells
theorem faC_len (xs : List Fct) : (faC xs).length = xs.length * 4 := by
  induction xs with
  | nil => rfl
  | cons x r ih => simp [faC, Fct.cells] at *; omega
theorem faC_get (xs : List Fct) (k : Nat) (h : k < xs.length) : (faC xs)[k * 4]? = some (.int .i64 xs[k].kind) ∧ (faC xs)[k * 4 + 1]? = some (.string xs[k].place) ∧ (faC xs)[k * 4 + 2]? = some (.string xs[k].val_) ∧ (faC xs)[k * 4 + 3]? = some (.int .i64 xs[k].year) := by
  induction xs generalizing k with
  | nil => simp at h
  | cons x r ih =>
    cases k with
    | zero => simp [faC, Fct.cells]
    | succ k =>
      obtain ⟨i0, i1, i2, i3⟩ := ih k (by simpa using h)
      simp only [faC, List.flatMap_cons, Fct.cells] at i0 i1 i2 i3 ⊢
      refine ⟨?_, ?_, ?_, ?_⟩
      · rw [show (k + 1) * 4 = k * 4 + 1 + 1 + 1 + 1 from by omega]; simpa using i0
      · rw [show (k + 1) * 4 + 1 = k * 4 + 1 + 1 + 1 + 1 + 1 from by omega]; simpa using i1
      · rw [show (k + 1) * 4 + 2 = k * 4 + 2 + 1 + 1 + 1 + 1 from by omega]; simpa using i2
      · rw [show (k + 1) * 4 + 3 = k * 4 + 3 + 1 + 1 + 1 + 1 from by omega]; simpa using i3
theorem faC_one (xs : List Fct) : ∀ u ∈ faC xs, u.oneCell' = true := by
  intro u hu
  simp only [faC, List.mem_flatMap] at hu
  obtain ⟨s, _, h⟩ := hu
  simp [Fct.cells] at h
  rcases h with rfl | rfl | rfl | rfl <;> rfl

/-- What is left of the size: -1 if it is too large. -/
def szFct (left : Int) (b : Fct) : Int := if left - b.place.size < 0 then -1 else if left - b.place.size - b.val_.size < 0 then -1 else left - b.place.size - b.val_.size
theorem szFct_pos {left : Int} {b : Fct} (h : 0 ≤ szFct left b) : (b.place.size : Int) ≤ left ∧ (b.val_.size : Int) ≤ left ∧ szFct left b ≤ left := by
  unfold szFct at h ⊢
  repeat' split at h
  all_goals first | omega | (simp only [*, if_false]; omega)
def szFctTo (left : Int) : List Fct → Int
  | [] => left
  | b :: r => if szFct left b < 0 then -1 else szFctTo (szFct left b) r
def szFctS (left : Int) (xs : List Fct) : Int := if left - xs.length < 0 then -1 else szFctTo (left - xs.length) xs
theorem szFctTo_pos {left : Int} (xs : List Fct) (h : 0 ≤ szFctTo left xs) : (∀ b ∈ xs, (b.place.size : Int) ≤ left ∧ (b.val_.size : Int) ≤ left) ∧ szFctTo left xs ≤ left := by
  induction xs generalizing left with
  | nil => exact ⟨fun b hb => by simp at hb, Int.le_refl _⟩
  | cons x r ih =>
    unfold szFctTo at h ⊢
    split at h
    · omega
    · rename_i hn
      have hp := szFct_pos (left := left) (b := x) (by omega)
      obtain ⟨i1, i2⟩ := ih h
      rw [if_neg hn]
      refine ⟨fun b hb => ?_, by omega⟩
      rcases List.mem_cons.1 hb with rfl | hb
      · simp only [hp, and_self]
      · have := i1 b hb; omega
theorem szFctS_pos {left : Int} {xs : List Fct} (hl : left ≤ 1048576) (h : 0 ≤ szFctS left xs) : xs.length ≤ 1048576 ∧ (∀ b ∈ xs, b.place.size ≤ 1048576 ∧ b.val_.size ≤ 1048576) ∧ szFctS left xs ≤ left := by
  unfold szFctS at h ⊢
  split at h
  · omega
  · rename_i hn
    rw [if_neg hn]
    obtain ⟨h1, h2⟩ := szFctTo_pos xs h
    exact ⟨by omega, fun b hb => (by have := h1 b hb; omega), by omega⟩
theorem infoFct : (Tryz.prog.info? 26).map (fun i => (i.zero, i.size, i.bytes)) = some (some (.agg #[.int .i64 0, .string ⟨#[]⟩, .string ⟨#[]⟩, .int .i64 0]), 4, 48) := by kernel_rfl
end Go.Proofs.YtihhpmhigmegjaaGreatDoor
