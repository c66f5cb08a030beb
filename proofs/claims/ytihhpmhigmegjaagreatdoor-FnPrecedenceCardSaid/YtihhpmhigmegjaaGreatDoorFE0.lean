/- Entry: their cells; the law's own helpers over them: sizes, copies, comparisons. -/
import Derived.Test.YtihhpmhigmegjaaGreatDoorRows
import Derived.Test.YtihhpmhigmegjaaGreatDoorL0
import Derived.Test.YtihhpmhigmegjaaGreatDoorM0
import Derived.WalkKit
import Derived.ProofKit
import Derived.OpenShut
import Derived.BigQuiet
import Derived.Outline
import Derived.WalkSpells
import Derived.WalkLawsBesides
import Derived.Deep.DeepCutAuto
import Derived.Test.YtihhpmhigmegjaaGreatDoorM1
import Derived.Test.YtihhpmhigmegjaaGreatDoorW0
import Derived.Test.YtihhpmhigmegjaaGreatDoorFA
import Derived.Lib.Hide
import Derived.StillTailTactics
namespace Go.Proofs.YtihhpmhigmegjaaGreatDoor
open Go.ChangeShapes Go.WideShapes Go.ChangeAt Go.RowKit

structure Ent where
  text : ByteArray
  x : Int
  y : Int
  since : Int
def Ent.val (b : Ent) : Value := .agg #[.string b.text, .int .i64 b.x, .int .i64 b.y, .int .i64 b.since]
/-- Strings that are not too long. -/
def Ent.Ok (b : Ent) : Prop := b.text.size ≤ 9223372036854775807
def Ent.cells (b : Ent) : List Value := [.string b.text, .int .i64 b.x, .int .i64 b.y, .int .i64 b.since]
def enC (xs : List Ent) : List Value := xs.flatMap Ent.cells
theorem enC_len (xs : List Ent) : (enC xs).length = xs.length * 4 := by
  induction xs with
  | nil => rfl
  | cons x r ih => simp [enC, Ent.cells] at *; omega
theorem enC_get (xs : List Ent) (k : Nat) (h : k < xs.length) : (enC xs)[k * 4]? = some (.string xs[k].text) ∧ (enC xs)[k * 4 + 1]? = some (.int .i64 xs[k].x) ∧ (enC xs)[k * 4 + 2]? = some (.int .i64 xs[k].y) ∧ (enC xs)[k * 4 + 3]? = some (.int .i64 xs[k].since) := by
  induction xs generalizing k with
  | nil => simp at h
  | cons x r ih =>
    cases k with
    | zero => simp [enC, Ent.cells]
    | succ k =>
      obtain ⟨i0, i1, i2, i3⟩ := ih k (by simpa using h)
      simp only [enC, List.flatMap_cons, Ent.cells] at i0 i1 i2 i3 ⊢
      refine ⟨?_, ?_, ?_, ?_⟩
      · rw [show (k + 1) * 4 = k * 4 + 1 + 1 + 1 + 1 from by omega]; simpa using i0
      · rw [show (k + 1) * 4 + 1 = k * 4 + 1 + 1 + 1 + 1 + 1 from by omega]; simpa using i1
      · rw [show (k + 1) * 4 + 2 = k * 4 + 2 + 1 + 1 + 1 + 1 from by omega]; simpa using i2
      · rw [show (k + 1) * 4 + 3 = k * 4 + 3 + 1 + 1 + 1 + 1 from by omega]; simpa using i3
theorem enC_one (xs : List Ent) : ∀ u ∈ enC xs, u.oneCell' = true := by
  intro u hu
  simp only [enC, List.mem_flatMap] at hu
  obtain ⟨s, _, h⟩ := hu
  simp [Ent.cells] at h
  rcases h with rfl | rfl | rfl | rfl <;> rfl

/-- What is left of the size: -1 if it is too large. -/
def szEnt (left : Int) (b : Ent) : Int := if left - b.text.size < 0 then -1 else left - b.text.size
theorem szEnt_pos {left : Int} {b : Ent} (h : 0 ≤ szEnt left b) : (b.text.size : Int) ≤ left ∧ szEnt left b ≤ left := by
  unfold szEnt at h ⊢
  repeat' split at h
  all_goals first | omega | (simp only [*, if_false]; omega)
def szEntTo (left : Int) : List Ent → Int
  | [] => left
  | b :: r => if szEnt left b < 0 then -1 else szEntTo (szEnt left b) r
def szEntS (left : Int) (xs : List Ent) : Int := if left - xs.length < 0 then -1 else szEntTo (left - xs.length) xs
theorem szEntTo_pos {left : Int} (xs : List Ent) (h : 0 ≤ szEntTo left xs) : (∀ b ∈ xs, (b.text.size : Int) ≤ left) ∧ szEntTo left xs ≤ left := by
  induction xs generalizing left with
  | nil => exact ⟨fun b hb => by simp at hb, Int.le_refl _⟩
  | cons x r ih =>
    unfold szEntTo at h ⊢
    split at h
    · omega
    · rename_i hn
      have hp := szEnt_pos (left := left) (b := x) (by omega)
      obtain ⟨i1, i2⟩ := ih h
      rw [if_neg hn]
      refine ⟨fun b hb => ?_, by omega⟩
      rcases List.mem_cons.1 hb with rfl | hb
      · simp only [hp, and_self]
      · have := i1 b hb; omega
theorem szEntS_pos {left : Int} {xs : List Ent} (hl : left ≤ 1048576) (h : 0 ≤ szEntS left xs) : xs.length ≤ 1048576 ∧ (∀ b ∈ xs, b.text.size ≤ 1048576) ∧ szEntS left xs ≤ left := by
  unfold szEntS at h ⊢
  split at h
  · omega
  · rename_i hn
    rw [if_neg hn]
    obtain ⟨h1, h2⟩ := szEntTo_pos xs h
    exact ⟨by omega, fun b hb => (by have := h1 b hb; omega), by omega⟩
theorem infoEnt : (Tryz.prog.info? 45).map (fun i => (i.zero, i.size, i.bytes)) = some (some (.agg #[.string ⟨#[]⟩, .int .i64 0, .int .i64 0, .int .i64 0]), 4, 40) := by kernel_rfl
instance : DecidableEq Ent := fun a b => by
  cases a; cases b
  rw [Ent.mk.injEq]
  infer_instance
theorem ent_pair {xs ys : List Ent} {k : Nat} (hl : xs.length = ys.length) (hlt : k < xs.length) (ht : xs.take k = ys.take k) (h1 : xs[k] = ys[k]) : xs.take (k + 1) = ys.take (k + 1) := by
  rw [List.take_succ_eq_append_getElem hlt, List.take_succ_eq_append_getElem (by omega), ht, h1]
/-- What a walk needs: the list lies in memory, and its strings are not too long. -/
def HasEnt (w : World) (xs : List Ent) (A : Option Addr) : Prop := Reads w w.heap.size 4 A xs.length (enC xs) ∧ xs.length ≤ 9223372036854775807 ∧ ∀ b ∈ xs, b.Ok
theorem HasEnt.below {w w' : World} {xs : List Ent} {A : Option Addr} (h : HasEnt w xs A) (hb : Below w.heap.size w w') : HasEnt w' xs A := ⟨(h.1.below hb).more hb.size, h.2⟩
end Go.Proofs.YtihhpmhigmegjaaGreatDoor
