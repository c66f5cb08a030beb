/- Claim: their cells; the law's own helpers over them: sizes, copies, comparisons. -/
import Derived.Test.YtihhpmhigmegjaaGreatDoorRows
import Derived.Test.YtihhpmhigmegjaaGreatDoorL0
import Derived.Test.YtihhpmhigmegjaaGreatDoorM0
import Derived.WalkKit
import Derived.ProofKit
import Derived.OpenShut
import Derived.BigQuiet
import Derived.Outline
import Derived.WalkSpells
import Derived.WalkLawsBesides
import Derived.Deep.DeepCutAuto
import Derived.Test.YtihhpmhigmegjaaGreatDoorM1
import Derived.Test.YtihhpmhigmegjaaGreatDoorW0
import Derived.Test.YtihhpmhigmegjaaGreatDoorFA
import Derived.Lib.Hide
import Derived.StillTailTactics
namespace Go.Proofs.YtihhpmhigmegjaaGreatDoor
open Go.ChangeShapes Go.WideShapes Go.ChangeAt Go.RowKit

structure Clm where
  src : ByteArray
  kind : Int
  place : ByteArray
  val_ : ByteArray
  lo : Int
  hi : Int
  weight : Int
def Clm.val (b : Clm) : Value := .agg #[.string b.src, .int .i64 b.kind, .string b.place, .string b.val_, .int .i64 b.lo, .int .i64 b.hi, .int .i64 b.weight]
/-- Strings that are not too long. -/
def Clm.Ok (b : Clm) : Prop := b.src.size ≤ 9223372036854775807 ∧ b.place.size ≤ 9223372036854775807 ∧ b.val_.size ≤ 9223372036854775807
def Clm.cells (b : Clm) : List Value := [.string b.src, .int .i64 b.kind, .string b.place, .string b.val_, .int .i64 b.lo, .int .i64 b.hi, .int .i64 b.weight]
def clC (xs : List Clm) : List Value := xs.flatMap Clm.cells
theorem clC_len (xs : List Clm) : (clC xs).length = xs.length * 7 := by
  induction xs with
  | nil => rfl
  | cons x r ih => simp [clC, Clm.cells] at *; omega
theorem clC_get (xs : List Clm) (k : Nat) (h : k < xs.length) : (clC xs)[k * 7]? = some (.string xs[k].src) ∧ (clC xs)[k * 7 + 1]? = some (.int .i64 xs[k].kind) ∧ (clC xs)[k * 7 + 2]? = some (.string xs[k].place) ∧ (clC xs)[k * 7 + 3]? = some (.string xs[k].val_) ∧ (clC xs)[k * 7 + 4]? = some (.int .i64 xs[k].lo) ∧ (clC xs)[k * 7 + 5]? = some (.int .i64 xs[k].hi) ∧ (clC xs)[k * 7 + 6]? = some (.int .i64 xs[k].weight) := by
  induction xs generalizing k with
  | nil => simp at h
  | cons x r ih =>
    cases k with
    | zero => simp [clC, Clm.cells]
    | succ k =>
      obtain ⟨i0, i1, i2, i3, i4, i5, i6⟩ := ih k (by simpa using h)
      simp only [clC, List.flatMap_cons, Clm.cells] at i0 i1 i2 i3 i4 i5 i6 ⊢
      refine ⟨?_, ?_, ?_, ?_, ?_, ?_, ?_⟩
      · rw [show (k + 1) * 7 = k * 7 + 1 + 1 + 1 + 1 + 1 + 1 + 1 from by omega]; simpa using i0
      · rw [show (k + 1) * 7 + 1 = k * 7 + 1 + 1 + 1 + 1 + 1 + 1 + 1 + 1 from by omega]; simpa using i1
      · rw [show (k + 1) * 7 + 2 = k * 7 + 2 + 1 + 1 + 1 + 1 + 1 + 1 + 1 from by omega]; simpa using i2
      · rw [show (k + 1) * 7 + 3 = k * 7 + 3 + 1 + 1 + 1 + 1 + 1 + 1 + 1 from by omega]; simpa using i3
      · rw [show (k + 1) * 7 + 4 = k * 7 + 4 + 1 + 1 + 1 + 1 + 1 + 1 + 1 from by omega]; simpa using i4
      · rw [show (k + 1) * 7 + 5 = k * 7 + 5 + 1 + 1 + 1 + 1 + 1 + 1 + 1 from by omega]; simpa using i5
      · rw [show (k + 1) * 7 + 6 = k * 7 + 6 + 1 + 1 + 1 + 1 + 1 + 1 + 1 from by omega]; simpa using i6
theorem clC_one (xs : List Clm) : ∀ u ∈ clC xs, u.oneCell' = true := by
  intro u hu
  simp only [clC, List.mem_flatMap] at hu
  obtain ⟨s, _, h⟩ := hu
  simp [Clm.cells] at h
  rcases h with rfl | rfl | rfl | rfl | rfl | rfl | rfl <;> rfl

/-- What is left of the size: -1 if it is too large. -/
def szClm (left : Int) (b : Clm) : Int := if left - b.src.size < 0 then -1 else if left - b.src.size - b.place.size < 0 then -1 else if left - b.src.size - b.place.size - b.val_.size < 0 then -1 else left - b.src.size - b.place.size - b.val_.size
theorem szClm_pos {left : Int} {b : Clm} (h : 0 ≤ szClm left b) : (b.src.size : Int) ≤ left ∧ (b.place.size : Int) ≤ left ∧ (b.val_.size : Int) ≤ left ∧ szClm left b ≤ left := by
  unfold szClm at h ⊢
  repeat' split at h
  all_goals first | omega | (simp only [*, if_false]; omega)
def szClmTo (left : Int) : List Clm → Int
  | [] => left
  | b :: r => if szClm left b < 0 then -1 else szClmTo (szClm left b) r
def szClmS (left : Int) (xs : List Clm) : Int := if left - xs.length < 0 then -1 else szClmTo (left - xs.length) xs
theorem szClmTo_pos {left : Int} (xs : List Clm) (h : 0 ≤ szClmTo left xs) : (∀ b ∈ xs, (b.src.size : Int) ≤ left ∧ (b.place.size : Int) ≤ left ∧ (b.val_.size : Int) ≤ left) ∧ szClmTo left xs ≤ left := by
  induction xs generalizing left with
  | nil => exact ⟨fun b hb => by simp at hb, Int.le_refl _⟩
  | cons x r ih =>
    unfold szClmTo at h ⊢
    split at h
    · omega
    · rename_i hn
      have hp := szClm_pos (left := left) (b := x) (by omega)
      obtain ⟨i1, i2⟩ := ih h
      rw [if_neg hn]
      refine ⟨fun b hb => ?_, by omega⟩
      rcases List.mem_cons.1 hb with rfl | hb
      · simp only [hp, and_self]
      · have := i1 b hb; omega
theorem szClmS_pos {left : Int} {xs : List Clm} (hl : left ≤ 1048576) (h : 0 ≤ szClmS left xs) : xs.length ≤ 1048576 ∧ (∀ b ∈ xs, b.src.size ≤ 1048576 ∧ b.place.size ≤ 1048576 ∧ b.val_.size ≤ 1048576) ∧ szClmS left xs ≤ left := by
  unfold szClmS at h ⊢
  split at h
  · omega
  · rename_i hn
    rw [if_neg hn]
    obtain ⟨h1, h2⟩ := szClmTo_pos xs h
    exact ⟨by omega, fun b hb => (by have := h1 b hb; omega), by omega⟩
theorem infoClm : (Tryz.prog.info? 81).map (fun i => (i.zero, i.size, i.bytes)) = some (some (.agg #[.string ⟨#[]⟩, .int .i64 0, .string ⟨#[]⟩, .string ⟨#[]⟩, .int .i64 0, .int .i64 0, .int .i64 0]), 7, 80) := by kernel_rfl
instance : DecidableEq Clm := fun a b => by
  cases a; cases b
  rw [Clm.mk.injEq]
  infer_instance
theorem clm_pair {xs ys : List Clm} {k : Nat} (hl : xs.length = ys.length) (hlt : k < xs.length) (ht : xs.take k = ys.take k) (h1 : xs[k] = ys[k]) : xs.take (k + 1) = ys.take (k + 1) := by
  rw [List.take_succ_eq_append_getElem hlt, List.take_succ_eq_append_getElem (by omega), ht, h1]
/-- What a walk needs: the list lies in memory, and its strings are not too long. -/
def HasClm (w : World) (xs : List Clm) (A : Option Addr) : Prop := Reads w w.heap.size 7 A xs.length (clC xs) ∧ xs.length ≤ 9223372036854775807 ∧ ∀ b ∈ xs, b.Ok
theorem HasClm.below {w w' : World} {xs : List Clm} {A : Option Addr} (h : HasClm w xs A) (hb : Below w.heap.size w w') : HasClm w' xs A := ⟨(h.1.below hb).more hb.size, h.2⟩
end Go.Proofs.YtihhpmhigmegjaaGreatDoor
