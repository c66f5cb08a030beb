/- Sites: their cells; the law's own helpers over sites: sizes, copies, comparisons. -/
import Derived.Test.YtnbpbidflacoiaaDoorRows
import Derived.Test.YtnbpbidflacoiaaDoorL0
import Derived.Test.YtnbpbidflacoiaaDoorM0
import Derived.WalkKit
import Derived.ProofKit
import Derived.OpenShut
import Derived.BigQuiet
import Derived.Outline
import Derived.WalkSpells
import Derived.WalkLawsBesides
import Derived.Deep.DeepCutAuto
import Derived.Test.YtnbpbidflacoiaaDoorM1
import Derived.Test.YtnbpbidflacoiaaDoorW0
import Derived.Test.YtnbpbidflacoiaaDoorFA
import Derived.Lib.Hide
import Derived.StillTailTactics
namespace Go.Proofs.YtnbpbidflacoiaaDoor
open Go.ChangeShapes Go.WideShapes Go.ChangeAt Go.RowKit

structure Sit where
  name : ByteArray
  x : Int
  y : Int
def Sit.cells (b : Sit) : List Value := [.string b.name, .int .i64 b.x, .int .i64 b.y]
def Sit.val (b : Sit) : Value := .agg #[.string b.name, .int .i64 b.x, .int .i64 b.y]
def siC (xs : List Sit) : List Value := xs.flatMap Sit.cells
theorem siC_len (xs : List Sit) : (siC xs).length = xs.length * 3 := by
  induction xs with
  | nil => rfl
  | cons x r ih => simp [siC, Sit.cells] at *; omega
theorem siC_get (xs : List Sit) (k : Nat) (h : k < xs.length) : (siC xs)[k * 3]? = some (.string xs[k].name) ∧ (siC xs)[k * 3 + 1]? = some (.int .i64 xs[k].x) ∧ (siC xs)[k * 3 + 2]? = some (.int .i64 xs[k].y) := by
  induction xs generalizing k with
  | nil => simp at h
  | cons x r ih =>
    cases k with
    | zero => simp [siC, Sit.cells]
    | succ k =>
      obtain ⟨i0, i1, i2⟩ := ih k (by simpa using h)
      simp only [siC, List.flatMap_cons, Sit.cells] at i0 i1 i2 ⊢
      refine ⟨?_, ?_, ?_⟩
      · rw [show (k + 1) * 3 = k * 3 + 1 + 1 + 1 from by omega]; simpa using i0
      · rw [show (k + 1) * 3 + 1 = k * 3 + 1 + 1 + 1 + 1 from by omega]; simpa using i1
      · rw [show (k + 1) * 3 + 2 = k * 3 + 2 + 1 + 1 + 1 from by omega]; simpa using i2
theorem siC_one (xs : List Sit) : ∀ u ∈ siC xs, u.oneCell' = true := by
  intro u hu
  simp only [siC, List.mem_flatMap] at hu
  obtain ⟨s, _, h⟩ := hu
  simp [Sit.cells] at h
  rcases h with rfl | rfl | rfl <;> rfl

/-- What is left of the size: -1 if it is too large. -/
def szSiTo (left : Int) : List Sit → Int
  | [] => left
  | b :: r => if left - b.name.size < 0 then -1 else szSiTo (left - b.name.size) r
def szSi (xs : List Sit) : Int := if (1048576 : Int) - xs.length < 0 then -1 else szSiTo (1048576 - xs.length) xs
theorem szSiTo_pos {left : Int} (xs : List Sit) (h : 0 ≤ szSiTo left xs) : ∀ b ∈ xs, (b.name.size : Int) ≤ left := by
  induction xs generalizing left with
  | nil => intro b hb; simp at hb
  | cons x r ih =>
    unfold szSiTo at h
    split at h
    · omega
    · intro b hb
      rcases List.mem_cons.1 hb with rfl | hb
      · omega
      · have := ih h b hb; omega
theorem szSi_pos {xs : List Sit} (h : 0 ≤ szSi xs) : xs.length ≤ 1048576 ∧ ∀ b ∈ xs, b.name.size ≤ 1048576 := by
  unfold szSi at h
  split at h
  · omega
  · refine ⟨by omega, fun b hb => ?_⟩
    have := szSiTo_pos xs h b hb
    omega
theorem infoSit : (Tryd.prog.info? 81).map (fun i => (i.zero, i.size, i.bytes)) = some (some (.agg #[.string ⟨#[]⟩, .int .i64 0, .int .i64 0]), 3, 32) := by kernel_rfl
instance : DecidableEq Sit := fun a b => by
  cases a; cases b
  rw [Sit.mk.injEq]
  infer_instance
theorem sit_pair {xs ys : List Sit} {k : Nat} (hl : xs.length = ys.length) (hlt : k < xs.length) (ht : xs.take k = ys.take k) (h1 : xs[k] = ys[k]) : xs.take (k + 1) = ys.take (k + 1) := by
  rw [List.take_succ_eq_append_getElem hlt, List.take_succ_eq_append_getElem (by omega), ht, h1]
end Go.Proofs.YtnbpbidflacoiaaDoor
