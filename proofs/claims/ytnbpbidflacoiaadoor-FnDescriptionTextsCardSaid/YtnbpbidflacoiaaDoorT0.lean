/- Marks of texts: markText; slices of strings: comparing, marking, asking. -/
import Derived.Test.YtnbpbidflacoiaaDoorRows
import Derived.Test.YtnbpbidflacoiaaDoorL0
import Derived.Test.YtnbpbidflacoiaaDoorM0
import Derived.WalkKit
import Derived.ProofKit
import Derived.OpenShut
import Derived.BigQuiet
import Derived.Outline
import Derived.WalkSpells
import Derived.WalkLawsBesides
import Derived.Deep.DeepCutAuto
import Derived.Test.YtnbpbidflacoiaaDoorM1
import Derived.Test.YtnbpbidflacoiaaDoorW0
import Derived.Lib.Hide
import Derived.Lib.QuietBelow
import Derived.Deep.QuietTactic
import Derived.IntWalk
import Derived.Laws.IdiomStrings
namespace Go.Proofs.YtnbpbidflacoiaaDoor
open Go.ChangeShapes Go.WideShapes Go.ChangeAt Go.RowKit Go.Sort

/-- The last digit. -/
def digB (j : Nat) : UInt8 := UInt8.ofNat (48 + j % 10)
theorem ba_cons (c : UInt8) (l : List UInt8) : (⟨#[c]⟩ : ByteArray) ++ ⟨l.toArray⟩ = ⟨(c :: l).toArray⟩ := by
  apply ByteArray.ext
  rw [ByteArray.data_append]
  simp
/-- The digits of k ahead of l. -/
def mGo : Nat → Nat → List UInt8 → List UInt8
  | 0, _, l => l
  | f + 1, k, l => if k = 0 then l else mGo f (k / 10) (digB k :: l)
def mT (k : Nat) : ByteArray := ⟨(109 :: mGo (k + 1) k []).toArray⟩
theorem mGo_step {f k : Nat} {l : List UInt8} (hk : 0 < k) (hf : k ≤ f) : ∃ f', f = f' + 1 ∧ k / 10 ≤ f' ∧ mGo (f + 1) k l = mGo (f' + 1) (k / 10) (digB k :: l) := by
  obtain ⟨f', rfl⟩ : ∃ f', f = f' + 1 := ⟨f - 1, by omega⟩
  refine ⟨f', rfl, by omega, ?_⟩
  rw [mGo, if_neg (by omega)]
theorem grown_of_below {a w : World} (h : Below a.heap.size a w) (row : Option Nat) : a.grownBy w row := ⟨h.os, h.tape, h.output, h.size, fun i hi _ => h.block i hi⟩
/-- Texts as cells. -/
def txC (xs : List ByteArray) : List Value := xs.map Value.string
theorem txC_len (xs : List ByteArray) : (txC xs).length = xs.length * 1 := by simp [txC]
theorem txC_get (xs : List ByteArray) (k : Nat) (h : k < xs.length) : (txC xs)[k]? = some (.string xs[k]) := by simp [txC, h]
theorem txC_one (xs : List ByteArray) : ∀ u ∈ txC xs, u.oneCell' = true := by
  intro u hu
  simp only [txC, List.mem_map] at hu
  obtain ⟨s, _, rfl⟩ := hu
  rfl
theorem txC_set (ys zs : List ByteArray) (x a : ByteArray) : (txC (ys ++ x :: zs)).set ys.length (.string a) = txC (ys ++ a :: zs) := by simp [txC]
/-- The marks from k on. -/
def marksT (k : Nat) : Nat → List ByteArray
  | 0 => []
  | n + 1 => marksT k n ++ [mT (k + n)]
theorem marksT_len (k n : Nat) : (marksT k n).length = n := by
  induction n with
  | zero => rfl
  | succ n ih => simp [marksT, ih]
theorem marksT_get (k n j : Nat) (h : j < n) : (marksT k n)[j]? = some (mT (k + j)) := by
  induction n with
  | zero => omega
  | succ n ih =>
    by_cases hj : j = n
    · subst hj
      rw [marksT, List.getElem?_append_right (by rw [marksT_len]; exact Nat.le_refl _)]
      simp [marksT_len]
    · rw [marksT, List.getElem?_append_left (by rw [marksT_len]; omega)]
      exact ih (by omega)
end Go.Proofs.YtnbpbidflacoiaaDoor
