/- The least number of steps from a text to another one: rows of numbers; it is the same both ways. -/
import Derived.Test.YtbhibmbcakhflaaDoorRows
import Derived.Test.YtbhibmbcakhflaaDoorL0
import Derived.Test.YtbhibmbcakhflaaDoorM0
import Derived.WalkKit
import Derived.ProofKit
import Derived.OpenShut
import Derived.BigQuiet
import Derived.Outline
import Derived.WalkSpells
import Derived.WalkLawsBesides
import Derived.Deep.DeepCutAuto
import Derived.Test.YtbhibmbcakhflaaDoorI0
namespace Go.Proofs.YtbhibmbcakhflaaDoor
open Go.ChangeShapes Go.WideShapes Go.ChangeAt Go.RowKit

def bA (a : ByteArray) (i : Nat) : UInt8 := a.data.toList.getD i 0
theorem bA_at {a : ByteArray} {i : Nat} (h : i < a.size) : bA a i = a[i] := by
  unfold bA
  rw [List.getD_eq_getElem?_getD]
  have h' : i < a.data.toList.length := by simpa using h
  rw [List.getElem?_eq_getElem h']
  rfl
def dRow (cost prev : Nat → Int) (start : Int) : Nat → Int
  | 0 => start
  | k + 1 => min (min (prev k + cost k) (prev (k + 1) + 1)) (dRow cost prev start k + 1)
def dC (a b : ByteArray) (i k : Nat) : Int := if bA a i = bA b k then 0 else 1
def dM (a b : ByteArray) : Nat → Nat → Int
  | 0 => fun k => k
  | i + 1 => dRow (dC a b i) (dM a b i) ((i : Int) + 1)
theorem dM_zero (a b : ByteArray) (k : Nat) : dM a b 0 k = k := rfl
theorem dM_left (a b : ByteArray) : ∀ i, dM a b i 0 = i
  | 0 => rfl
  | i + 1 => by show ((i : Int) + 1) = _; push_cast; rfl
theorem dM_step (a b : ByteArray) (i k : Nat) : dM a b (i + 1) (k + 1) = min (min (dM a b i k + dC a b i k) (dM a b i (k + 1) + 1)) (dM a b (i + 1) k + 1) := rfl
theorem dC_symm (a b : ByteArray) (i k : Nat) : dC a b i k = dC b a k i := by
  unfold dC
  by_cases h : bA a i = bA b k
  · rw [if_pos h, if_pos h.symm]
  · rw [if_neg h, if_neg (fun e => h e.symm)]
theorem dM_symm (a b : ByteArray) : ∀ i k, dM a b i k = dM b a k i
  | 0, k => by rw [dM_zero, dM_left]
  | i + 1, 0 => by rw [dM_zero, dM_left]
  | i + 1, k + 1 => by
    rw [dM_step, dM_step, dM_symm a b i k, dM_symm a b i (k + 1), dM_symm a b (i + 1) k, dC_symm a b i k]
    omega
theorem dC_bd (a b : ByteArray) (i k : Nat) : 0 ≤ dC a b i k ∧ dC a b i k ≤ 1 := by unfold dC; split <;> omega
theorem dM_bd (a b : ByteArray) : ∀ i k, 0 ≤ dM a b i k ∧ dM a b i k ≤ (i : Int) + k
  | 0, k => by rw [dM_zero]; omega
  | i + 1, 0 => by rw [dM_left]; push_cast; omega
  | i + 1, k + 1 => by
    rw [dM_step]
    have h1 := dM_bd a b i k
    have h2 := dM_bd a b i (k + 1)
    have h3 := dM_bd a b (i + 1) k
    have h4 := dC_bd a b i k
    push_cast at *
    omega
def edB (a b : ByteArray) : Int := dM a b a.size b.size
theorem edB_symm (a b : ByteArray) : edB a b = edB b a := dM_symm a b _ _
theorem edB_nil (a b : ByteArray) (h : b.size = 0) : edB a b = a.size := by unfold edB; rw [h, dM_left]
theorem edB_bd (a b : ByteArray) : 0 ≤ edB a b ∧ edB a b ≤ (a.size : Int) + b.size := dM_bd a b _ _
/-- A row as a list. -/
def rowL (a b : ByteArray) (i n : Nat) : List Int := (List.range n).map (dM a b i)
theorem rowL_len (a b : ByteArray) (i n : Nat) : (rowL a b i n).length = n := by simp [rowL]
theorem rowL_snoc (a b : ByteArray) (i n : Nat) : rowL a b i (n + 1) = rowL a b i n ++ [dM a b i n] := by simp [rowL, List.range_succ]
theorem rowL_at {a b : ByteArray} {i n k : Nat} (h : k < n) : (rowL a b i n)[k]? = some (dM a b i k) := by simp [rowL, h]
/-- The sum over the words of two phrases. -/
def wAt (X : List ByteArray) (i : Nat) : ByteArray := X.getD i ⟨#[]⟩
def pdTo (X Y : List ByteArray) : Nat → Int
  | 0 => 0
  | i + 1 => pdTo X Y i + edB (wAt X i) (wAt Y i)
theorem pdTo_symm (X Y : List ByteArray) : ∀ n, pdTo X Y n = pdTo Y X n
  | 0 => rfl
  | n + 1 => by rw [pdTo, pdTo, pdTo_symm X Y n, edB_symm]
theorem wAt_eq {X : List ByteArray} {i : Nat} (h : i < X.length) : wAt X i = X[i] := by
  unfold wAt; rw [List.getD_eq_getElem?_getD, List.getElem?_eq_getElem h]; rfl
theorem wAt_out {X : List ByteArray} {i : Nat} (h : X.length ≤ i) : wAt X i = ⟨#[]⟩ := by
  unfold wAt; rw [List.getD_eq_getElem?_getD, List.getElem?_eq_none h]; rfl
def pdB (a b : ByteArray) (X Y : List ByteArray) : Int := pdTo X Y (max X.length Y.length)
end Go.Proofs.YtbhibmbcakhflaaDoor
