/- The order of precedence: entries put one by one behind those that are not after them. -/
import Derived.Test.YtihhpmhigmegjaaGreatDoorRows
import Derived.Test.YtihhpmhigmegjaaGreatDoorL0
import Derived.Test.YtihhpmhigmegjaaGreatDoorM0
import Derived.WalkKit
import Derived.ProofKit
import Derived.OpenShut
import Derived.BigQuiet
import Derived.Outline
import Derived.WalkSpells
import Derived.WalkLawsBesides
import Derived.Deep.DeepCutAuto
import Derived.Test.YtihhpmhigmegjaaGreatDoorGA
import Derived.Test.YtihhpmhigmegjaaGreatDoorI7
namespace Go.Proofs.YtihhpmhigmegjaaGreatDoor
open Go.ChangeShapes Go.WideShapes Go.ChangeAt Go.RowKit Go.Sort

def atE (xs : List Ent) (i : Int) : Ent := xs.getD i.toNat ⟨⟨#[]⟩, 0, 0, 0⟩
theorem atE_eq {xs : List Ent} {k : Nat} (h : k < xs.length) : atE xs k = xs[k] := by
  rw [atE, Int.toNat_natCast, List.getD_eq_getElem?_getD, List.getElem?_eq_getElem h]; rfl
def ltE (xs : List Ent) (i k : Int) : Bool := decide (cmpE (atE xs i) (atE xs k) < 0)
/-- The place of x in S, seen from place j. -/
def posR (lt : Int → Int → Bool) (x : Int) (S : List Int) : Nat → Nat
  | 0 => 0
  | j + 1 => if lt x (S.getD j 0) = true then posR lt x S j else j + 1
def insR (lt : Int → Int → Bool) (x : Int) (S : List Int) : List Int := S.take (posR lt x S S.length) ++ x :: S.drop (posR lt x S S.length)
def ordL (lt : Int → Int → Bool) : Nat → List Int
  | 0 => []
  | k + 1 => insR lt k (ordL lt k)
theorem posR_le (lt : Int → Int → Bool) (x : Int) (S : List Int) : ∀ j, posR lt x S j ≤ j
  | 0 => Nat.le_refl _
  | j + 1 => by
    unfold posR
    split
    · have := posR_le lt x S j; omega
    · exact Nat.le_refl _
theorem insR_len (lt : Int → Int → Bool) (x : Int) (S : List Int) : (insR lt x S).length = S.length + 1 := by
  unfold insR
  have := posR_le lt x S S.length
  simp only [List.length_append, List.length_take, List.length_cons, List.length_drop]
  omega
theorem ordL_len (lt : Int → Int → Bool) : ∀ k, (ordL lt k).length = k
  | 0 => rfl
  | k + 1 => by unfold ordL; rw [insR_len, ordL_len lt k]
theorem insR_mem (lt : Int → Int → Bool) (x : Int) (S : List Int) (v : Int) (h : v ∈ insR lt x S) : v = x ∨ v ∈ S := by
  unfold insR at h
  rcases List.mem_append.1 h with h | h
  · exact Or.inr (List.mem_of_mem_take h)
  · rcases List.mem_cons.1 h with h | h
    · exact Or.inl h
    · exact Or.inr (List.mem_of_mem_drop h)
theorem ordL_in (lt : Int → Int → Bool) : ∀ k, ∀ v ∈ ordL lt k, 0 ≤ v ∧ v < (k : Int)
  | 0, v, h => by simp [ordL] at h
  | k + 1, v, h => by
    rcases insR_mem lt k _ v h with h | h
    · omega
    · have := ordL_in lt k v h; omega
theorem getD_at {S : List Int} {j : Nat} (h : j < S.length) : S.getD j 0 = S[j] := by
  rw [List.getD_eq_getElem?_getD, List.getElem?_eq_getElem h]; rfl
/-- The list while x is sought a place: x lies at place j of S. -/
def midL (S : List Int) (x : Int) (j : Nat) : List Int := S.take j ++ x :: S.drop j
theorem midL_len {S : List Int} {x : Int} {j : Nat} (h : j ≤ S.length) : (midL S x j).length = S.length + 1 := by
  unfold midL
  simp only [List.length_append, List.length_take, List.length_cons, List.length_drop]
  omega
theorem midL_at {S : List Int} {x : Int} {j : Nat} (h : j ≤ S.length) : (midL S x j)[j]? = some x := by
  unfold midL
  rw [List.getElem?_append_right (by rw [List.length_take]; omega), List.length_take, show j - min j S.length = 0 by omega]
  rfl
theorem midL_before {S : List Int} {x : Int} {j : Nat} (h : j < S.length) : (midL S x (j + 1))[j]? = some S[j] := by
  unfold midL
  rw [List.getElem?_append_left (by rw [List.length_take]; omega), List.getElem?_take_of_lt (by omega), List.getElem?_eq_getElem h]
/-- The swap of places j and j + 1. -/
theorem midL_swap {S R : List Int} {x : Int} {j : Nat} (h : j < S.length) : ((midL S x (j + 1) ++ R).set (j + 1) S[j]).set j x = midL S x j ++ R := by
  have h1 : S.take (j + 1) = S.take j ++ [S[j]] := by rw [List.take_succ_eq_append_getElem h]
  have h2 : S.drop j = S[j] :: S.drop (j + 1) := List.drop_eq_getElem_cons h
  have h3 : (S.take j).length = j := by rw [List.length_take]; omega
  unfold midL
  rw [h1, h2]
  have e1 : (S.take j ++ [S[j]] ++ x :: S.drop (j + 1) ++ R) = S.take j ++ (S[j] :: x :: (S.drop (j + 1) ++ R)) := by simp only [List.append_assoc, List.cons_append, List.nil_append]
  have e2 : (S.take j ++ x :: S[j] :: S.drop (j + 1) ++ R) = S.take j ++ (x :: S[j] :: (S.drop (j + 1) ++ R)) := by simp only [List.append_assoc, List.cons_append, List.nil_append]
  rw [e1, e2, List.set_append_right _ _ (by omega), h3, show j + 1 - j = 1 by omega, List.set_append_right _ _ (by omega), h3, Nat.sub_self]
  rfl
theorem insR_mid {lt : Int → Int → Bool} {x : Int} {S : List Int} : insR lt x S = midL S x (posR lt x S S.length) := rfl
theorem posR_zero (lt : Int → Int → Bool) (x : Int) (S : List Int) : posR lt x S 0 = 0 := rfl
theorem posR_go {lt : Int → Int → Bool} {x : Int} {S : List Int} {j : Nat} (h : j < S.length) (hl : lt x S[j] = true) : posR lt x S (j + 1) = posR lt x S j := by
  rw [posR, getD_at h, if_pos hl]
theorem posR_stop {lt : Int → Int → Bool} {x : Int} {S : List Int} {j : Nat} (h : j < S.length) (hl : lt x S[j] = false) : posR lt x S (j + 1) = j + 1 := by
  rw [posR, getD_at h, if_neg (by rw [hl]; decide)]
/-- The indices in their own order. -/
def upL (a n : Nat) : List Int := (List.range' a n).map fun i : Nat => (i : Int)
theorem upL_len (a n : Nat) : (upL a n).length = n := by simp [upL]
theorem upL_cons (a n : Nat) : upL a (n + 1) = (a : Int) :: upL (a + 1) n := by simp [upL, List.range'_succ]
theorem upL_snoc (n : Nat) : upL 0 (n + 1) = upL 0 n ++ [(n : Int)] := by
  simp [upL, List.range'_concat]
theorem ord_next (lt : Int → Int → Bool) (k : Nat) : midL (ordL lt k) k (posR lt k (ordL lt k) (ordL lt k).length) = ordL lt (k + 1) := rfl
theorem mid_start (S : List Int) (x : Int) : midL S x S.length = S ++ [x] := by simp [midL]
end Go.Proofs.YtihhpmhigmegjaaGreatDoor
