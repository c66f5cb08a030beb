/- ClearedEntries: the plain law. -/
import Derived.Test.YthaampckdcimmaaGreatDoorRows
import Derived.Test.YthaampckdcimmaaGreatDoorL0
import Derived.Test.YthaampckdcimmaaGreatDoorM0
import Derived.WalkKit
import Derived.ProofKit
import Derived.OpenShut
import Derived.BigQuiet
import Derived.Outline
import Derived.WalkSpells
import Derived.WalkLawsBesides
import Derived.Deep.DeepCutAuto
import Derived.Test.YthaampckdcimmaaGreatDoorGQ
import Derived.Test.YthaampckdcimmaaGreatDoorGC
namespace Go.Proofs.YthaampckdcimmaaGreatDoor
open Go.ChangeShapes Go.WideShapes Go.ChangeAt Go.RowKit Go.Sort

/-- The indices kept, of a list of indices: each that none of the kept ones bars. -/
def clrL (P : Int → Int → Bool) (O : List Int) : List Int := O.foldl (fun K i => if K.any (fun k => P k i) = true then K else K ++ [i]) []
theorem clrL_nil (P : Int → Int → Bool) : clrL P [] = [] := rfl
theorem clrL_snoc (P : Int → Int → Bool) (O : List Int) (i : Int) : clrL P (O ++ [i]) = if (clrL P O).any (fun k => P k i) = true then clrL P O else clrL P O ++ [i] := by
  unfold clrL
  rw [List.foldl_append]; rfl
theorem clrL_take {P : Int → Int → Bool} {O : List Int} {k : Nat} (h : k < O.length) : clrL P (O.take (k + 1)) = if (clrL P (O.take k)).any (fun v => P v O[k]) = true then clrL P (O.take k) else clrL P (O.take k) ++ [O[k]] := by
  rw [List.take_succ_eq_append_getElem h, clrL_snoc]
theorem clrL_aux (P : Int → Int → Bool) : ∀ (O K : List Int), ∃ T, O.foldl (fun K i => if K.any (fun k => P k i) = true then K else K ++ [i]) K = K ++ T ∧ T.Sublist O
  | [], K => ⟨[], by simp, List.Sublist.refl _⟩
  | a :: O, K => by
    rw [List.foldl_cons]
    split
    · obtain ⟨T, h1, h2⟩ := clrL_aux P O K
      exact ⟨T, h1, h2.cons _⟩
    · obtain ⟨T, h1, h2⟩ := clrL_aux P O (K ++ [a])
      exact ⟨a :: T, by rw [h1, List.append_assoc]; rfl, h2.cons_cons _⟩
theorem clrL_sub (P : Int → Int → Bool) (O : List Int) : (clrL P O).Sublist O := by
  obtain ⟨T, h1, h2⟩ := clrL_aux P O []
  unfold clrL
  rw [h1]; exact h2
theorem clrL_len (P : Int → Int → Bool) (O : List Int) : (clrL P O).length ≤ O.length := (clrL_sub P O).length_le
theorem insR_perm (lt : Int → Int → Bool) (x : Int) (S : List Int) : (insR lt x S).Perm (x :: S) := by
  unfold insR
  refine List.Perm.trans List.perm_middle ?_
  rw [List.take_append_drop]
theorem ordL_perm (lt : Int → Int → Bool) : ∀ k, (ordL lt k).Perm (upL 0 k)
  | 0 => by simp [ordL, upL]
  | k + 1 => by
    rw [upL_snoc]
    refine (insR_perm lt k (ordL lt k)).trans ?_
    exact ((ordL_perm lt k).cons _).trans (List.perm_append_singleton _ _).symm
theorem upL_sorted (a n : Nat) : (upL a n).Pairwise (· < ·) := by
  unfold upL
  rw [List.pairwise_map]
  exact List.Pairwise.imp (fun h => by omega) (List.pairwise_lt_range' (s := a) (n := n) 1)
theorem upL_nodup (a n : Nat) : (upL a n).Nodup := (upL_sorted a n).imp (fun h => by omega)
theorem upL_mem {n : Nat} {v : Int} : v ∈ upL 0 n ↔ 0 ≤ v ∧ v < (n : Int) := by
  unfold upL
  simp only [List.mem_map, List.mem_range']
  constructor
  · rintro ⟨i, ⟨j, h1, h2⟩, rfl⟩; omega
  · rintro ⟨h1, h2⟩; exact ⟨v.toNat, ⟨v.toNat, by omega, by omega⟩, by omega⟩
/-- The indices of the kept entries, in their own order. -/
def inB' (K : List Int) (v : Int) : Bool := K.any (fun k => k == v)
theorem inB'_iff {K : List Int} {v : Int} : inB' K v = true ↔ v ∈ K := by
  unfold inB'
  rw [List.any_eq_true]
  constructor
  · rintro ⟨x, h1, h2⟩; rw [beq_iff_eq] at h2; rwa [← h2]
  · intro h; exact ⟨v, h, by simp⟩
def refTo (K : List Int) (k : Nat) : List Int := (upL 0 k).filter (inB' K)
theorem refTo_next (K : List Int) (k : Nat) : refTo K (k + 1) = if inB' K k = true then refTo K k ++ [(k : Int)] else refTo K k := by
  unfold refTo
  rw [upL_snoc, List.filter_append]
  cases h : inB' K (k : Int) <;> simp [h]
theorem refTo_len (K : List Int) (k : Nat) : (refTo K k).length ≤ k := by
  unfold refTo
  have := List.length_filter_le (inB' K) (upL 0 k)
  rwa [upL_len] at this
theorem sort_ref {P : Int → Int → Bool} {lt : Int → Int → Bool} (n : Nat) : (clrL P (ordL lt n)).mergeSort (fun x y => decide (x ≤ y)) = refTo (clrL P (ordL lt n)) n := by
  have hsub := clrL_sub P (ordL lt n)
  have hperm := ordL_perm lt n
  have hnd : (ordL lt n).Nodup := hperm.nodup_iff.2 (upL_nodup 0 n)
  have hkn : (clrL P (ordL lt n)).Nodup := hnd.sublist hsub
  have hkm : ∀ v ∈ clrL P (ordL lt n), 0 ≤ v ∧ v < (n : Int) := fun v hv => ordL_in lt n v (hsub.subset hv)
  generalize clrL P (ordL lt n) = K at *
  have hrn : (refTo K n).Nodup := (upL_nodup 0 n).sublist List.filter_sublist
  have hp : (K.mergeSort (fun x y => decide (x ≤ y))).Perm (refTo K n) := by
    refine (List.mergeSort_perm K _).trans ?_
    rw [List.perm_ext_iff_of_nodup hkn hrn]
    intro v
    unfold refTo
    rw [List.mem_filter, upL_mem, inB'_iff]
    exact ⟨fun h => ⟨hkm v h, h⟩, fun h => h.2⟩
  have h1 : (K.mergeSort (fun x y => decide (x ≤ y))).Pairwise (· ≤ ·) := by
    have := List.pairwise_mergeSort (le := fun x y : Int => decide (x ≤ y)) (fun a b c h1 h2 => by simp at *; omega) (fun a b => by simp; omega) K
    exact this.imp (fun h => by simpa using h)
  have h2 : (refTo K n).Pairwise (· ≤ ·) := ((upL_sorted 0 n).sublist List.filter_sublist).imp (fun h => by omega)
  exact hp.eq_of_pairwise (fun a b _ _ h1 h2 => by omega) h1 h2
end Go.Proofs.YthaampckdcimmaaGreatDoor
