/- The first index of a string in a list. -/
import Derived.Test.YtnbpbidflacoiaaDoorRows
import Derived.Test.YtnbpbidflacoiaaDoorL0
import Derived.Test.YtnbpbidflacoiaaDoorM0
import Derived.WalkKit
import Derived.ProofKit
import Derived.OpenShut
import Derived.BigQuiet
import Derived.Outline
import Derived.WalkSpells
import Derived.WalkLawsBesides
import Derived.Deep.DeepCutAuto
import Derived.Test.YtnbpbidflacoiaaDoorT0
namespace Go.Proofs.YtnbpbidflacoiaaDoor
open Go.ChangeShapes Go.WideShapes Go.ChangeAt Go.RowKit

/-- The first index of a number; -1 if it is not there. -/
def ixS (x : ByteArray) : List ByteArray → Int
  | [] => -1
  | a :: r => if x = a then 0 else if ixS x r < 0 then -1 else ixS x r + 1
theorem ixS_ge (x : ByteArray) : ∀ L, -1 ≤ ixS x L
  | [] => by simp [ixS]
  | a :: r => by have := ixS_ge x r; rw [ixS]; split; omega; split <;> omega
theorem ixS_mem (x : ByteArray) : ∀ L, (0 ≤ ixS x L) ↔ x ∈ L
  | [] => by simp [ixS]
  | a :: r => by
    have := ixS_mem x r
    rw [ixS, List.mem_cons]
    by_cases h : x = a
    · simp [h]
    · rw [if_neg h]
      by_cases hx : x ∈ r
      · have h0 := this.2 hx
        rw [if_neg (by omega)]; simp [hx]; omega
      · have h0 : ¬ (0 ≤ ixS x r) := fun h => hx (this.1 h)
        rw [if_pos (by omega)]; simp [h, hx]
/-- What is left of the search. -/
def ixT (x : ByteArray) (L : List ByteArray) (k : Nat) : Int := if ixS x (L.drop k) < 0 then -1 else ixS x (L.drop k) + k
theorem ixT_zero (x : ByteArray) (L : List ByteArray) : ixT x L 0 = ixS x L := by
  have := ixS_ge x L
  unfold ixT; simp; omega
theorem ixT_hit {x : ByteArray} {L : List ByteArray} {k : Nat} (h : k < L.length) (e : x = L[k]) : ixT x L k = k := by
  unfold ixT; rw [List.drop_eq_getElem_cons h, ixS, if_pos e]; simp
theorem ixT_miss {x : ByteArray} {L : List ByteArray} {k : Nat} (h : k < L.length) (e : x ≠ L[k]) : ixT x L k = ixT x L (k + 1) := by
  unfold ixT; rw [List.drop_eq_getElem_cons h, ixS, if_neg e]
  have := ixS_ge x (L.drop (k + 1))
  by_cases h0 : ixS x (L.drop (k + 1)) < 0
  · simp [h0]
  · rw [if_neg h0, if_neg (by omega), if_neg h0]; push_cast; omega
theorem ixT_end {x : ByteArray} {L : List ByteArray} : ixT x L L.length = -1 := by unfold ixT; rw [List.drop_length]; rfl
theorem str_lit (s : ByteArray) (l : List UInt8) : (s.toList == l) = decide (s = ⟨l.toArray⟩) := by
  have := str_eq s ⟨l.toArray⟩
  rw [show (⟨l.toArray⟩ : ByteArray).toList = l by rw [ByteArray.toList_eq]] at this
  exact this
end Go.Proofs.YtnbpbidflacoiaaDoor
