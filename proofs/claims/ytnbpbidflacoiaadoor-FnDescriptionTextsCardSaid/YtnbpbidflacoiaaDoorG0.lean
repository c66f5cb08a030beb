/- A text cut at every occurrence of a byte: the pieces, and those of the library are the same. -/
import Derived.Lib.SplitLaws
import Derived.Lib.IndexBytes
import Derived.Lib.IndexLaws
import Derived.Lib.CutLaws
import Derived.WalkKit
namespace Go.Proofs.YtnbpbidflacoiaaDoor
open Go Go.Lib

/-- The pieces, of which the first began at fr, and m bytes are still to come. -/
def cutF (c : UInt8) (s : ByteArray) : Nat → Nat → List ByteArray
  | 0, fr => [s.extract fr s.size]
  | m + 1, fr => if s.data.toList[s.size - (m + 1)]? = some c then s.extract fr (s.size - (m + 1)) :: cutF c s m (s.size - m) else cutF c s m fr
def cutB (c : UInt8) (s : ByteArray) : List ByteArray := cutF c s s.size 0
theorem cutF_len (c : UInt8) (s : ByteArray) : ∀ m fr, (cutF c s m fr).length ≤ m + 1
  | 0, _ => by simp [cutF]
  | m + 1, fr => by
    have h1 := cutF_len c s m (s.size - m)
    have h2 := cutF_len c s m fr
    rw [cutF]
    split
    · simp; omega
    · omega
theorem cutF_pos (c : UInt8) (s : ByteArray) : ∀ m fr, 0 < (cutF c s m fr).length
  | 0, _ => by simp [cutF]
  | m + 1, fr => by
    have h2 := cutF_pos c s m fr
    rw [cutF]
    split
    · simp
    · omega
theorem cutF_skip {c : UInt8} {s : ByteArray} {fr : Nat} : ∀ (j m : Nat), m + j ≤ s.size → (∀ q, s.size - (m + j) ≤ q → q < s.size - m → s.data.toList[q]? ≠ some c) → cutF c s (m + j) fr = cutF c s m fr
  | 0, _, _, _ => rfl
  | j + 1, m, hm, h => by
    rw [← Nat.add_assoc, cutF, if_neg (h _ (by omega) (by omega))]
    exact cutF_skip j m (by omega) (fun q h1 h2 => h q (by omega) h2)
theorem indexB_one (s : ByteArray) (c : UInt8) : indexB s ⟨#[c]⟩ = indexByte s.data.toList c := by
  show index s.data.toList [c] = _
  exact index_one _ _
theorem countB_one (s : ByteArray) (c : UInt8) : countB s ⟨#[c]⟩ = countByte s.data.toList c := by
  show count s.data.toList [c] = _
  exact count_one c _
theorem ba_ext {a b : ByteArray} (h : a.data.toList = b.data.toList) : a = b := by
  apply ByteArray.ext
  exact Array.toList_inj.1 h
theorem ext_ext0 (s : ByteArray) (fr i : Nat) : (s.extract fr s.size).extract 0 (i + 0) = s.extract fr (fr + i) ∨ s.size < fr + i := by
  by_cases h : s.size < fr + i
  · exact .inr h
  · refine .inl (ba_ext ?_)
    rw [extract_data, extract_data, extract_data]
    simp only [Nat.add_zero, Nat.sub_zero, List.drop_zero, List.take_take]
    rw [Nat.min_eq_left (by omega), Nat.add_sub_cancel_left]
theorem ext_ext1 (s : ByteArray) (fr i : Nat) : (s.extract fr s.size).extract (i + 1) (s.extract fr s.size).size = s.extract (fr + i + 1) s.size := by
  apply ba_ext
  rw [extract_to_end, extract_to_end, extract_to_end, List.drop_drop, Nat.add_assoc]
theorem split_cut (c : UInt8) (s : ByteArray) : ∀ (n fr : Nat), s.size - fr ≤ n → fr ≤ s.size → splitB ⟨#[c]⟩ 0 (countB (s.extract fr s.size) ⟨#[c]⟩) (s.extract fr s.size) = cutF c s (s.size - fr) fr := by
  intro n
  induction n with
  | zero =>
    intro fr h h'
    obtain rfl : fr = s.size := by omega
    have he : (s.extract s.size s.size).data.toList = [] := by rw [extract_to_end, size_eq, List.drop_length]
    have hm : indexB (s.extract s.size s.size) ⟨#[c]⟩ = -1 := by rw [indexB_one, he]; rfl
    rw [countB_miss _ _ hm, splitB_zero, Nat.sub_self, cutF]
  | succ n ih =>
    intro fr h h'
    rcases indexB_cases (s.extract fr s.size) ⟨#[c]⟩ with hm | ⟨i, hi, hroom⟩
    · rw [countB_miss _ _ hm, splitB_zero]
      rw [indexB_one, extract_to_end] at hm
      have hno := indexByte_none hm
      have := cutF_skip (c := c) (s := s) (fr := fr) (s.size - fr) 0 (by omega) (fun q h1 h2 e => hno (q - fr) (by rw [List.getElem?_drop, show fr + (q - fr) = q by omega]; exact e))
      rw [Nat.zero_add] at this
      rw [this, cutF]
    · have hsz : (s.extract fr s.size).size = s.size - fr := by rw [size_eq, extract_to_end, List.length_drop, ← size_eq]
      have h1 : (⟨#[c]⟩ : ByteArray).size = 1 := rfl
      rw [hsz, h1] at hroom
      rw [countB_hit _ _ i (by rw [h1]; omega) hi, Nat.add_comm 1, splitB_hit _ _ _ _ i hi, h1, ext_ext1]
      rw [ih (fr + i + 1) (by omega) (by omega)]
      rcases ext_ext0 s fr i with e0 | e0
      · rw [e0]
        rw [indexB_one, extract_to_end] at hi
        obtain ⟨hs, hn⟩ := indexByte_some hi
        rw [List.getElem?_drop] at hs
        obtain ⟨m, hmm⟩ : ∃ m, s.size - fr - i = m + 1 := ⟨s.size - fr - i - 1, by omega⟩
        have hk := cutF_skip (c := c) (s := s) (fr := fr) i (m + 1) (by omega) (fun q h1 h2 e => hn (q - fr) (by omega) (by rw [List.getElem?_drop, show fr + (q - fr) = q by omega]; exact e))
        rw [show m + 1 + i = s.size - fr by omega] at hk
        rw [hk, cutF, show s.size - (m + 1) = fr + i by omega, if_pos hs, show s.size - m = fr + i + 1 by omega, show s.size - (fr + i + 1) = m by omega]
      · omega
theorem split_all (c : UInt8) (s : ByteArray) : splitB ⟨#[c]⟩ 0 (countB s ⟨#[c]⟩) s = cutB c s := by
  have h := split_cut c s s.size 0 (by omega) (by omega)
  have e : s.extract 0 s.size = s := by apply ba_ext; rw [extract_to_end]; rfl
  rw [e] at h
  exact h
theorem cut_len (c : UInt8) (s : ByteArray) : countB s ⟨#[c]⟩ + 1 = (cutB c s).length := by
  rw [← split_all, splitB_all ⟨#[c]⟩ (show 1 ≤ (⟨#[c]⟩ : ByteArray).size from Nat.le_refl 1) 0 _ s rfl]
end Go.Proofs.YtnbpbidflacoiaaDoor
