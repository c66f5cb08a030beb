/- The pieces of a text, as rows of bytes; a text joined and cut again. No program here. -/
import Derived.Test.YtnbpbidflacoiaaDoorG0
namespace Go.Proofs.YtnbpbidflacoiaaDoor
open Go Go.Lib

/-- The pieces of a row of bytes; cur: what the piece has so far. -/
def cutL (c : UInt8) : List UInt8 → List UInt8 → List (List UInt8)
  | cur, [] => [cur]
  | cur, x :: r => if x = c then cur :: cutL c [] r else cutL c (cur ++ [x]) r
theorem ext_list (s : ByteArray) (a b : Nat) : (s.extract a b).data.toList = (s.data.toList.drop a).take (b - a) := by
  rw [extract_data]
theorem cutF_cutL (c : UInt8) (s : ByteArray) : ∀ (m fr : Nat), m ≤ s.size → fr ≤ s.size - m → (cutF c s m fr).map (fun p => p.data.toList) = cutL c ((s.data.toList.drop fr).take (s.size - m - fr)) (s.data.toList.drop (s.size - m))
  | 0, fr, _, hf => by
    have hn : s.data.toList.length = s.size := (size_eq s).symm
    rw [Nat.sub_zero, ← hn, List.drop_length, cutL, cutF, List.map_cons, List.map_nil, ext_list _ _ _, hn]
  | m + 1, fr, hm, hf => by
    have hn : s.data.toList.length = s.size := (size_eq s).symm
    have hp : s.size - (m + 1) < s.data.toList.length := by omega
    have e1 : s.size - m = s.size - (m + 1) + 1 := by omega
    rw [List.drop_eq_getElem_cons hp, cutL, cutF, List.getElem?_eq_getElem hp]
    simp only [Option.some.injEq]
    by_cases hc : s.data.toList[s.size - (m + 1)] = c
    · rw [if_pos hc, if_pos hc, List.map_cons, cutF_cutL c s m (s.size - m) (by omega) (by omega), ext_list _ _ _, Nat.sub_self, List.take_zero, ← e1]
    · rw [if_neg hc, if_neg hc, cutF_cutL c s m fr (by omega) (by omega), ← e1]
      congr 1
      rw [show s.size - m - fr = s.size - (m + 1) - fr + 1 by omega, List.take_add_one, List.getElem?_drop, show fr + (s.size - (m + 1) - fr) = s.size - (m + 1) by omega, List.getElem?_eq_getElem hp]
      rfl
theorem cutB_cutL (c : UInt8) (s : ByteArray) : cutB c s = (cutL c [] s.data.toList).map (fun l => (⟨l.toArray⟩ : ByteArray)) := by
  have h := cutF_cutL c s s.size 0 (Nat.le_refl _) (by omega)
  rw [Nat.sub_self, Nat.sub_self, List.take_zero, List.drop_zero] at h
  rw [← h, cutB, List.map_map]
  exact (List.map_id _).symm
theorem cutL_app {c : UInt8} : ∀ (a cur t : List UInt8), c ∉ a → cutL c cur (a ++ c :: t) = (cur ++ a) :: cutL c [] t
  | [], cur, t, _ => by rw [List.nil_append, cutL, if_pos rfl, List.append_nil]
  | x :: r, cur, t, h => by
    rw [List.cons_append, cutL, if_neg (fun e => h (by simp [e])), cutL_app r _ t (fun e => h (by simp [e])), List.append_assoc]
    rfl
theorem cutL_one {c : UInt8} : ∀ (a cur : List UInt8), c ∉ a → cutL c cur a = [cur ++ a]
  | [], cur, _ => by rw [cutL, List.append_nil]
  | x :: r, cur, h => by
    rw [cutL, if_neg (fun e => h (by simp [e])), cutL_one r _ (fun e => h (by simp [e])), List.append_assoc]
    rfl
/-- Rows joined with a byte between them. -/
def joinL (c : UInt8) : List (List UInt8) → List UInt8
  | [] => []
  | [a] => a
  | a :: b :: r => a ++ c :: joinL c (b :: r)
theorem joinL_cons (c : UInt8) (a : List UInt8) (r : List (List UInt8)) (h : r ≠ []) : joinL c (a :: r) = a ++ c :: joinL c r := by
  cases r with
  | nil => exact absurd rfl h
  | cons b r => rfl
theorem cutL_ne (c : UInt8) : ∀ (l cur : List UInt8), cutL c cur l ≠ []
  | [], _ => by simp [cutL]
  | x :: r, cur => by
    rw [cutL]
    split
    · simp
    · exact cutL_ne c r _
theorem join_cut (c : UInt8) : ∀ (l cur : List UInt8), joinL c (cutL c cur l) = cur ++ l
  | [], cur => by rw [cutL, joinL, List.append_nil]
  | x :: r, cur => by
    rw [cutL]
    split
    · next h =>
      rw [joinL_cons _ _ _ (cutL_ne c r _), join_cut c r [], h]
      rfl
    · rw [join_cut c r (cur ++ [x]), List.append_assoc]
      rfl
theorem cut_join (c : UInt8) : ∀ (L : List (List UInt8)), L ≠ [] → (∀ a ∈ L, c ∉ a) → cutL c [] (joinL c L) = L
  | [], h, _ => absurd rfl h
  | [a], _, h => by rw [joinL, cutL_one a [] (h a (by simp))]; rfl
  | a :: b :: r, _, h => by
    rw [joinL, cutL_app a [] _ (h a (by simp)), cut_join c (b :: r) (by simp) (fun x hx => h x (by simp [hx]))]
    rfl
end Go.Proofs.YtnbpbidflacoiaaDoor
