/- Numbers as text, and read again: the plain law. No program here. -/
import Derived.Lib.ItoaMem
import Derived.Lib.ParseIntBTie
import Derived.Lib.AtoiTie
import Derived.Lib.Strings
namespace Go.Proofs.YtnbpbidflacoiaaDoor
open Go Go.Lib

def decN (i : Nat) : ByteArray := ⟨(decDigits i).toArray⟩
def itoN (i : Int) : ByteArray := ⟨(itoa i).toArray⟩
theorem decN_list (i : Nat) : (decN i).data.toList = decDigits i := rfl
theorem itoN_nat (i : Nat) : itoN i = decN i := by rw [itoN, itoa_nonneg]; rfl
theorem decN_size (i : Nat) : (decN i).size = nDigits i := by
  rw [size_eq, decN_list, decDigits_length]
/-- What the reference reads. -/
def valV (s : ByteArray) : Int × Bool :=
  if 1 ≤ s.size ∧ s.size ≤ 13 then
    match decFrom 0 s.data.toList with
    | some n => ((n : Int), decide (decN n = s))
    | none => (0, false)
  else (0, false)
/-- What the program reads. -/
def readV (s : ByteArray) : Int × Bool :=
  match parseIntB 64 s.data.toList with
  | .ok v => (v, decide (itoN v = s))
  | .range => (intSat 64 s.data.toList, false)
  | _ => (0, false)
theorem decFrom_app : ∀ (l : List UInt8) (acc : Nat) (c : UInt8), decFrom acc (l ++ [c]) = (decFrom acc l).bind fun n => (digitVal c).map fun d => n * 10 + d
  | [], acc, c => by
    simp only [List.nil_append, decFrom, Option.bind_some]
    cases digitVal c <;> rfl
  | b :: r, acc, c => by
    simp only [List.cons_append, decFrom]
    cases digitVal b with
    | none => rfl
    | some d => exact decFrom_app r _ c
theorem digit_val {j : Nat} (h : j < 10) : digitVal (UInt8.ofNat (48 + j)) = some j := by
  have e : (UInt8.ofNat (48 + j)).toNat = 48 + j := by rw [UInt8.toNat_ofNat', Nat.mod_eq_of_lt (by omega)]
  rw [digitVal, e, if_pos (by omega)]
  congr 1
  omega
theorem decFrom_dec (i : Nat) : decFrom 0 (decDigits i) = some i := by
  induction i using Nat.strongRecOn with
  | _ i ih =>
    rw [decDigits]
    split
    · next h => rw [decFrom, digit_val h]; simp [decFrom]
    · next h =>
      rw [decFrom_app, ih (i / 10) (by omega), digit_val (by omega)]
      simp only [Option.bind_some, Option.map_some]
      congr 1
      omega
theorem dec_mem (i : Nat) : ∀ c ∈ decDigits i, 48 ≤ c.toNat ∧ c.toNat ≤ 57 := by
  have dg : ∀ j : Nat, j < 10 → 48 ≤ (UInt8.ofNat (48 + j)).toNat ∧ (UInt8.ofNat (48 + j)).toNat ≤ 57 := fun j h => by
    rw [UInt8.toNat_ofNat', Nat.mod_eq_of_lt (by omega)]; omega
  induction i using Nat.strongRecOn with
  | _ i ih =>
    intro c hc
    rw [decDigits] at hc
    split at hc
    · next h =>
      rw [List.mem_singleton] at hc
      subst hc
      exact dg i h
    · next h =>
      rcases List.mem_append.1 hc with h1 | h1
      · exact ih (i / 10) (by omega) c h1
      · rw [List.mem_singleton] at h1
        subst h1
        exact dg _ (by omega)
theorem dec_ne (i : Nat) : decDigits i ≠ [] := by
  intro h
  have h1 := decDigits_length i
  have h2 := nDigits_pos i
  rw [h] at h1
  simp at h1
  omega
theorem nDigits_le : ∀ (k i : Nat), i < 10 ^ (k + 1) → nDigits i ≤ k + 1
  | 0, i, h => by rw [nDigits_small (by simpa using h)]; omega
  | k + 1, i, h => by
    by_cases h1 : i < 10
    · rw [nDigits_small h1]; omega
    · rw [nDigits_big h1]
      have := nDigits_le k (i / 10) (by rw [Nat.pow_succ] at h; omega)
      omega
theorem decN_le {i : Nat} (h : i < 10000000000000) : 1 ≤ (decN i).size ∧ (decN i).size ≤ 13 := by
  rw [decN_size]
  exact ⟨nDigits_pos i, nDigits_le 12 i (by simpa using h)⟩
theorem valV_dec {i : Nat} (h : i < 10000000000000) : valV (decN i) = ((i : Int), true) := by
  rw [valV, if_pos (decN_le h), decN_list, decFrom_dec]
  simp
theorem decNat_dec (i : Nat) : decNat (decDigits i) = some i := by
  rw [decNat, if_neg, decFrom_dec]
  simp [dec_ne i]
theorem atoi_dec (i : Nat) : atoi (decDigits i) = some (i : Int) := by
  cases hd : decDigits i with
  | nil => exact absurd hd (dec_ne i)
  | cons c r =>
    have hc := dec_mem i c (by rw [hd]; simp)
    have h45 : (c == 45) = false := by
      rw [beq_eq_false_iff_ne]; intro e; subst e; revert hc; decide
    have h43 : (c == 43) = false := by
      rw [beq_eq_false_iff_ne]; intro e; subst e; revert hc; decide
    rw [atoi, h45, h43, ← hd, decNat_dec]
    rfl
theorem readV_dec {i : Nat} (h : i < 10000000000000) : readV (decN i) = ((i : Int), true) := by
  have hl : (decDigits i).length ≤ 18 := by rw [decDigits_length]; have := nDigits_le 12 i (by simpa using h); omega
  rw [readV, decN_list, parseIntB_64, atoiAll_short _ hl, atoi_dec]
  simp only [NumEnd.ofOption]
  rw [itoN_nat]
  simp
theorem valV_some {s : ByteArray} {v : Int} (h : valV s = (v, true)) : ∃ i : Nat, v = i ∧ s = decN i ∧ i < 10000000000000 := by
  rw [valV] at h
  split at h
  · next hs =>
    cases hd : decFrom 0 s.data.toList with
    | none => rw [hd] at h; cases h
    | some n =>
      rw [hd] at h
      simp only [Prod.mk.injEq, decide_eq_true_eq] at h
      refine ⟨n, h.1.symm, h.2.symm, ?_⟩
      have h3 := lt_pow_nDigits n
      have h4 := decN_size n
      rw [h.2] at h4
      have h5 : 10 ^ nDigits n ≤ 10 ^ 13 := Nat.pow_le_pow_right (by decide) (by omega)
      have : (10 : Nat) ^ 13 = 10000000000000 := by decide
      omega
  · cases h
theorem readV_some {s : ByteArray} {v : Int} (h : readV s = (v, true)) : s = itoN v := by
  rw [readV] at h
  cases hp : parseIntB 64 s.data.toList with
  | ok u =>
    rw [hp] at h
    simp only [Prod.mk.injEq, decide_eq_true_eq] at h
    rw [← h.1, h.2]
  | range => rw [hp] at h; cases h
  | _ => rw [hp] at h; cases h
/-- What the reference reads the program reads too. -/
theorem valV_readV {s : ByteArray} {v : Int} (h : valV s = (v, true)) : readV s = (v, true) := by
  obtain ⟨i, rfl, rfl, hi⟩ := valV_some h
  exact readV_dec hi
/-- What the program reads and is a number in reach the reference reads too. -/
theorem readV_valV {s : ByteArray} {v : Int} (h : readV s = (v, true)) (h0 : 0 ≤ v) (h1 : v < 10000000000000) : valV s = (v, true) := by
  have := readV_some h
  obtain ⟨i, rfl⟩ : ∃ i : Nat, v = i := ⟨v.toNat, by omega⟩
  rw [itoN_nat] at this
  subst this
  exact valV_dec (i := i) (by omega)
theorem readV_int (s : ByteArray) : -9223372036854775808 ≤ (readV s).1 ∧ (readV s).1 ≤ 9223372036854775807 := by
  rw [readV]
  cases hp : parseIntB 64 s.data.toList with
  | ok u =>
    have h := parseIntB_bounds hp
    simp only [Nat.reduceSub, Nat.reducePow] at h
    dsimp only
    omega
  | range =>
    dsimp only
    rw [intSat]
    split <;> simp
  | _ => simp
end Go.Proofs.YtnbpbidflacoiaaDoor
