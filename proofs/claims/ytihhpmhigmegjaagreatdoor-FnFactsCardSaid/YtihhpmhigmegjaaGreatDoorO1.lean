/- Minimal repairs: what a search over growing lists finds is what a sweep over all sets of indices finds. Plain lists. -/
import Derived.Test.YtihhpmhigmegjaaGreatDoorRows
import Derived.Test.YtihhpmhigmegjaaGreatDoorL0
import Derived.Test.YtihhpmhigmegjaaGreatDoorM0
import Derived.WalkKit
import Derived.ProofKit
import Derived.OpenShut
import Derived.BigQuiet
import Derived.Outline
import Derived.WalkSpells
import Derived.WalkLawsBesides
import Derived.Deep.DeepCutAuto
import Derived.Test.YtihhpmhigmegjaaGreatDoorO0
import Derived.Test.YtihhpmhigmegjaaGreatDoorI4
namespace Go.Proofs.YtihhpmhigmegjaaGreatDoor
open Go.ChangeShapes Go.WideShapes Go.ChangeAt Go.RowKit

/-- The claims whose indices are not among I. -/
def keepN (I : List Nat) : Nat → List Clm → List Clm
  | _, [] => []
  | k, c :: r => if k ∈ I then keepN I (k + 1) r else c :: keepN I (k + 1) r
theorem keep_sub {I J : List Nat} (h : ∀ i ∈ I, i ∈ J) : ∀ k xs, (keepN J k xs).Sublist (keepN I k xs)
  | _, [] => List.Sublist.refl _
  | k, c :: r => by
    rw [keepN, keepN]
    by_cases hI : k ∈ I
    · rw [if_pos hI, if_pos (h k hI)]; exact keep_sub h (k + 1) r
    · rw [if_neg hI]
      by_cases hJ : k ∈ J
      · rw [if_pos hJ]; exact (keep_sub h (k + 1) r).cons _
      · rw [if_neg hJ]; exact (keep_sub h (k + 1) r).cons_cons _
theorem keep_le (I : List Nat) : ∀ k xs, (keepN I k xs).length ≤ xs.length
  | _, [] => Nat.le_refl _
  | k, c :: r => by
    rw [keepN]
    have := keep_le I (k + 1) r
    split <;> simp <;> omega
theorem keep_mem (I : List Nat) : ∀ k xs, ∀ c ∈ keepN I k xs, c ∈ xs
  | _, [], c, h => h
  | k, d :: r, c, h => by
    rw [keepN] at h
    split at h
    · exact List.mem_cons_of_mem _ (keep_mem I _ r c h)
    · rcases List.mem_cons.1 h with rfl | h
      · exact List.mem_cons_self ..
      · exact List.mem_cons_of_mem _ (keep_mem I _ r c h)
/-- Removing them is a repair. -/
def repB (xs : List Clm) (I : List Nat) : Bool := conB (keepN I 0 xs)
theorem rep_mono {xs : List Clm} {I J : List Nat} (h : ∀ i ∈ I, i ∈ J) (hI : repB xs I = true) : repB xs J = true := con_sub (keep_sub h 0 xs) hI
/-- .. of which no index can be spared. -/
def minB (xs : List Clm) (I : List Nat) : Bool := repB xs I && (List.range I.length).all fun i => !repB xs (I.eraseIdx i)
theorem min_rep {xs : List Clm} {I : List Nat} (h : minB xs I = true) : repB xs I = true := by
  unfold minB at h; rw [Bool.and_eq_true] at h; exact h.1
theorem min_not {xs : List Clm} {A B : List Nat} {x : Nat} (h : minB xs (A ++ x :: B) = true) : repB xs A = false := by
  unfold minB at h
  rw [Bool.and_eq_true, List.all_eq_true] at h
  have h1 := h.2 A.length (by simp)
  rw [Bool.not_eq_true'] at h1
  rw [Bool.eq_false_iff]
  intro h2
  have h3 : (A ++ x :: B).eraseIdx A.length = A ++ B := by rw [List.eraseIdx_append_of_length_le (Nat.le_refl _)]; simp
  rw [h3] at h1
  rw [rep_mono (fun i hi => List.mem_append_left _ hi) h2] at h1
  cases h1
/-- The search. -/
def allD (xs : List Clm) : Nat → Nat → List Nat → List (List Nat)
  | 0, _, I => if repB xs I then (if minB xs I then [I] else []) else []
  | f + 1, lo, I => if repB xs I then (if minB xs I then [I] else []) else (List.range (xs.length - lo)).flatMap fun d => allD xs f (lo + d + 1) (I ++ [lo + d])
def asc (lo n : Nat) (S : List Nat) : Prop := S.Pairwise (· < ·) ∧ ∀ i ∈ S, lo ≤ i ∧ i < n
theorem asc_cons {lo n i : Nat} {S : List Nat} : asc lo n (i :: S) ↔ (lo ≤ i ∧ i < n) ∧ asc (i + 1) n S := by
  unfold asc
  rw [List.pairwise_cons]
  constructor
  · rintro ⟨⟨h1, h2⟩, h3⟩
    exact ⟨h3 i (List.mem_cons_self ..), h2, fun j hj => ⟨h1 j hj, (h3 j (List.mem_cons_of_mem _ hj)).2⟩⟩
  · rintro ⟨h1, h2, h3⟩
    refine ⟨⟨fun j hj => (h3 j hj).1, h2⟩, fun j hj => ?_⟩
    rcases List.mem_cons.1 hj with rfl | hj
    · exact h1
    · have := h3 j hj; omega
theorem mem_allD (xs : List Clm) : ∀ (f lo : Nat) (I Q : List Nat), xs.length - lo ≤ f → (Q ∈ allD xs f lo I ↔ ∃ S, asc lo xs.length S ∧ Q = I ++ S ∧ minB xs Q = true)
  | 0, lo, I, Q, hf => by
    rw [allD]
    constructor
    · intro h
      split at h
      · split at h
        · rename_i hm
          rw [List.mem_singleton] at h
          subst h
          exact ⟨[], ⟨List.Pairwise.nil, fun i hi => by cases hi⟩, by simp, hm⟩
        · cases h
      · cases h
    · rintro ⟨S, hS, rfl, hm⟩
      obtain rfl : S = [] := by
        cases S with
        | nil => rfl
        | cons i r => have := hS.2 i (List.mem_cons_self ..); omega
      rw [List.append_nil] at hm ⊢
      rw [if_pos (min_rep hm), if_pos hm]
      simp
  | f + 1, lo, I, Q, hf => by
    rw [allD]
    constructor
    · intro h
      split at h
      · split at h
        · rename_i hm
          rw [List.mem_singleton] at h
          subst h
          exact ⟨[], ⟨List.Pairwise.nil, fun i hi => by cases hi⟩, by simp, hm⟩
        · cases h
      · rw [List.mem_flatMap] at h
        obtain ⟨d, hd, h⟩ := h
        rw [List.mem_range] at hd
        rw [mem_allD xs f (lo + d + 1) _ Q (by omega)] at h
        obtain ⟨S, hS, hQ, hm⟩ := h
        exact ⟨(lo + d) :: S, asc_cons.2 ⟨⟨by omega, by omega⟩, hS⟩, by rw [hQ]; simp, hm⟩
    · rintro ⟨S, hS, rfl, hm⟩
      cases S with
      | nil =>
        rw [List.append_nil] at hm ⊢
        rw [if_pos (min_rep hm), if_pos hm]
        simp
      | cons i r =>
        rw [asc_cons] at hS
        rw [if_neg (by rw [min_not hm]; simp), List.mem_flatMap]
        refine ⟨i - lo, by rw [List.mem_range]; omega, ?_⟩
        have e : lo + (i - lo) = i := by omega
        rw [e, mem_allD xs f (i + 1) _ _ (by omega)]
        exact ⟨r, hS.2, by simp, hm⟩
theorem asc_bits (n b : Nat) : asc 0 n (bitsI n b) := by
  refine ⟨List.Pairwise.filter _ List.pairwise_lt_range, fun i hi => ⟨Nat.zero_le _, ?_⟩⟩
  unfold bitsI at hi
  rw [List.mem_filter, List.mem_range] at hi
  exact hi.1
theorem bits_of_asc : ∀ (n : Nat) (I : List Nat), asc 0 n I → ∃ b, b < 2 ^ n ∧ bitsI n b = I
  | 0, I, h => ⟨0, by simp, by
    cases I with
    | nil => rfl
    | cons i r => have := h.2 i (List.mem_cons_self ..); omega⟩
  | n + 1, I, h => by
    have hp : 2 ^ (n + 1) = 2 ^ n + 2 ^ n := by rw [Nat.pow_succ]; omega
    by_cases hn : n ∈ I
    · obtain ⟨s, t, rfl⟩ := List.append_of_mem hn
      obtain ⟨hpw, hlt⟩ := h
      rw [List.pairwise_append] at hpw
      obtain ⟨p1, p2, p3⟩ := hpw
      rw [List.pairwise_cons] at p2
      obtain rfl : t = [] := by
        cases t with
        | nil => rfl
        | cons i r =>
          have h1 := p2.1 i (List.mem_cons_self ..)
          have h2 := hlt i (by simp)
          omega
      obtain ⟨b, hb, hbI⟩ := bits_of_asc n s ⟨p1, fun i hi => ⟨Nat.zero_le _, p3 i hi n (by simp)⟩⟩
      refine ⟨2 ^ n + b, by omega, ?_⟩
      rw [bits_yes (by rw [Nat.testBit_two_pow_add_eq, Nat.testBit_lt_two_pow hb]; rfl)]
      congr 1
      rw [← hbI]
      unfold bitsI
      refine List.filter_congr fun i hi => ?_
      rw [List.mem_range] at hi
      exact Nat.testBit_two_pow_add_gt hi _
    · obtain ⟨b, hb, hbI⟩ := bits_of_asc n I ⟨h.1, fun i hi => ⟨Nat.zero_le _, by
        have := (h.2 i hi).2
        have : i ≠ n := fun e => hn (e ▸ hi)
        omega⟩⟩
      exact ⟨b, by omega, by rw [bits_no (Nat.testBit_lt_two_pow hb)]; exact hbI⟩
/-- The sweep. -/
def sweep (xs : List Clm) (k : Nat) : List (List Nat) := ((List.range k).filter fun b => minB xs (bitsI xs.length b)).map (bitsI xs.length)
theorem sweep_any (xs : List Clm) (g : List Nat → Bool) : (sweep xs (2 ^ xs.length)).any g = (allD xs xs.length 0 []).any g := by
  rw [Bool.eq_iff_iff, List.any_eq_true, List.any_eq_true]
  constructor
  · rintro ⟨I, hI, hg⟩
    unfold sweep at hI
    rw [List.mem_map] at hI
    obtain ⟨b, hb, rfl⟩ := hI
    rw [List.mem_filter] at hb
    exact ⟨_, (mem_allD xs _ _ _ _ (by omega)).2 ⟨_, asc_bits _ b, rfl, hb.2⟩, hg⟩
  · rintro ⟨I, hI, hg⟩
    rw [mem_allD xs _ _ _ _ (by omega)] at hI
    obtain ⟨S, hS, hE, hm⟩ := hI
    rw [List.nil_append] at hE
    rw [← hE] at hS
    obtain ⟨b, hb, hbI⟩ := bits_of_asc _ _ hS
    refine ⟨I, ?_, hg⟩
    unfold sweep
    rw [List.mem_map]
    exact ⟨b, List.mem_filter.2 ⟨List.mem_range.2 hb, by rw [hbI]; exact hm⟩, hbI⟩
theorem sweep_step {xs : List Clm} {k : Nat} : sweep xs (k + 1) = if minB xs (bitsI xs.length k) then sweep xs k ++ [bitsI xs.length k] else sweep xs k := by
  unfold sweep
  rw [List.range_succ, List.filter_append, List.map_append]
  by_cases h : minB xs (bitsI xs.length k) = true
  · rw [if_pos h]; simp [h]
  · rw [if_neg h]; simp [h]
theorem sweep_len (xs : List Clm) (k : Nat) : (sweep xs k).length ≤ k := by
  unfold sweep
  rw [List.length_map]
  have := List.length_filter_le (fun b => minB xs (bitsI xs.length b)) (List.range k)
  simpa using this
/-- Without one of its numbers. -/
def sans (I : List Nat) (x : Nat) : List Nat := I.filter fun i => decide (i ≠ x)
theorem erase_sans : ∀ {I : List Nat} {i : Nat}, I.Pairwise (· < ·) → (h : i < I.length) → I.eraseIdx i = sans I I[i]
  | x :: r, 0, hp, _ => by
    rw [List.pairwise_cons] at hp
    have h1 : r.filter (fun i => decide (i ≠ x)) = r := List.filter_eq_self.2 fun i hi => by
      have := hp.1 i hi
      rw [decide_eq_true_eq]; omega
    simp only [sans, List.eraseIdx_cons_zero, List.getElem_cons_zero, List.filter_cons, ne_eq, not_true_eq_false, decide_false]
    exact h1.symm
  | x :: r, i + 1, hp, h => by
    rw [List.pairwise_cons] at hp
    have hi : i < r.length := by simpa using h
    have h1 := erase_sans (i := i) hp.2 hi
    have h2 := hp.1 _ (List.getElem_mem hi)
    simp only [List.eraseIdx_cons_succ, List.getElem_cons_succ, sans, List.filter_cons]
    rw [if_pos (by rw [decide_eq_true_eq]; omega), h1]
    rfl
/-- A smaller set is one as well. -/
def smlB (xs : List Clm) (I : List Nat) : Bool := I.any fun x => repB xs (sans I x)
theorem sml_rep {xs : List Clm} {I : List Nat} (h : smlB xs I = true) : repB xs I = true := by
  unfold smlB at h
  rw [List.any_eq_true] at h
  obtain ⟨x, _, h⟩ := h
  exact rep_mono (fun i hi => by unfold sans at hi; exact (List.mem_filter.1 hi).1) h
theorem rep_or (xs : List Clm) (I : List Nat) : (smlB xs I || repB xs I) = repB xs I := by
  cases h : smlB xs I
  · rfl
  · rw [sml_rep h]; rfl
theorem min_sml {xs : List Clm} {I : List Nat} (hp : I.Pairwise (· < ·)) : minB xs I = (repB xs I && !smlB xs I) := by
  unfold minB
  congr 1
  rw [Bool.eq_iff_iff, List.all_eq_true, Bool.not_eq_true', Bool.eq_false_iff, smlB, ne_eq, List.any_eq_true]
  constructor
  · rintro h ⟨x, hx, h2⟩
    obtain ⟨i, hi, rfl⟩ := List.getElem_of_mem hx
    have h3 := h i (List.mem_range.2 hi)
    rw [erase_sans hp hi, h2] at h3
    cases h3
  · intro h i hi
    rw [List.mem_range] at hi
    rw [erase_sans hp hi, Bool.not_eq_true', Bool.eq_false_iff]
    exact fun h2 => h ⟨_, List.getElem_mem hi, h2⟩
end Go.Proofs.YtihhpmhigmegjaaGreatDoor
