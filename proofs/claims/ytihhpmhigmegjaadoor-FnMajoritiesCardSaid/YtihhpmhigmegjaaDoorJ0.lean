/- The smallest majority: the plain law. -/
import Derived.Test.YtihhpmhigmegjaaDoorRows
import Derived.Test.YtihhpmhigmegjaaDoorL0
import Derived.Test.YtihhpmhigmegjaaDoorM0
import Derived.WalkKit
import Derived.ProofKit
import Derived.OpenShut
import Derived.BigQuiet
import Derived.Outline
import Derived.WalkSpells
import Derived.WalkLawsBesides
import Derived.Deep.DeepCutAuto
import Derived.Test.YtihhpmhigmegjaaDoorT1
import Derived.Test.YtihhpmhigmegjaaDoorI4
import Derived.Test.YtihhpmhigmegjaaDoorU1
namespace Go.Proofs.YtihhpmhigmegjaaDoor
open Go.ChangeShapes Go.WideShapes Go.ChangeAt Go.RowKit

/-- The first answer of f from i on, k tries. -/
def seek {α : Type} (f : Nat → Option α) : Nat → Nat → Option α
  | 0, _ => none
  | k + 1, i => match f i with
    | some x => some x
    | none => seek f k (i + 1)
theorem seek_none {α : Type} {f : Nat → Option α} : ∀ {k i : Nat}, seek f k i = none → ∀ j, i ≤ j → j < i + k → f j = none
  | 0, i, _, j, h1, h2 => by omega
  | k + 1, i, h, j, h1, h2 => by
    rw [seek] at h
    cases hf : f i with
    | some x => rw [hf] at h; cases h
    | none =>
      rw [hf] at h
      by_cases hj : j = i
      · rw [hj]; exact hf
      · exact seek_none h j (by omega) (by omega)
theorem seek_some {α : Type} {f : Nat → Option α} {x : α} : ∀ {k i : Nat}, seek f k i = some x → ∃ j, i ≤ j ∧ j < i + k ∧ f j = some x ∧ ∀ m, i ≤ m → m < j → f m = none
  | 0, i, h => by rw [seek] at h; cases h
  | k + 1, i, h => by
    rw [seek] at h
    cases hf : f i with
    | some y =>
      rw [hf] at h
      exact ⟨i, Nat.le_refl _, by omega, by rw [hf]; exact h, fun m h1 h2 => by omega⟩
    | none =>
      rw [hf] at h
      obtain ⟨j, h1, h2, h3, h4⟩ := seek_some h
      refine ⟨j, by omega, by omega, h3, fun m hm1 hm2 => ?_⟩
      by_cases hm : m = i
      · rw [hm]; exact hf
      · exact h4 m (by omega) hm2
/-- A list of increasing numbers in [f, n). -/
def Inc (n : Nat) : Nat → List Nat → Prop
  | _, [] => True
  | f, i :: I => f ≤ i ∧ i < n ∧ Inc n (i + 1) I
def lexL : List Nat → List Nat → Bool
  | _, [] => false
  | [], _ :: _ => true
  | a :: I, b :: J => decide (a < b) || (a == b && lexL I J)
theorem lexL_self : ∀ I, lexL I I = false
  | [] => rfl
  | a :: I => by simp [lexL, lexL_self I]
theorem lexL_tri : ∀ {I J : List Nat}, I.length = J.length → lexL I J = false → lexL J I = false → I = J
  | [], [], _, _, _ => rfl
  | [], _ :: _, h, _, _ => by simp at h
  | _ :: _, [], h, _, _ => by simp at h
  | a :: I, b :: J, h, h1, h2 => by
    simp [lexL] at h1 h2
    obtain rfl : a = b := by omega
    have := lexL_tri (I := I) (J := J) (by simpa using h) (by simpa using h1) (by simpa using h2)
    rw [this]
theorem Inc.weak {n : Nat} : ∀ {f g : Nat} {I : List Nat}, g ≤ f → Inc n f I → Inc n g I
  | _, _, [], _, _ => trivial
  | _, _, _ :: _, h, hi => ⟨by have := hi.1; omega, hi.2⟩
theorem Inc.mem {n : Nat} : ∀ {f : Nat} {I : List Nat}, Inc n f I → ∀ i ∈ I, f ≤ i ∧ i < n
  | _, [], _, i, h => by simp at h
  | f, a :: I, hi, i, h => by
    rcases List.mem_cons.1 h with rfl | h
    · exact ⟨hi.1, hi.2.1⟩
    · have := Inc.mem hi.2.2 i h
      have := hi.1
      omega
theorem Inc.len {n : Nat} : ∀ {f : Nat} {I : List Nat}, Inc n f I → f ≤ n → I.length + f ≤ n
  | _, [], _, h => by simpa using h
  | f, a :: I, hi, h => by
    have := Inc.len hi.2.2 (by have := hi.2.1; omega)
    have := hi.1
    simp; omega
theorem inc_ext {n : Nat} : ∀ {f : Nat} {I J : List Nat}, Inc n f I → Inc n f J → (∀ i, i ∈ I ↔ i ∈ J) → I = J
  | _, [], [], _, _, _ => rfl
  | _, [], b :: J, _, _, h => by have := (h b).2 (by simp); simp at this
  | _, a :: I, [], _, _, h => by have := (h a).1 (by simp); simp at this
  | f, a :: I, b :: J, hi, hj, h => by
    have hI := hi.2.2.mem
    have hJ := hj.2.2.mem
    have hab : a = b := by
      rcases List.mem_cons.1 ((h a).1 (by simp)) with h1 | h1
      · exact h1
      · rcases List.mem_cons.1 ((h b).2 (by simp)) with h2 | h2
        · exact h2.symm
        · have := hI b h2; have := hJ a h1; omega
    subst hab
    have e : I = J := inc_ext hi.2.2 hj.2.2 (fun i => ?_)
    · rw [e]
    constructor
    · intro h1
      rcases List.mem_cons.1 ((h i).1 (by simp [h1])) with rfl | h2
      · have := hI i h1; omega
      · exact h2
    · intro h1
      rcases List.mem_cons.1 ((h i).2 (by simp [h1])) with rfl | h2
      · have := hJ i h1; omega
      · exact h2

/-- The reference's search: m numbers more, from fr on. -/
def fewI (n : Nat) (good : List Nat → Bool) : Nat → List Nat → Nat → Option (List Nat)
  | 0, ch, _ => if good ch = true then some ch else none
  | m + 1, ch, fr => seek (fun i => fewI n good m (ch ++ [i]) (i + 1)) (n - fr) fr
theorem few_none {n : Nat} {good : List Nat → Bool} : ∀ {m : Nat} {ch : List Nat} {fr : Nat}, fewI n good m ch fr = none → ∀ I, I.length = m → Inc n fr I → good (ch ++ I) = false
  | 0, ch, fr, h, I, hl, _ => by
    obtain rfl : I = [] := List.eq_nil_of_length_eq_zero hl
    rw [fewI] at h
    split at h
    · cases h
    · simp_all
  | m + 1, ch, fr, h, I, hl, hi => by
    rw [fewI] at h
    cases I with
    | nil => simp at hl
    | cons i I =>
      have h2 := seek_none h i hi.1 (by have := hi.1; have := hi.2.1; omega)
      have := few_none h2 I (by simpa using hl) hi.2.2
      simpa using this
theorem few_some {n : Nat} {good : List Nat → Bool} : ∀ {m : Nat} {ch : List Nat} {fr : Nat} {out : List Nat}, fewI n good m ch fr = some out →
    ∃ I, out = ch ++ I ∧ I.length = m ∧ Inc n fr I ∧ good out = true ∧ ∀ J, J.length = m → Inc n fr J → good (ch ++ J) = true → lexL J I = false
  | 0, ch, fr, out, h => by
    rw [fewI] at h
    split at h
    · cases h
      refine ⟨[], by simp, rfl, trivial, ‹_›, fun J _ _ _ => by cases J <;> rfl⟩
    · cases h
  | m + 1, ch, fr, out, h => by
    rw [fewI] at h
    obtain ⟨j, h1, h2, h3, h4⟩ := seek_some h
    obtain ⟨I, e, hl, hi, hg, hm⟩ := few_some h3
    refine ⟨j :: I, by simp [e], by simp [hl], ⟨h1, by omega, hi⟩, hg, fun J hJ hJi hJg => ?_⟩
    cases J with
    | nil => simp at hJ
    | cons a J =>
      by_cases haj : a < j
      · have := few_none (h4 a hJi.1 haj) J (by simpa using hJ) hJi.2.2
        rw [show ch ++ a :: J = (ch ++ [a]) ++ J by simp] at hJg
        rw [this] at hJg
        cases hJg
      · by_cases hej : a = j
        · subst hej
          have := hm J (by simpa using hJ) hJi.2.2 (by simpa using hJg)
          simp [lexL, this]
        · simp [lexL]; omega
/-- The first number of members that is enough. -/
def fewest (n : Nat) (good : List Nat → Bool) : Option (List Nat) := seek (fun m => fewI n good m [] 0) n 1

theorem inc_filter {n : Nat} (p : Nat → Bool) : ∀ k f, f + k = n → Inc n f ((List.range' f k).filter p)
  | 0, _, _ => trivial
  | k + 1, f, h => by
    rw [List.range'_succ, List.filter_cons]
    split
    · exact ⟨Nat.le_refl _, by omega, inc_filter p k (f + 1) (by omega)⟩
    · exact (inc_filter p k (f + 1) (by omega)).weak (by omega)
theorem bits_inc (n b : Nat) : Inc n 0 (bitsI n b) := by
  unfold bitsI
  rw [List.range_eq_range']
  exact inc_filter _ n 0 (by omega)
theorem bits_all {n : Nat} : ∀ {I : List Nat} {f : Nat}, Inc n f I → ∃ b, b < 2 ^ n ∧ ∀ i, b.testBit i = decide (i ∈ I)
  | [], _, _ => ⟨0, Nat.pow_pos (by omega), fun i => by simp⟩
  | a :: I, f, h => by
    obtain ⟨b, hb, hi⟩ := bits_all h.2.2
    refine ⟨b ||| 2 ^ a, Nat.or_lt_two_pow hb (Nat.pow_lt_pow_right (by omega) h.2.1), fun i => ?_⟩
    rw [Nat.testBit_or, hi, Nat.testBit_two_pow]
    by_cases hia : a = i
    · subst hia; simp
    · simp [hia, Ne.symm hia, eq_comm]
theorem bits_onto {n : Nat} {I : List Nat} (h : Inc n 0 I) : ∃ b, b < 2 ^ n ∧ bitsI n b = I := by
  obtain ⟨b, hb, hi⟩ := bits_all h
  refine ⟨b, hb, inc_ext (bits_inc n b) h fun i => ?_⟩
  simp only [bitsI, List.mem_filter, List.mem_range, hi, decide_eq_true_eq]
  exact ⟨fun h => h.2, fun hm => ⟨(h.mem i hm).2, hm⟩⟩
/-- The program's order of lists. -/
def ltI (I J : List Nat) : Bool := decide (I.length < J.length) || (I.length == J.length && lexL I J)
def bestI (n : Nat) (good : List Nat → Bool) : Nat → List Nat
  | 0 => []
  | b + 1 => if ((bestI n good b == [] || ltI (bitsI n b) (bestI n good b)) && good (bitsI n b)) = true then bitsI n b else bestI n good b
theorem lexL_trans : ∀ {I J K : List Nat}, lexL I J = true → lexL J K = true → lexL I K = true
  | _, [], _, h, _ => by cases ‹List Nat› <;> simp [lexL] at h
  | _, _ :: _, [], _, h => by simp [lexL] at h
  | [], _ :: _, _ :: _, _, _ => rfl
  | a :: I, b :: J, c :: K, h1, h2 => by
    simp [lexL] at h1 h2 ⊢
    rcases h1 with h1 | ⟨rfl, h1⟩ <;> rcases h2 with h2 | ⟨rfl, h2⟩
    · exact .inl (by omega)
    · exact .inl h1
    · exact .inl h2
    · exact .inr ⟨rfl, lexL_trans h1 h2⟩
theorem ltI_trans {I J K : List Nat} (h1 : ltI I J = true) (h2 : ltI J K = true) : ltI I K = true := by
  simp [ltI] at h1 h2 ⊢
  rcases h1 with h1 | ⟨e1, h1⟩ <;> rcases h2 with h2 | ⟨e2, h2⟩
  · exact .inl (by omega)
  · exact .inl (by omega)
  · exact .inl (by omega)
  · exact .inr ⟨by omega, lexL_trans h1 h2⟩
theorem ltI_self (I : List Nat) : ltI I I = false := by simp [ltI, lexL_self]
theorem best_spec {n : Nat} {good : List Nat → Bool} (h0 : good [] = false) : ∀ m,
    (bestI n good m = [] ∧ ∀ b, b < m → good (bitsI n b) = false) ∨
    (bestI n good m ≠ [] ∧ good (bestI n good m) = true ∧ Inc n 0 (bestI n good m) ∧ ∀ b, b < m → good (bitsI n b) = true → ltI (bitsI n b) (bestI n good m) = false)
  | 0 => .inl ⟨rfl, fun b hb => by omega⟩
  | m + 1 => by
    have ih := best_spec (n := n) h0 m
    rw [bestI]
    cases hg : good (bitsI n m) with
    | false =>
      simp only [Bool.and_false, Bool.false_eq_true, if_false]
      rcases ih with ⟨h1, h2⟩ | ⟨h1, h2, h3, h4⟩
      · refine .inl ⟨h1, fun b hb => ?_⟩
        by_cases hbm : b = m
        · rw [hbm]; exact hg
        · exact h2 b (by omega)
      · refine .inr ⟨h1, h2, h3, fun b hb hgb => ?_⟩
        by_cases hbm : b = m
        · rw [hbm, hg] at hgb; cases hgb
        · exact h4 b (by omega) hgb
    | true =>
      have hne : bitsI n m ≠ [] := fun h => by rw [h, h0] at hg; cases hg
      simp only [Bool.and_true]
      rcases ih with ⟨h1, h2⟩ | ⟨h1, h2, h3, h4⟩
      · rw [if_pos (by simp [h1])]
        refine .inr ⟨hne, hg, bits_inc n m, fun b hb hgb => ?_⟩
        by_cases hbm : b = m
        · rw [hbm]; exact ltI_self _
        · rw [h2 b (by omega)] at hgb; cases hgb
      · cases hl : ltI (bitsI n m) (bestI n good m) with
        | false =>
          rw [if_neg (by simp [h1])]
          refine .inr ⟨h1, h2, h3, fun b hb hgb => ?_⟩
          by_cases hbm : b = m
          · rw [hbm]; exact hl
          · exact h4 b (by omega) hgb
        | true =>
          rw [if_pos (by simp)]
          refine .inr ⟨hne, hg, bits_inc n m, fun b hb hgb => ?_⟩
          by_cases hbm : b = m
          · rw [hbm]; exact ltI_self _
          · cases hq : ltI (bitsI n b) (bitsI n m) with
            | false => rfl
            | true => exact absurd (ltI_trans hq hl) (by rw [h4 b (by omega) hgb]; decide)
/-- The program's answer is the reference's. -/
theorem best_fewest {n : Nat} {good : List Nat → Bool} (h0 : good [] = false) :
    fewest n good = if bestI n good (2 ^ n) = [] then none else some (bestI n good (2 ^ n)) := by
  rcases best_spec (n := n) h0 (2 ^ n) with ⟨h1, h2⟩ | ⟨h1, h2, h3, h4⟩
  · rw [if_pos h1]
    cases hf : fewest n good with
    | none => rfl
    | some out =>
      obtain ⟨j, _, _, h3, _⟩ := seek_some hf
      obtain ⟨I, e, _, hi, hg, _⟩ := few_some h3
      obtain ⟨b, hb, hbI⟩ := bits_onto hi
      have := h2 b hb
      rw [hbI] at this
      rw [e, List.nil_append, this] at hg
      cases hg
  · rw [if_neg h1]
    have hmin : ∀ I, Inc n 0 I → good I = true → ltI I (bestI n good (2 ^ n)) = false := fun I hi hg => by
      obtain ⟨b, hb, hbI⟩ := bits_onto hi
      have := h4 b hb
      rw [hbI] at this
      exact this hg
    generalize bestI n good (2 ^ n) = B at *
    have hlen := h3.len (by omega)
    have hpos : 0 < B.length := by cases B; exact absurd rfl h1; simp
    cases hf : fewest n good with
    | none =>
      have hn := seek_none hf B.length (by omega) (by omega)
      have := few_none hn B rfl h3
      rw [List.nil_append, h2] at this
      cases this
    | some out =>
      obtain ⟨j, j1, j2, h5, h6⟩ := seek_some hf
      obtain ⟨I, e, hl, hi, hg, hm⟩ := few_some h5
      rw [List.nil_append] at e
      subst e
      have hlt := hmin out hi hg
      have hle : B.length = j := by
        rcases Nat.lt_trichotomy B.length j with h | h | h
        · have := few_none (h6 B.length (by omega) h) B rfl h3
          rw [List.nil_append, h2] at this
          cases this
        · exact h
        · simp [ltI] at hlt; omega
      have h7 := hm B hle h3 (by simpa using h2)
      have h8 : lexL out B = false := by simp [ltI, hl, hle] at hlt; exact hlt
      rw [lexL_tri (by omega) h8 h7]

/-- The ballots in which those with some indices are for, and all others against: the first k. -/
def castTo (xs : List Bal) (I : List Nat) : Nat → List Bal
  | 0 => []
  | k + 1 => castTo xs I k ++ (match xs[k]? with | some b => [{ b with choice := if k ∈ I then 1 else -1 }] | none => [])
def castB (xs : List Bal) (I : List Nat) : List Bal := castTo xs I xs.length
theorem castTo_step {xs : List Bal} {I : List Nat} {k : Nat} (h : k < xs.length) : castTo xs I (k + 1) = castTo xs I k ++ [{ xs[k] with choice := if k ∈ I then 1 else -1 }] := by
  rw [castTo, List.getElem?_eq_getElem h]
theorem castTo_len (xs : List Bal) (I : List Nat) : ∀ k, k ≤ xs.length → (castTo xs I k).length = k
  | 0, _ => rfl
  | k + 1, h => by rw [castTo_step (by omega), List.length_append, castTo_len xs I k (by omega)]; rfl
theorem castTo_mem (xs : List Bal) (I : List Nat) : ∀ k, ∀ b ∈ castTo xs I k, ∃ b' ∈ xs, b.weight = b'.weight ∧ b.name = b'.name
  | 0, b, h => by simp [castTo] at h
  | k + 1, b, h => by
    rw [castTo, List.mem_append] at h
    rcases h with h | h
    · exact castTo_mem xs I k b h
    · cases hx : xs[k]? with
      | none => rw [hx] at h; simp at h
      | some y =>
        rw [hx] at h
        simp at h
        subst h
        exact ⟨y, List.mem_of_getElem? hx, rfl, rfl⟩
theorem fits_cast {xs : List Bal} (h : Fits xs) (I : List Nat) : Fits (castB xs I) := by
  refine ⟨by rw [castB, castTo_len _ _ _ (Nat.le_refl _)]; exact h.1, fun b hb => ?_⟩
  obtain ⟨b', hb', e, _⟩ := castTo_mem xs I _ b hb
  rw [e]; exact h.2 b' hb'
theorem castB_len (xs : List Bal) (I : List Nat) : (castB xs I).length = xs.length := castTo_len _ _ _ (Nat.le_refl _)
def goodB (xs : List Bal) (rule : Int) (I : List Nat) : Bool := carB (castB xs I) rule
theorem sumB_app (xs ys : List Bal) (c : Int) : sumB (xs ++ ys) c = sumB xs c + sumB ys c := by
  induction xs with
  | nil => simp [sumB]
  | cons x r ih => simp [sumB] at ih ⊢; omega
theorem cast_none (xs : List Bal) : ∀ k, sumB (castTo xs [] k) 1 = 0
  | 0 => rfl
  | k + 1 => by
    rw [castTo, sumB_app, cast_none xs k]
    cases xs[k]? with
    | none => rfl
    | some b => simp [sumB, partB]
theorem good_nil {xs : List Bal} {rule : Int} (hw : ∀ b ∈ xs, 0 ≤ b.weight) : goodB xs rule [] = false := by
  have h1 := cast_none xs xs.length
  have h2 : 0 ≤ sumB (castTo xs [] xs.length) (-1) := by
    have : ∀ ys : List Bal, (∀ b ∈ ys, 0 ≤ b.weight) → 0 ≤ sumB ys (-1) := by
      intro ys
      induction ys with
      | nil => intro _; exact Int.le_refl _
      | cons x r ih =>
        intro h
        have := ih (fun b hb => h b (by simp [hb]))
        have hx := h x (by simp)
        simp [sumB, partB] at this ⊢
        split <;> omega
    refine this _ fun b hb => ?_
    obtain ⟨b', hb', e, _⟩ := castTo_mem xs [] _ b hb
    rw [e]; exact hw b' hb'
  unfold goodB castB
  rw [carB_eq]
  generalize sumB (castTo xs [] xs.length) (-1) = g at h2
  rw [h1]
  split
  · simp; omega
  · split <;> simp
end Go.Proofs.YtihhpmhigmegjaaDoor
