/- The least number of changes: the plain law. -/
import Derived.Test.YtihhpmhigmegjaaDoorRows
import Derived.Test.YtihhpmhigmegjaaDoorL0
import Derived.Test.YtihhpmhigmegjaaDoorM0
import Derived.WalkKit
import Derived.ProofKit
import Derived.OpenShut
import Derived.BigQuiet
import Derived.Outline
import Derived.WalkSpells
import Derived.WalkLawsBesides
import Derived.Deep.DeepCutAuto
import Derived.Test.YtihhpmhigmegjaaDoorT1
namespace Go.Proofs.YtihhpmhigmegjaaDoor
open Go.ChangeShapes Go.WideShapes Go.ChangeAt Go.RowKit

def Bal.withC (b : Bal) (c : Int) : Bal := { b with choice := c }
/-- The reference's search. -/
def tryS (e : Int) (f : List Bal → List Bal → Bool) : List Bal → List Bal → Bool
  | _, [] => false
  | p, b :: r => (b.choice != e && f (p ++ [b.withC e]) r) || tryS e f (p ++ [b]) r
def extC (tgt : Bool) : Int := if tgt = true then 1 else -1
def turnS (rule : Int) (tgt : Bool) : Nat → List Bal → List Bal → Bool
  | 0, p, r => carB (p ++ r) rule == tgt
  | n + 1, p, r => (carB (p ++ r) rule == tgt) || tryS (extC tgt) (turnS rule tgt n) p r
/-- Some ballots have the choice e instead: k of them. -/
inductive Chg (e : Int) : Nat → List Bal → List Bal → Prop
  | nil : Chg e 0 [] []
  | keep {k r z} (b : Bal) : Chg e k r z → Chg e k (b :: r) (b :: z)
  | chg {k r z} (b : Bal) (h : b.choice ≠ e) : Chg e k r z → Chg e (k + 1) (b :: r) (b.withC e :: z)
theorem Chg.same {e : Int} : ∀ r : List Bal, Chg e 0 r r
  | [] => .nil
  | b :: r => .keep b (Chg.same r)
theorem Chg.zero {e : Int} {r z : List Bal} : Chg e 0 r z → z = r := by
  intro h
  generalize hk : 0 = k at h
  induction h with
  | nil => rfl
  | keep b _ ih => rw [ih hk]
  | chg b _ _ _ => omega
theorem try_iff {rule : Int} {tgt : Bool} {n : Nat} {f : List Bal → List Bal → Bool} (hf : ∀ p r, f p r = true ↔ ∃ z k, k ≤ n ∧ Chg (extC tgt) k r z ∧ carB (p ++ z) rule = tgt) :
    ∀ r p, tryS (extC tgt) f p r = true ↔ ∃ z k, 1 ≤ k ∧ k ≤ n + 1 ∧ Chg (extC tgt) k r z ∧ carB (p ++ z) rule = tgt
  | [], p => by
    constructor
    · intro h; rw [tryS] at h; cases h
    · rintro ⟨z, k, h1, _, h, _⟩
      cases h; omega
  | b :: r, p => by
    rw [tryS, Bool.or_eq_true, Bool.and_eq_true, hf, try_iff hf r]
    constructor
    · rintro (⟨hb, z, k, hk, hz, hc⟩ | ⟨z, k, h1, hk, hz, hc⟩)
      · exact ⟨b.withC (extC tgt) :: z, k + 1, by omega, by omega, .chg b (by simpa using hb) hz, by simpa using hc⟩
      · exact ⟨b :: z, k, h1, hk, .keep b hz, by simpa using hc⟩
    · rintro ⟨z, k, h1, hk, hz, hc⟩
      cases hz with
      | keep _ hz => exact .inr ⟨_, k, h1, hk, hz, by simpa using hc⟩
      | chg _ hb hz => exact .inl ⟨by simpa using hb, _, _, by omega, hz, by simpa using hc⟩
theorem turn_iff {rule : Int} {tgt : Bool} : ∀ n p r, turnS rule tgt n p r = true ↔ ∃ z k, k ≤ n ∧ Chg (extC tgt) k r z ∧ carB (p ++ z) rule = tgt
  | 0, p, r => by
    rw [turnS, beq_iff_eq]
    constructor
    · intro h; exact ⟨r, 0, by omega, .same r, h⟩
    · rintro ⟨z, k, hk, hz, hc⟩
      obtain rfl : k = 0 := by omega
      rw [hz.zero] at hc; exact hc
  | n + 1, p, r => by
    rw [turnS, Bool.or_eq_true, beq_iff_eq, try_iff (turn_iff n)]
    constructor
    · rintro (h | ⟨z, k, _, hk, hz, hc⟩)
      · exact ⟨r, 0, by omega, .same r, h⟩
      · exact ⟨z, k, hk, hz, hc⟩
    · rintro ⟨z, k, hk, hz, hc⟩
      rcases Nat.eq_zero_or_pos k with rfl | hp
      · rw [hz.zero] at hc; exact .inl hc
      · exact .inr ⟨z, k, hp, hk, hz, hc⟩

/-- What the program counts: the numbers of changes of all that differ from list in the outcome. -/
def Cnt (o : Bool) (rule : Int) : List Bal → List Bal → Int → Int → Prop
  | p, [], count, c => carB p rule ≠ o ∧ c = count
  | p, b :: r, count, c => ∃ ch : Int, -1 ≤ ch ∧ ch ≤ 1 ∧ Cnt o rule (p ++ [b.withC ch]) r (count + if ch = b.choice then 0 else 1) c
inductive Vot : Nat → List Bal → List Bal → Prop
  | nil : Vot 0 [] []
  | keep {k r z} (b : Bal) : Vot k r z → Vot k (b :: r) (b :: z)
  | chg {k r z} (b : Bal) (ch : Int) (h1 : -1 ≤ ch) (h2 : ch ≤ 1) (h : ch ≠ b.choice) : Vot k r z → Vot (k + 1) (b :: r) (b.withC ch :: z)
theorem withC_self {b : Bal} : b.withC b.choice = b := rfl
theorem cnt_iff {o : Bool} {rule : Int} : ∀ (r p : List Bal) (count c : Int), (∀ b ∈ r, -1 ≤ b.choice ∧ b.choice ≤ 1) → (Cnt o rule p r count c ↔ ∃ z k, Vot k r z ∧ carB (p ++ z) rule ≠ o ∧ c = count + (k : Int))
  | [], p, count, c, _ => by
    rw [Cnt]
    constructor
    · rintro ⟨h, rfl⟩; exact ⟨[], 0, .nil, by simpa using h, by simp⟩
    · rintro ⟨z, k, hz, hc, rfl⟩
      cases hz
      exact ⟨by simpa using hc, by simp⟩
  | b :: r, p, count, c, hb => by
    rw [Cnt]
    have ih := fun p count => cnt_iff (o := o) (rule := rule) r p count c (fun x hx => hb x (by simp [hx]))
    constructor
    · rintro ⟨ch, h1, h2, h⟩
      rw [ih] at h
      obtain ⟨z, k, hz, hc, rfl⟩ := h
      by_cases he : ch = b.choice
      · subst he
        exact ⟨b :: z, k, .keep b hz, by simpa [withC_self] using hc, by simp⟩
      · exact ⟨b.withC ch :: z, k + 1, .chg b ch h1 h2 he hz, by simpa using hc, by rw [if_neg he]; push_cast; omega⟩
    · rintro ⟨z, k, hz, hc, rfl⟩
      cases hz with
      | keep _ hz => exact ⟨b.choice, (hb b (by simp)).1, (hb b (by simp)).2, by rw [ih]; exact ⟨_, k, hz, by simpa [withC_self] using hc, by simp⟩⟩
      | chg _ ch h1 h2 he hz => exact ⟨ch, h1, h2, by rw [ih, if_neg he]; exact ⟨_, _, hz, by simpa using hc, by push_cast; omega⟩⟩
theorem vot_zero {r z : List Bal} : Vot 0 r z → z = r := by
  intro h
  generalize hk : 0 = k at h
  induction h with
  | nil => rfl
  | keep b _ ih => rw [ih hk]
  | chg b _ _ _ _ _ _ => omega
theorem vot_len {k : Nat} {r z : List Bal} (h : Vot k r z) : k ≤ r.length := by
  induction h <;> simp <;> omega
theorem chg_vot {e : Int} (h1 : -1 ≤ e) (h2 : e ≤ 1) {k : Nat} {r z : List Bal} (h : Chg e k r z) : Vot k r z := by
  induction h with
  | nil => exact .nil
  | keep b _ ih => exact .keep b ih
  | chg b h _ ih => exact .chg b e h1 h2 (fun he => h he.symm) ih
theorem sumB_cons (b : Bal) (r : List Bal) (c : Int) : sumB (b :: r) c = partB c b + sumB r c := by simp [sumB]
theorem vot_up {k : Nat} {r z : List Bal} (h : Vot k r z) (hw : ∀ b ∈ r, 0 ≤ b.weight) : ∃ z' k', k' ≤ k ∧ Chg 1 k' r z' ∧ sumB z 1 ≤ sumB z' 1 ∧ sumB z' (-1) ≤ sumB z (-1) := by
  induction h with
  | nil => exact ⟨[], 0, by omega, .nil, Int.le_refl _, Int.le_refl _⟩
  | keep b _ ih =>
    obtain ⟨z', k', hk, hz, s1, s2⟩ := ih (fun x hx => hw x (by simp [hx]))
    exact ⟨b :: z', k', hk, .keep b hz, by simp only [sumB_cons]; omega, by simp only [sumB_cons]; omega⟩
  | chg b ch h1 h2 he _ ih =>
    obtain ⟨z', k', hk, hz, s1, s2⟩ := ih (fun x hx => hw x (by simp [hx]))
    have hb := hw b (by simp)
    by_cases h : b.choice = 1
    · refine ⟨b :: z', k', by omega, .keep b hz, ?_, ?_⟩ <;> simp only [sumB_cons, partB, Bal.withC, h]
      · split <;> (first | omega | (simp; done) | (simp; omega))
      · split <;> (first | omega | (simp; done) | (simp; omega))
    · refine ⟨b.withC 1 :: z', k' + 1, by omega, .chg b h hz, ?_, ?_⟩ <;> simp only [sumB_cons, partB, Bal.withC]
      · split <;> (first | omega | (simp; done) | (simp; omega))
      · split <;> (first | omega | (simp; done) | (simp; omega))
theorem vot_down {k : Nat} {r z : List Bal} (h : Vot k r z) (hw : ∀ b ∈ r, 0 ≤ b.weight) : ∃ z' k', k' ≤ k ∧ Chg (-1) k' r z' ∧ sumB z' 1 ≤ sumB z 1 ∧ sumB z (-1) ≤ sumB z' (-1) := by
  induction h with
  | nil => exact ⟨[], 0, by omega, .nil, Int.le_refl _, Int.le_refl _⟩
  | keep b _ ih =>
    obtain ⟨z', k', hk, hz, s1, s2⟩ := ih (fun x hx => hw x (by simp [hx]))
    exact ⟨b :: z', k', hk, .keep b hz, by simp only [sumB_cons]; omega, by simp only [sumB_cons]; omega⟩
  | chg b ch h1 h2 he _ ih =>
    obtain ⟨z', k', hk, hz, s1, s2⟩ := ih (fun x hx => hw x (by simp [hx]))
    have hb := hw b (by simp)
    by_cases h : b.choice = -1
    · refine ⟨b :: z', k', by omega, .keep b hz, ?_, ?_⟩ <;> simp only [sumB_cons, partB, Bal.withC, h]
      · split <;> (first | omega | (simp; done) | (simp; omega))
      · split <;> (first | omega | (simp; done) | (simp; omega))
    · refine ⟨b.withC (-1) :: z', k' + 1, by omega, .chg b h hz, ?_, ?_⟩ <;> simp only [sumB_cons, partB, Bal.withC]
      · split <;> (first | omega | (simp; done) | (simp; omega))
      · split <;> (first | omega | (simp; done) | (simp; omega))
theorem sum_nonneg {z : List Bal} (h : ∀ b ∈ z, 0 ≤ b.weight) (c : Int) : 0 ≤ sumB z c := by
  induction z with
  | nil => simp [sumB]
  | cons b r ih =>
    have := ih (fun x hx => h x (by simp [hx]))
    have := h b (by simp)
    rw [sumB_cons, partB]; split <;> omega
theorem chg_weight {e : Int} {k : Nat} {r z : List Bal} (h : Chg e k r z) (hw : ∀ b ∈ r, 0 ≤ b.weight) : ∀ b ∈ z, 0 ≤ b.weight := by
  induction h with
  | nil => exact hw
  | keep b _ ih =>
    intro x hx
    rcases List.mem_cons.1 hx with rfl | hx
    · exact hw x (by simp)
    · exact ih (fun y hy => hw y (by simp [hy])) x hx
  | chg b _ _ ih =>
    intro x hx
    rcases List.mem_cons.1 hx with rfl | hx
    · exact hw b (by simp)
    · exact ih (fun y hy => hw y (by simp [hy])) x hx
theorem car_mono {z z' : List Bal} {rule : Int} (h1 : sumB z 1 ≤ sumB z' 1) (h2 : sumB z' (-1) ≤ sumB z (-1)) (h0 : 0 ≤ sumB z' (-1)) (h : carB z rule = true) : carB z' rule = true := by
  rw [carB_eq] at h ⊢
  split at h
  · rename_i hr; rw [if_pos hr]; simp at h ⊢; omega
  · rename_i hr; rw [if_neg hr]
    split at h
    · rename_i hr'; rw [if_pos hr']; simp at h ⊢; omega
    · rename_i hr'; rw [if_neg hr']; simp at h ⊢; omega
theorem turn_cnt {xs : List Bal} {rule : Int} (hw : ∀ b ∈ xs, 0 ≤ b.weight) (hc : ∀ b ∈ xs, -1 ≤ b.choice ∧ b.choice ≤ 1) (n : Nat) :
    turnS rule (!carB xs rule) n [] xs = true ↔ ∃ c : Int, c ≤ n ∧ Cnt (carB xs rule) rule [] xs 0 c := by
  rw [turn_iff]
  constructor
  · rintro ⟨z, k, hk, hz, h⟩
    refine ⟨k, by omega, (cnt_iff xs [] 0 k hc).2 ⟨z, k, chg_vot ?_ ?_ hz, by rw [h]; cases carB xs rule <;> decide, by simp⟩⟩
    · unfold extC; split <;> omega
    · unfold extC; split <;> omega
  · rintro ⟨c, hcn, h⟩
    obtain ⟨z, k, hz, hne, rfl⟩ := (cnt_iff xs [] 0 c hc).1 h
    simp only [List.nil_append] at hne ⊢
    cases ho : carB xs rule with
    | false =>
      rw [ho] at hne
      obtain ⟨z', k', hk', hz', s1, s2⟩ := vot_up hz hw
      exact ⟨z', k', by omega, hz', car_mono s1 s2 (sum_nonneg (chg_weight hz' hw) _) (by simpa using hne)⟩
    | true =>
      rw [ho] at hne
      obtain ⟨z', k', hk', hz', s1, s2⟩ := vot_down hz hw
      refine ⟨z', k', by omega, hz', ?_⟩
      cases hq : carB z' rule with
      | false => rfl
      | true =>
        have hwz : 0 ≤ sumB z (-1) := by
          have : ∀ {k r z}, Vot k r z → (∀ b ∈ r, 0 ≤ b.weight) → ∀ b ∈ z, 0 ≤ b.weight := by
            intro k r z h hw
            induction h with
            | nil => exact hw
            | keep b _ ih =>
              intro x hx
              rcases List.mem_cons.1 hx with rfl | hx
              · exact hw x (by simp)
              · exact ih (fun y hy => hw y (by simp [hy])) x hx
            | chg b _ _ _ _ _ ih =>
              intro x hx
              rcases List.mem_cons.1 hx with rfl | hx
              · exact hw b (by simp)
              · exact ih (fun y hy => hw y (by simp [hy])) x hx
          exact sum_nonneg (this hz hw) _
        exact absurd (car_mono s1 s2 hwz hq) (by simpa using hne)

/-- The least of a set of numbers, -1 if it is empty. -/
def LeastOf (l : Int) (D : Int → Prop) : Prop := (l = -1 ∧ ∀ c, ¬ D c) ∨ (0 ≤ l ∧ D l ∧ ∀ c, D c → l ≤ c)
def leastT (xs : List Bal) (rule : Int) : Int × Int := match (List.range xs.length).find? (fun m => turnS rule (!carB xs rule) (m + 1) [] xs) with
  | some m => ((m : Int) + 1, 0)
  | none => (0, 4)
theorem least_eq {xs : List Bal} {rule l : Int} (hw : ∀ b ∈ xs, 0 ≤ b.weight) (hc : ∀ b ∈ xs, -1 ≤ b.choice ∧ b.choice ≤ 1) (h : LeastOf l (Cnt (carB xs rule) rule [] xs 0)) :
    leastT xs rule = if l < 0 then (0, 4) else (l, 0) := by
  have key := turn_cnt (rule := rule) hw hc
  rcases h with ⟨rfl, hno⟩ | ⟨h0, hl, hmin⟩
  · rw [if_pos (by omega), leastT]
    rw [List.find?_eq_none.2 (fun m _ ht => by obtain ⟨c, _, hcc⟩ := (key (m + 1)).1 ht; exact hno c hcc)]
  · rw [if_neg (by omega), leastT]
    obtain ⟨z, k, hz, hne, rfl⟩ := (cnt_iff xs [] 0 l hc).1 hl
    have hk : k ≠ 0 := by
      rintro rfl
      rw [vot_zero hz] at hne
      exact hne rfl
    have hlen := vot_len hz
    have hf : (List.range xs.length).find? (fun m => turnS rule (!carB xs rule) (m + 1) [] xs) = some (k - 1) := by
      rw [List.find?_range_eq_some]
      refine ⟨(key _).2 ⟨_, by omega, hl⟩, by simp; omega, fun j hj => ?_⟩
      rw [Bool.not_eq_true']
      cases ht : turnS rule (!carB xs rule) (j + 1) [] xs with
      | false => rfl
      | true =>
        obtain ⟨c, hcj, hcc⟩ := (key _).1 ht
        have := hmin c hcc
        omega
    rw [hf]
    simp; omega
end Go.Proofs.YtihhpmhigmegjaaDoor
