/- The plain law of ShortestRest, joined. -/
import Derived.Test.YteffnidkkeeaiaaP2
import Derived.Test.YteffnidkkeeaiaaB8
namespace Go.Proofs.Yteffnidkkeeaiaa

theorem runR_snoc {ys : List Stp} {x : Stp} (h : isProc ys = true) (hx : inB x.2 0 7 = true) (ha : allowB (runR ys) ys.length x = true) : isProc (ys ++ [x]) = true ∧ runR (ys ++ [x]) = takeB (runR ys) x := by
  have h1 : isProc (ys ++ [x]) = true := by rw [next_law h x hx]; exact ha
  refine ⟨h1, ?_⟩
  have a := run_law (ys ++ [x])
  rw [if_pos h1, runI_app, run_law ys, if_pos h] at a
  simp only [Option.bind_some, Nat.zero_add] at a
  unfold runI at a
  simp only [hx, ha, Bool.and_self, if_true] at a
  simp only [runI] at a
  injection a with a
  exact a.symm
theorem runR_ok {ys : List Stp} (h : isProc ys = true) : StOk (runR ys) := by
  have h0 : 0 ≤ (runR ys).stage := by simp [isProc] at h; omega
  unfold runR at h0 ⊢
  cases hr : runS st0 ys with
  | none => rw [hr] at h0; simp at h0
  | some s => exact runS_ok st0_ok hr
theorem kid_some {day : Int} {ys z : List Stp} {kind : Nat} (hk : kind < 8) (h : isProc ys = true) (hz : kid day ys kind = some z) :
    isProc z = true ∧ z.length = ys.length + 1 ∧ runR z = takeB (runR ys) (dayS day (runR ys) kind, kind) ∧ z.take ys.length = ys ∧ allowB (runR ys) ys.length (dayS day (runR ys) kind, kind) = true := by
  unfold kid at hz
  split at hz
  · rename_i ha
    simp only [Option.some.injEq] at hz
    subst hz
    have hx : inB (kind : Int) 0 7 = true := by simp [inB]; omega
    obtain ⟨p, q⟩ := runR_snoc h (x := (earlyD day ys kind, kind)) hx ha
    exact ⟨p, by simp, q, by simp, ha⟩
  · cases hz
theorem kidsTo_succ (day : Int) (ys : List Stp) (k : Nat) : kidsTo day ys (k + 1) = kidsTo day ys k ++ (kid day ys k).toList := kidsTo.eq_2 day ys k
theorem mem_kidsTo (day : Int) (ys z : List Stp) (k : Nat) : z ∈ kidsTo day ys k ↔ ∃ kind : Nat, kind < k ∧ kid day ys kind = some z := by
  induction k with
  | zero => simp [kidsTo]
  | succ k ih =>
    rw [kidsTo_succ, List.mem_append, ih, Option.mem_toList]
    constructor
    · rintro (⟨j, h1, h2⟩ | h)
      · exact ⟨j, by omega, h2⟩
      · exact ⟨k, by omega, h⟩
    · rintro ⟨j, h1, h2⟩
      by_cases hj : j = k
      · subst hj; exact .inr h2
      · exact .inl ⟨j, by omega, h2⟩
theorem rest_ex (day o : Int) : ∀ (m : Nat) (ys : List Stp), isProc ys = true → ((restS day o m ys).isSome = true ↔ exS day o m (runR ys) ys.length)
  | 0, ys, _ => by
    simp only [restS, hit, exS]
    by_cases h : outcomeS (runR ys) = o <;> simp [h]
  | m + 1, ys, h => by
    simp only [restS, exS, List.findSome?_isSome_iff, kids]
    constructor
    · rintro ⟨z, hz, hr⟩
      obtain ⟨kind, hk, hkz⟩ := (mem_kidsTo day ys z 8).1 hz
      obtain ⟨p, l, q, _, ha⟩ := kid_some hk h hkz
      have := (rest_ex day o m z p).1 hr
      rw [q, l] at this
      exact ⟨kind, hk, ha, this⟩
    · rintro ⟨kind, hk, ha, hx⟩
      have hz : kid day ys kind = some (ys ++ [(dayS day (runR ys) kind, (kind : Int))]) := by
        unfold kid
        rw [if_pos (by exact ha)]
        rfl
      obtain ⟨p, l, q, _, _⟩ := kid_some hk h hz
      refine ⟨_, (mem_kidsTo day ys _ 8).2 ⟨kind, hk, hz⟩, (rest_ex day o m _ p).2 ?_⟩
      rw [q, l]
      exact hx

def firstTo {α : Type} (f : Nat → Option α) : Nat → Option α
  | 0 => none
  | k + 1 => match firstTo f k with | some z => some z | none => f k
theorem firstTo_none {α : Type} {f : Nat → Option α} (n : Nat) : firstTo f n = none ↔ ∀ m, m < n → f m = none := by
  induction n with
  | zero => simp [firstTo]
  | succ n ih =>
    unfold firstTo
    cases h : firstTo f n with
    | none =>
      simp only
      have := ih.1 h
      constructor
      · intro hf m hm
        by_cases he : m = n
        · subst he; exact hf
        · exact this m (by omega)
      · intro hf; exact hf n (by omega)
    | some z =>
      simp only [reduceCtorEq, false_iff]
      intro hf
      have : firstTo f n = none := ih.2 fun m hm => hf m (by omega)
      rw [h] at this; cases this
theorem firstTo_some {α : Type} {f : Nat → Option α} {n : Nat} {z : α} (h0 : firstTo f n = none) (h : f n = some z) (k : Nat) (hk : n < k) : firstTo f k = some z := by
  induction k with
  | zero => omega
  | succ k ih =>
    unfold firstTo
    by_cases hn : n = k
    · subst hn; rw [h0]; exact h
    · rw [ih (by omega)]
theorem levs_nil (day : Int) (n : Nat) : levs day [] n = [] := by
  induction n with
  | zero => rfl
  | succ n ih => simpa [levs] using ih
theorem levs_add (day : Int) (L : List (List Stp)) (n m : Nat) : levs day L (n + m) = levs day (levs day L n) m := by
  induction n generalizing L with
  | zero => simp [levs]
  | succ n ih => rw [show n + 1 + m = (n + m) + 1 from by omega]; simp only [levs]; exact ih _
theorem levs_succ (day : Int) (L : List (List Stp)) (n : Nat) : levs day L (n + 1) = (levs day L n).flatMap (kids day) := by
  rw [levs_add]; rfl
theorem rest_lev (day o : Int) (ys : List Stp) (n : Nat) : restS day o n ys = (levs day [ys] n).find? (hit o) := by
  rw [levs_find]; simp
/-- The first hit is on a level up to five, if there is one. -/
theorem first_hit {day o : Int} {ys z : List Stp} {n : Nat} (h : isProc ys = true) (hd : day ≤ 1000000000000) (ho : o = 1 ∨ o = -1) (h0 : firstTo (fun m => restS day o m ys) n = none) (hz : (levs day [ys] n).find? (hit o) = some z) :
    firstTo (fun m => restS day o m ys) 6 = some z := by
  have hf : (fun m => restS day o m ys) n = some z := by simp only; rw [rest_lev]; exact hz
  by_cases hn : n < 6
  · exact firstTo_some h0 hf 6 hn
  · have hx := (rest_ex day o n ys h).1 (by simp only at hf; rw [hf]; rfl)
    have hok : StOk (runR ys) := runR_ok h
    obtain ⟨k, hk, hx'⟩ := ex_five hok (by simp [isProc] at h; omega) hd ho hx
    have := (rest_ex day o k ys h).2 hx'
    have h1 := (firstTo_none n).1 h0 k (by omega)
    rw [h1] at this
    cases this
theorem first_end {day o : Int} {ys : List Stp} {n : Nat} (h0 : firstTo (fun m => restS day o m ys) n = none) (hz : levs day [ys] n = []) : firstTo (fun m => restS day o m ys) 6 = none := by
  rw [firstTo_none] at h0 ⊢
  intro m hm
  by_cases h : m < n
  · exact h0 m h
  · rw [rest_lev, show m = n + (m - n) from by omega, levs_add, hz, levs_nil]
    rfl
end Go.Proofs.Yteffnidkkeeaiaa
