/- The plain law of FnProcedures. -/
import Derived.Test.YteffnidkkeeaiaaP4
import Derived.Test.YteffnidkkeeaiaaS3
namespace Go.Proofs.Yteffnidkkeeaiaa

theorem mem_nextTo (xs : List Stp) (d : Int) (x : Int) (n : Nat) : x ∈ nextTo xs d n ↔ ∃ j : Nat, j < n ∧ x = j ∧ isProc (xs ++ [(d, (j : Int))]) = true := by
  induction n with
  | zero => simp [nextTo]
  | succ n ih =>
    rw [nextTo, List.mem_append, ih]
    constructor
    · rintro (⟨j, h1, h2, h3⟩ | h)
      · exact ⟨j, by omega, h2, h3⟩
      · split at h
        · simp at h; exact ⟨n, by omega, h, ‹_›⟩
        · simp at h
    · rintro ⟨j, h1, h2, h3⟩
      by_cases hj : j = n
      · subst hj
        right
        rw [if_pos h3]; simp [h2]
      · exact .inl ⟨j, by omega, h2, h3⟩
theorem next_has {xs : List Stp} {d : Int} (hc : codeB xs d = 0) (k : Nat) (hk : k < 8) : decide ((k : Int) ∈ (nextR xs d).1) = isProc (xs ++ [(d, (k : Int))]) := by
  have e : (nextR xs d).1 = nextTo xs d 8 := by rw [nextR, if_pos hc]
  rw [e, Bool.eq_iff_iff, decide_eq_true_iff, mem_nextTo]
  constructor
  · rintro ⟨j, _, h2, h3⟩
    have : j = k := by omega
    subst this; exact h3
  · intro h; exact ⟨k, hk, rfl, h⟩
theorem next_code (xs : List Stp) (d : Int) : (nextR xs d).2 = codeB xs d := by
  unfold nextR; split
  · rename_i h; simp [h]
  · rfl
theorem take_code {xs : List Stp} {d k : Int} (hc : codeB xs d = 0) : ((takeR xs (d, k)).2 == 0) = isProc (xs ++ [(d, k)]) := by
  have hc' : codeB xs ((d, k) : Stp).1 = 0 := hc
  rw [takeR, if_pos hc']
  split
  · rename_i h; rw [h]; rfl
  · rename_i h; simp at h; rw [h]; rfl
theorem fit_any (xs : List Stp) : Fit (runR xs) := by
  unfold runR
  cases hr : runS st0 xs with
  | none => exact ⟨by decide, by decide, by decide, by decide, by decide, by decide⟩
  | some s => have := runS_ok st0_ok hr; rw [StOk] at this; exact this.2.2
theorem out_final (s : St) : (outcomeS s != 0) = (s.stage == 5) := by
  unfold outcomeS
  by_cases h : s.stage = 5
  · rw [if_pos h, h]
    split <;> rfl
  · rw [if_neg h]
    simp [h]
theorem chance_nonneg (xs : List Stp) : 0 ≤ chanceV (runR xs) := by
  obtain ⟨a1, a2, a3, a4, a5, a6⟩ := fit_any xs
  unfold chanceV
  (repeat' split) <;> omega
/-- The last chance: on its day the step may be taken, on the next it may not. -/
theorem chance_law {zs : List Stp} (hp : isProc zs = true) (hch : chanceE (runR zs) = 0) (h12 : zs.length < 12) (k : Nat) (hk : k = if (runR zs).stage = 3 then 4 else 1) :
    0 < zs.length ∧ (codeB zs (chanceV (runR zs)) = 0 → lastD zs ≤ chanceV (runR zs) → (k : Int) ∈ (nextR zs (chanceV (runR zs))).1) ∧
    (chanceV (runR zs) < 1000000000000 → codeB zs (chanceV (runR zs) + 1) = 0 → (k : Int) ∉ (nextR zs (chanceV (runR zs) + 1)).1) := by
  have ok := runR_ok hp
  rw [StOk] at ok
  obtain ⟨s1, s2, f0, f1, f2, f3, f4, f5⟩ := ok
  have hst : (runR zs).stage = 1 ∨ (runR zs).stage = 2 ∨ (runR zs).stage = 3 := by
    unfold chanceE at hch; split at hch
    · assumption
    · cases hch
  have hpos : 0 < zs.length := by
    rcases Nat.eq_zero_or_pos zs.length with h | h
    · have : zs = [] := List.length_eq_zero_iff.1 h
      subst this
      simp [runR, runS, st0] at hst
    · exact h
  have hl : lastD zs = (runR zs).last := by
    obtain ⟨ys, x, rfl⟩ : ∃ ys x, zs = ys ++ [x] := ⟨zs.dropLast, zs.getLast (by intro e; simp [e] at hpos), (List.dropLast_concat_getLast _).symm⟩
    rw [lastD_snoc, last_snoc hp]
  have hx : ∀ d : Int, inB ((d, (k : Int)) : Stp).2 0 7 = true := fun d => by
    simp only [inB, Bool.and_eq_true, decide_eq_true_eq]; rw [hk]; split <;> omega
  have hk8 : k < 8 := by rw [hk]; split <;> omega
  have key : ∀ d, allowB (runR zs) zs.length (d, (k : Int)) = true ↔ zs.length < 12 ∧ max (winL (runR zs) k) (runR zs).last ≤ d ∧ d ≤ min (winH (runR zs) k) 1000000000000 := fun d => allow_iff _ _ _ _
  have hlen := h12
  refine ⟨hpos, fun hc hd => ?_, fun hlt hc hmem => ?_⟩
  · have := next_has hc k hk8
    rw [next_law hp _ (hx _)] at this
    refine of_decide_eq_true (this.trans ((key _).2 ⟨hlen, ?_⟩))
    rw [hl] at hd
    clear this key hx hc hch
    generalize runR zs = s at *
    unfold chanceV winL winH at *
    rcases hst with h | h | h <;> simp [h] at hk hd ⊢ <;> subst hk <;> simp <;> omega
  · have := next_has hc k hk8
    rw [next_law hp _ (hx _), decide_eq_true hmem] at this
    have h3 := (key _).1 this.symm
    clear this key hx hc hch hmem
    generalize runR zs = s at *
    unfold chanceV winL winH at *
    rcases hst with h | h | h <;> simp [h] at hk hlt h3 ⊢ <;> subst hk <;> simp at h3 <;> omega
end Go.Proofs.Yteffnidkkeeaiaa
