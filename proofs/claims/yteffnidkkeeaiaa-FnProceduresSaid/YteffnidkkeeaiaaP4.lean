/- The reference's earliest day is the program's. -/
import Derived.Test.YteffnidkkeeaiaaP3
namespace Go.Proofs.Yteffnidkkeeaiaa

theorem runS_snoc (x : Stp) : ∀ (xs : List Stp) (s : St), runS s (xs ++ [x]) = (runS s xs).bind fun t => stepS t x
  | [], s => by simp [runS]
  | y :: r, s => by
    simp only [List.cons_append, runS]
    cases stepS s y with
    | none => rfl
    | some t => simpa using runS_snoc x r t
theorem step_last {s t : St} {x : Stp} (h : stepS s x = some t) : t.last = x.1 := by
  unfold stepS at h
  split at h
  · cases h
  · simp only at h
    split at h
    · cases h
    · cases h; rfl
theorem last_snoc {ys : List Stp} {x : Stp} (h : isProc (ys ++ [x]) = true) : (runR (ys ++ [x])).last = x.1 := by
  have h0 : 0 ≤ (runR (ys ++ [x])).stage := by simp [isProc] at h; omega
  unfold runR at h0 ⊢
  cases hr : runS st0 (ys ++ [x]) with
  | none => rw [hr] at h0; simp at h0
  | some t =>
    rw [runS_snoc] at hr
    cases hq : runS st0 ys with
    | none => rw [hq] at hr; cases hr
    | some q => rw [hq] at hr; exact step_last hr
theorem last_get {ys : List Stp} (h : isProc ys = true) (hn : 0 < ys.length) : (runR ys).last = (ys[ys.length - 1]'(by omega)).1 := by
  obtain ⟨zs, x, rfl⟩ : ∃ zs x, ys = zs ++ [x] := ⟨ys.dropLast, ys.getLast (by intro e; simp [e] at hn), (List.dropLast_concat_getLast _).symm⟩
  rw [last_snoc h]
  simp

/-- The day that the reference tries. -/
def tryD (day : Int) (ys : List Stp) (kind : Int) : Int :=
  let d0 := if 0 < ys.length then max day (runR ys).last else day
  if (runR ys).stage = 1 ∧ (kind = 2 ∨ kind = 3) then max d0 ((runR ys).notice + 31)
  else if (runR ys).stage = 3 ∧ kind = 7 then max d0 ((runR ys).decision + 15)
  else d0
def earlyS (day : Int) (ys : List Stp) (kind : Int) : Int := if isProc (ys ++ [(tryD day ys kind, kind)]) = true then tryD day ys kind else -1
set_option maxHeartbeats 4000000 in
theorem early_law {day : Int} {ys : List Stp} {kind : Nat} (hk : kind < 8) (h : isProc ys = true) (hd : 0 ≤ day) :
    kid day ys kind = if earlyS day ys kind < 0 then none else some (ys ++ [(earlyS day ys kind, (kind : Int))]) := by
  have hx : ∀ d : Int, inB ((d, (kind : Int)) : Stp).2 0 7 = true := fun d => by simp [inB]; omega
  have ok := runR_ok h
  have hl : ys.length = 0 → (runR ys).last = 0 := by
    intro e
    have : ys = [] := List.length_eq_zero_iff.1 e
    subst this; rfl
  have key : allowB (runR ys) ys.length (tryD day ys kind, (kind : Int)) = allowB (runR ys) ys.length (earlyD day ys kind, (kind : Int)) ∧ (allowB (runR ys) ys.length (earlyD day ys kind, (kind : Int)) = true → tryD day ys kind = earlyD day ys kind) := by
    have e1 := allow_iff (runR ys) ys.length (tryD day ys kind) kind
    have e2 := allow_iff (runR ys) ys.length (earlyD day ys kind) kind
    obtain ⟨s1, s2, f0, f1, f2, f3, f4, f5⟩ := ok
    have hst : (runR ys).stage = 0 ∨ (runR ys).stage = 1 ∨ (runR ys).stage = 2 ∨ (runR ys).stage = 3 ∨ (runR ys).stage = 4 ∨ (runR ys).stage = 5 := by omega
    generalize ht : tryD day ys kind = t at *
    generalize he : earlyD day ys kind = e at *
    unfold tryD at ht
    unfold earlyD at he
    unfold winL at e1 e2 he
    unfold winH at e1 e2
    generalize runR ys = s at *
    have main : (allowB s ys.length (t, (kind : Int)) = true ↔ allowB s ys.length (e, (kind : Int)) = true) ∧ (allowB s ys.length (e, (kind : Int)) = true → t = e) := by
      rw [e1, e2]
      clear e1 e2
      rcases hst with h | h | h | h | h | h <;> rcases kinds8 hk with rfl | rfl | rfl | rfl | rfl | rfl | rfl | rfl <;> simp [h] at ht he ⊢ <;> (constructor <;> omega)
    refine ⟨?_, main.2⟩
    rw [Bool.eq_iff_iff]; exact main.1
  unfold kid earlyS
  rw [next_law h _ (hx _), key.1]
  split
  · rename_i ha
    have ht := key.2 ha
    have hlow : ¬ tryD day ys kind < 0 := by rw [ht]; unfold earlyD; omega
    rw [if_neg hlow, ht]
  · simp
end Go.Proofs.Yteffnidkkeeaiaa
