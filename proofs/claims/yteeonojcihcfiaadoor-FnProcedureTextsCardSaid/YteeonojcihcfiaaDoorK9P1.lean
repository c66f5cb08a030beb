/- The plain law: the program's run of steps and the reference's agree. -/
import Derived.Test.YteeonojcihcfiaaDoorK9B5
import Derived.Test.YteeonojcihcfiaaDoorK9C2
namespace Go.Proofs.YteeonojcihcfiaaDoor
open Go

def StOk (s : St) : Prop := 0 ≤ s.stage ∧ s.stage ≤ 5 ∧ Fit s

set_option maxHeartbeats 4000000 in
theorem win_next {s : St} {day kind : Int} (h : StOk s) : (max (winL s kind) s.last ≤ day ∧ day ≤ min (winH s kind) 1000000000000) ↔ (s.last ≤ day ∧ day ≤ 1000000000000 ∧ 0 ≤ nextB s.stage day kind s.notice s.decision) := by
  obtain ⟨stage, notice, decision, last, granted⟩ := s
  obtain ⟨h1, h2, h3, h4, h5, h6, h7, h8⟩ := h
  dsimp only at *
  have hst : stage = 0 ∨ stage = 1 ∨ stage = 2 ∨ stage = 3 ∨ stage = 4 ∨ stage = 5 := by omega
  unfold winL winH nextB
  dsimp only
  by_cases hkd : 0 ≤ kind ∧ kind ≤ 7
  · have hkk : kind = 0 ∨ kind = 1 ∨ kind = 2 ∨ kind = 3 ∨ kind = 4 ∨ kind = 5 ∨ kind = 6 ∨ kind = 7 := by omega
    clear hkd
    rcases hst with rfl | rfl | rfl | rfl | rfl | rfl <;> rcases hkk with rfl | rfl | rfl | rfl | rfl | rfl | rfl | rfl <;> simp only [reduceIte, true_and, and_true, false_and, and_false, or_true, or_false, or_self, and_self, Int.reduceEq, Int.reduceNeg] <;> omega
  · have n0 : kind ≠ 0 := by omega
    have n1 : kind ≠ 1 := by omega
    have n2 : kind ≠ 2 := by omega
    have n3 : kind ≠ 3 := by omega
    have n4 : kind ≠ 4 := by omega
    have n5 : kind ≠ 5 := by omega
    have n6 : kind ≠ 6 := by omega
    have n7 : kind ≠ 7 := by omega
    simp only [n0, n1, n2, n3, n4, n5, n6, n7, false_and, and_false, or_self, if_false]
    omega
theorem next_kind {st day kind n d : Int} (h : 0 ≤ nextB st day kind n d) : 0 ≤ kind ∧ kind ≤ 7 := by
  unfold nextB at h; (repeat' split at h) <;> omega
theorem take_next {s : St} {day kind : Int} (h : StOk s) (hn : 0 ≤ nextB s.stage day kind s.notice s.decision) :
    takeB s (day, kind) = { stage := nextB s.stage day kind s.notice s.decision, notice := if kind = 0 then day else s.notice, decision := if kind = 2 ∨ kind = 3 then day else s.decision, last := day, granted := if kind = 2 then true else if kind = 3 then false else if kind = 6 then !s.granted else s.granted } := by
  obtain ⟨stage, notice, decision, last, granted⟩ := s
  have hk := next_kind hn
  have hkk : kind = 0 ∨ kind = 1 ∨ kind = 2 ∨ kind = 3 ∨ kind = 4 ∨ kind = 5 ∨ kind = 6 ∨ kind = 7 := by omega
  dsimp only at *
  rcases hkk with rfl | rfl | rfl | rfl | rfl | rfl | rfl | rfl <;> simp [takeB] <;> unfold nextB at hn ⊢ <;> omega
theorem step_eq {s : St} {k : Nat} {x : Stp} (h : StOk s) (hk : k < 12) : (if (inB x.2 0 7 && allowB s k x) = true then some (takeB s x) else none) = stepS s x := by
  obtain ⟨day, kind⟩ := x
  have hw := win_next (day := day) (kind := kind) h
  by_cases hn : s.last ≤ day ∧ day ≤ 1000000000000 ∧ 0 ≤ nextB s.stage day kind s.notice s.decision
  · have hk' := next_kind hn.2.2
    have hw' := hw.2 hn
    rw [step_yes ⟨hn.1, hn.2.1⟩ hn.2.2, ← take_next h hn.2.2, if_pos]
    simp only [inB, allowB, Bool.and_eq_true, decide_eq_true_eq]
    exact ⟨hk', by omega, hw'.1, hw'.2⟩
  · rw [if_neg]
    · by_cases h1 : s.last ≤ day ∧ day ≤ 1000000000000
      · rw [step_no2 h1 (by omega)]
      · rw [step_no1 (by omega)]
    · simp only [inB, allowB, Bool.and_eq_true, decide_eq_true_eq]
      rintro ⟨_, _, h2, h3⟩
      exact hn (hw.1 ⟨h2, h3⟩)

theorem step_ok {s s' : St} {x : Stp} (h : StOk s) (hs : stepS s x = some s') : StOk s' := by
  obtain ⟨stage, notice, decision, last, granted⟩ := s
  obtain ⟨day, kind⟩ := x
  obtain ⟨h1, h2, h3, h4, h5, h6, h7, h8⟩ := h
  dsimp only at *
  unfold stepS at hs
  split at hs
  · cases hs
  · dsimp only at hs
    split at hs
    · cases hs
    · cases hs
      rename_i hd _
      dsimp only at hd
      have hn : nextB stage day kind notice decision ≤ 5 := by unfold nextB; (repeat' split) <;> omega
      refine ⟨by dsimp only; omega, hn, ?_⟩
      constructor <;> dsimp only <;> (try split) <;> omega

theorem run_eq (xs : List Stp) : ∀ (s : St) (k : Nat), StOk s → k ≤ 12 → runI s k xs = if k + xs.length ≤ 12 then runS s xs else none := by
  induction xs with
  | nil => intro s k _ hk; simp [runI, runS, hk]
  | cons x r ih =>
    intro s k hs hk
    by_cases h12 : k < 12
    · have e := step_eq (x := x) hs h12
      rw [runI, runS, ← e]
      by_cases hc : (inB x.2 0 7 && allowB s k x) = true
      · rw [if_pos hc, if_pos hc]
        rw [if_pos hc] at e
        have := ih (takeB s x) (k + 1) (step_ok hs e.symm) (by omega)
        rw [this]
        simp only [Option.bind_some, List.length_cons]
        rw [show k + 1 + r.length = k + (r.length + 1) from by omega]
      · rw [if_neg hc, if_neg hc]
        simp
    · have hk' : k = 12 := by omega
      subst hk'
      rw [runI, if_neg (by simp [allowB]), if_neg (by simp)]

theorem st0_ok : StOk st0 := ⟨by decide, by decide, fit0⟩
theorem runS_ok {xs : List Stp} : ∀ {s s' : St}, StOk s → runS s xs = some s' → StOk s' := by
  induction xs with
  | nil => intro s s' h hs; simp [runS] at hs; subst hs; exact h
  | cons x r ih =>
    intro s s' h hs
    rw [runS] at hs
    cases hx : stepS s x with
    | none => rw [hx] at hs; cases hs
    | some t => rw [hx] at hs; exact ih (step_ok h hx) hs

theorem run_law (xs : List Stp) : runI st0 0 xs = if isProc xs = true then some (runR xs) else none := by
  rw [run_eq xs st0 0 st0_ok (by omega)]
  unfold isProc runR
  cases hr : runS st0 xs with
  | none => simp
  | some s =>
    have := (runS_ok st0_ok hr).1
    simp only [Option.getD_some, Bool.and_eq_true, decide_eq_true_eq]
    by_cases hl : xs.length ≤ 12
    · rw [if_pos (by omega), if_pos ⟨this, by omega⟩]
    · rw [if_neg (by omega), if_neg (by omega)]
theorem isSome_law (xs : List Stp) : (runI st0 0 xs).isSome = isProc xs := by
  rw [run_law]; cases isProc xs <;> simp
end Go.Proofs.YteeonojcihcfiaaDoor
