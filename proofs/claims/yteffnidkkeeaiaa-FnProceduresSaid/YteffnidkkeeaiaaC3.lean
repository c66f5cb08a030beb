/- The reference's StageOf, OutcomeOf, LastChance. -/
import Derived.Test.YteffnidkkeeaiaaRows
import Derived.Test.YteffnidkkeeaiaaL0
import Derived.Test.YteffnidkkeeaiaaM0
import Derived.WalkKit
import Derived.ProofKit
import Derived.OpenShut
import Derived.BigQuiet
import Derived.Outline
import Derived.WalkSpells
import Derived.WalkLawsBesides
import Derived.Deep.DeepCutAuto
import Derived.Test.YteffnidkkeeaiaaC2
import Derived.Test.YteffnidkkeeaiaaB1
import Derived.Lib.Hide
namespace Go.Proofs.Yteffnidkkeeaiaa
open Go.ChangeShapes Go.WideShapes Go.ChangeAt Go.RowKit

def outcomeS (s : St) : Int := if s.stage = 5 then (if s.granted = true then 1 else -1) else 0
def chanceV (s : St) : Int := if s.stage = 1 ∨ s.stage = 2 then min 1000000000000 (s.notice + 30) else if s.stage = 3 then min 1000000000000 (s.decision + 14) else 0
def chanceE (s : St) : Int := if s.stage = 1 ∨ s.stage = 2 ∨ s.stage = 3 then 0 else 4
/-- A result and its code: of a procedure, of another list. -/
def orBad (b : Bool) (v c : Int) : Value := .tuple #[.int .i64 (if b = true then v else 0), .int .i64 (if b = true then c else 1)]

theorem specIs_yes {xs : List Stp} (h : isProc xs = true) (A : Option Addr) (c : Nat) (w : World) (hr : Reads w w.heap.size 2 A xs.length (stC xs)) (hm : xs.length ≤ 9223372036854775807) :
    Calls Try.prog 20 #[.slice A xs.length c] w fun e w' => e = .returned (.bool true) ∧ Below w.heap.size w w' := by
  rw [← h]; exact specIs_any xs A c w hr hm
theorem specIs_no {xs : List Stp} (h : isProc xs = false) (A : Option Addr) (c : Nat) (w : World) (hr : Reads w w.heap.size 2 A xs.length (stC xs)) (hm : xs.length ≤ 9223372036854775807) :
    Calls Try.prog 20 #[.slice A xs.length c] w fun e w' => e = .returned (.bool false) ∧ Below w.heap.size w w' := by
  rw [← h]; exact specIs_any xs A c w hr hm

theorem specStage_any (xs : List Stp) (A : Option Addr) (c : Nat) (w : World) (hr : Reads w w.heap.size 2 A xs.length (stC xs)) (hm : xs.length ≤ 9223372036854775807) :
    Calls Try.prog 24 #[.slice A xs.length c] w fun e w' => e = .returned (orBad (isProc xs) (runR xs).stage 0) ∧ Below w.heap.size w w' := by
  cases hp : isProc xs
  · have HP := Lib.hid hp; clear hp
    have HR := Lib.hid hr; clear hr
    go_enter Try.func24, Try.ntmps24
    go_wp2_with fail
    refine (specIs_no HP.out _ _ _ HR.out hm).mono ?_; rintro e w1 ⟨rfl, b1⟩
    go_wp2_with fail
    go_ret2
    exact ⟨rfl, b1⟩
  · have HP := Lib.hid hp; clear hp
    have HR := Lib.hid hr; clear hr
    go_enter Try.func24, Try.ntmps24
    go_wp2_with fail
    refine (specIs_yes HP.out _ _ _ HR.out hm).mono ?_; rintro e w1 ⟨rfl, b1⟩
    go_wp2_with fail
    refine (run_calls _ _ _ _ ((HR.out.below b1).more b1.size) hm).mono ?_; rintro e w2 ⟨rfl, b2⟩
    go_wp2_with fail
    go_ret2
    exact ⟨rfl, b1.trans (b2.mono b1.size)⟩

theorem l25Outcome_any (xs : List Stp) (A : Option Addr) (c : Nat) (w : World) (hr : Reads w w.heap.size 2 A xs.length (stC xs)) (hm : xs.length ≤ 9223372036854775807) :
    Calls Try.prog 63 #[.slice A xs.length c] w fun e w' => e = .returned (.int .i64 (outcomeS (runR xs))) ∧ Below w.heap.size w w' := by
  have HR := Lib.hid hr; clear hr
  go_enter Try.func63, Try.ntmps63
  go_wp2_with fail
  refine (run_calls _ _ _ _ HR.out hm).mono ?_; rintro e w2 ⟨rfl, b2⟩
  generalize hs : runR xs = s
  obtain ⟨stage, notice, decision, last, granted⟩ := s
  have HS := Lib.hid hs; clear hs
  dsimp only
  cases granted
  all_goals
    go_wp2_with fail
    all_goals
      go_ret
      refine ⟨ret_int ?_, b2⟩
      rw [HS.out]
      simp only [bne_iff_ne, bne_eq_false_iff_eq, ne_eq] at *
      simp [outcomeS, *]

theorem specOutcome_any (xs : List Stp) (A : Option Addr) (c : Nat) (w : World) (hr : Reads w w.heap.size 2 A xs.length (stC xs)) (hm : xs.length ≤ 9223372036854775807) :
    Calls Try.prog 28 #[.slice A xs.length c] w fun e w' => e = .returned (orBad (isProc xs) (outcomeS (runR xs)) 0) ∧ Below w.heap.size w w' := by
  cases hp : isProc xs
  · have HP := Lib.hid hp; clear hp
    have HR := Lib.hid hr; clear hr
    go_enter Try.func28, Try.ntmps28
    go_wp2_with fail
    refine (specIs_no HP.out _ _ _ HR.out hm).mono ?_; rintro e w1 ⟨rfl, b1⟩
    go_wp2_with fail
    go_ret2
    exact ⟨rfl, b1⟩
  · have HP := Lib.hid hp; clear hp
    have HR := Lib.hid hr; clear hr
    go_enter Try.func28, Try.ntmps28
    go_wp2_with fail
    refine (specIs_yes HP.out _ _ _ HR.out hm).mono ?_; rintro e w1 ⟨rfl, b1⟩
    go_wp2_with fail
    refine (l25Outcome_any _ _ _ _ ((HR.out.below b1).more b1.size) hm).mono ?_; rintro e w2 ⟨rfl, b2⟩
    go_wp2_with fail
    go_ret2
    exact ⟨rfl, b1.trans (b2.mono b1.size)⟩

theorem runR_fit {xs : List Stp} (h : Fit (runR xs)) : -9223372036854775808 ≤ (runR xs).notice + 30 ∧ (runR xs).notice + 30 ≤ 9223372036854775807 ∧ -9223372036854775808 ≤ (runR xs).decision + 14 ∧ (runR xs).decision + 14 ≤ 9223372036854775807 := by
  obtain ⟨h1, h2, h3, h4, _, _⟩ := h; omega

theorem specChance_any (xs : List Stp) (hf : Fit (runR xs)) (A : Option Addr) (c : Nat) (w : World) (hr : Reads w w.heap.size 2 A xs.length (stC xs)) (hm : xs.length ≤ 9223372036854775807) :
    Calls Try.prog 26 #[.slice A xs.length c] w fun e w' => e = .returned (orBad (isProc xs) (chanceV (runR xs)) (chanceE (runR xs))) ∧ Below w.heap.size w w' := by
  cases hp : isProc xs
  · have HP := Lib.hid hp; clear hp
    have HR := Lib.hid hr; clear hr
    go_enter Try.func26, Try.ntmps26
    go_wp2_with fail
    refine (specIs_no HP.out _ _ _ HR.out hm).mono ?_; rintro e w1 ⟨rfl, b1⟩
    go_wp2_with fail
    go_ret2
    exact ⟨rfl, b1⟩
  · have HP := Lib.hid hp; clear hp
    have HR := Lib.hid hr; clear hr
    go_enter Try.func26, Try.ntmps26
    go_wp2_with fail
    refine (specIs_yes HP.out _ _ _ HR.out hm).mono ?_; rintro e w1 ⟨rfl, b1⟩
    go_wp2_with fail
    refine (run_calls _ _ _ _ ((HR.out.below b1).more b1.size) hm).mono ?_; rintro e w2 ⟨rfl, b2⟩
    obtain ⟨f1, f2, f3, f4, _, _⟩ := hf
    generalize hs : runR xs = s at f1 f2 f3 f4 ⊢
    obtain ⟨stage, notice, decision, last, granted⟩ := s
    have HS := Lib.hid hs; clear hs
    dsimp only at *
    go_wp2_with fail
    all_goals
      go_ret2
      refine ⟨ret_int2 ?_ ?_, b1.trans (b2.mono b1.size)⟩
      all_goals
        (try rw [HS.out])
        simp only [beq_iff_eq, beq_eq_false_iff_ne, ne_eq, if_true] at *
        (try unfold chanceV); (try unfold chanceE); dsimp only; omega
end Go.Proofs.Yteffnidkkeeaiaa
