/- The program's StageOf, OutcomeOf, LastChance. -/
import Derived.Test.YteffnidkkeeaiaaRows
import Derived.Test.YteffnidkkeeaiaaL0
import Derived.Test.YteffnidkkeeaiaaM0
import Derived.WalkKit
import Derived.ProofKit
import Derived.OpenShut
import Derived.BigQuiet
import Derived.Outline
import Derived.WalkSpells
import Derived.WalkLawsBesides
import Derived.Deep.DeepCutAuto
import Derived.Test.YteffnidkkeeaiaaP1
import Derived.Test.YteffnidkkeeaiaaC3
import Derived.Deep.QuietTactic
import Derived.Lib.Hide
namespace Go.Proofs.Yteffnidkkeeaiaa
open Go.ChangeShapes Go.WideShapes Go.ChangeAt Go.RowKit

/-- What newFile gives, by the reference's words. -/
theorem newFile_yes {xs : List Stp} (h : isProc xs = true) (A : Option Addr) (c : Nat) (w : World) (hr : Reads w w.heap.size 2 A xs.length (stC xs)) (hm : xs.length ≤ 9223372036854775807) :
    Calls Try.prog 61 #[.slice A xs.length c] w fun e w' => ∃ g B d, e = .returned (.tuple #[.pointer (some ⟨g, 0, none⟩), .bool true]) ∧ File w' g (runR xs) xs B xs.length d ∧ Fit (runR xs) ∧ Below w.heap.size w w' := by
  refine (newFile_any xs A c w hr hm).mono ?_
  rintro e w' ⟨hb, hh⟩
  rw [run_law, if_pos h] at hh
  rcases hh with ⟨s, g, B, d, hs, hf, hF, rfl⟩ | ⟨hn, _⟩
  · cases hs
    exact ⟨g, B, d, rfl, hF, hf, hb⟩
  · cases hn
theorem newFile_no {xs : List Stp} (h : isProc xs = false) (A : Option Addr) (c : Nat) (w : World) (hr : Reads w w.heap.size 2 A xs.length (stC xs)) (hm : xs.length ≤ 9223372036854775807) :
    Calls Try.prog 61 #[.slice A xs.length c] w fun e w' => e = .returned (.tuple #[.pointer none, .bool false]) ∧ Below w.heap.size w w' := by
  refine (newFile_any xs A c w hr hm).mono ?_
  rintro e w' ⟨hb, hh⟩
  rw [run_law, if_neg (by rw [h]; simp)] at hh
  rcases hh with ⟨s, g, B, d, hs, _⟩ | ⟨_, rfl⟩
  · cases hs
  · exact ⟨rfl, hb⟩
theorem file_cells {w : World} {g : Nat} {s : St} {ys : List Stp} {A : Option Addr} {n c : Nat} (h : File w g s ys A n c) :
    w.cell? ⟨g, 0, none⟩ = some (.int .i64 s.stage) ∧ w.cell? ⟨g, 1, none⟩ = some (.int .i64 s.last) ∧ w.cell? ⟨g, 2, none⟩ = some (.int .i64 s.notice) ∧ w.cell? ⟨g, 3, none⟩ = some (.int .i64 s.decision) ∧ w.cell? ⟨g, 4, none⟩ = some (.bool s.granted) ∧ w.cell? ⟨g, 5, none⟩ = some (.slice A n c) := by
  obtain ⟨_, hB, _⟩ := h
  have c0 := hB.cell 0
  have c1 := hB.cell 1
  have c2 := hB.cell 2
  have c3 := hB.cell 3
  have c4 := hB.cell 4
  have c5 := hB.cell 5
  simp only [fileC, List.getElem?_toArray, List.getElem?_cons_succ, List.getElem?_cons_zero] at c0 c1 c2 c3 c4 c5
  exact ⟨c0, c1, c2, c3, c4, c5⟩

theorem implStage_any (xs : List Stp) (A : Option Addr) (c : Nat) (w : World) (hr : Reads w w.heap.size 2 A xs.length (stC xs)) (hm : xs.length ≤ 9223372036854775807) :
    Calls Try.prog 25 #[.slice A xs.length c] w fun e w' => e = .returned (orBad (isProc xs) (runR xs).stage 0) ∧ Below w.heap.size w w' := by
  cases hp : isProc xs
  · have HP := Lib.hid hp; clear hp
    have HR := Lib.hid hr; clear hr
    go_enter Try.func25, Try.ntmps25
    go_wp2_with fail
    refine (newFile_no HP.out _ _ _ HR.out hm).mono ?_; rintro e w1 ⟨rfl, b1⟩
    go_wp2_with fail
    go_ret2
    exact ⟨rfl, b1⟩
  · have HP := Lib.hid hp; clear hp
    have HR := Lib.hid hr; clear hr
    go_enter Try.func25, Try.ntmps25
    go_wp2_with fail
    refine (newFile_yes HP.out _ _ _ HR.out hm).mono ?_; rintro e w1 ⟨g, B, d, rfl, hF, _, b1⟩
    have c0 := (file_cells hF).1
    clear hF
    go_wp2_with fail
    go_ret2
    exact ⟨rfl, b1⟩

theorem outcome_any (s : St) (g : Nat) (w : World) (h0 : w.cell? ⟨g, 0, none⟩ = some (.int .i64 s.stage)) (h4 : w.cell? ⟨g, 4, none⟩ = some (.bool s.granted)) :
    Calls Try.prog 64 #[.pointer (some ⟨g, 0, none⟩)] w fun e w' => e = .returned (.int .i64 (outcomeS s)) ∧ w = w' := by
  obtain ⟨stage, notice, decision, last, granted⟩ := s
  dsimp only at h0 h4
  cases granted
  all_goals
    go_enter Try.func64, Try.ntmps64
    go_wp2_with fail
    all_goals
      go_ret
      refine ⟨ret_int ?_, rfl⟩
      simp only [bne_iff_ne, bne_eq_false_iff_eq, ne_eq] at *
      simp [outcomeS, *]

theorem implOutcome_any (xs : List Stp) (A : Option Addr) (c : Nat) (w : World) (hr : Reads w w.heap.size 2 A xs.length (stC xs)) (hm : xs.length ≤ 9223372036854775807) :
    Calls Try.prog 29 #[.slice A xs.length c] w fun e w' => e = .returned (orBad (isProc xs) (outcomeS (runR xs)) 0) ∧ Below w.heap.size w w' := by
  cases hp : isProc xs
  · have HP := Lib.hid hp; clear hp
    have HR := Lib.hid hr; clear hr
    go_enter Try.func29, Try.ntmps29
    go_wp2_with fail
    refine (newFile_no HP.out _ _ _ HR.out hm).mono ?_; rintro e w1 ⟨rfl, b1⟩
    go_wp2_with fail
    go_ret2
    exact ⟨rfl, b1⟩
  · have HP := Lib.hid hp; clear hp
    have HR := Lib.hid hr; clear hr
    go_enter Try.func29, Try.ntmps29
    go_wp2_with fail
    refine (newFile_yes HP.out _ _ _ HR.out hm).mono ?_; rintro e w1 ⟨g, B, d, rfl, hF, _, b1⟩
    have c0 := (file_cells hF).1
    have c4 := (file_cells hF).2.2.2.2.1
    clear hF
    go_wp2_with (go_at_call 64; refine (outcome_any _ _ _ c0 c4).mono ?_; rintro e w' ⟨rfl, rfl⟩)
    go_ret2
    exact ⟨rfl, b1⟩

set_option maxRecDepth 100000 in
theorem implChance_any (xs : List Stp) (A : Option Addr) (c : Nat) (w : World) (hr : Reads w w.heap.size 2 A xs.length (stC xs)) (hm : xs.length ≤ 9223372036854775807) :
    Calls Try.prog 27 #[.slice A xs.length c] w fun e w' => e = .returned (orBad (isProc xs) (chanceV (runR xs)) (chanceE (runR xs))) ∧ Below w.heap.size w w' := by
  cases hp : isProc xs
  · have HP := Lib.hid hp; clear hp
    have HR := Lib.hid hr; clear hr
    go_enter Try.func27, Try.ntmps27
    go_wp2_with fail
    refine (newFile_no HP.out _ _ _ HR.out hm).mono ?_; rintro e w1 ⟨rfl, b1⟩
    go_wp2_with fail
    go_ret2
    exact ⟨rfl, b1⟩
  · have HP := Lib.hid hp; clear hp
    have HR := Lib.hid hr; clear hr
    go_enter Try.func27, Try.ntmps27
    go_wp2_with fail
    refine (newFile_yes HP.out _ _ _ HR.out hm).mono ?_; rintro e w1 ⟨g, B, d, rfl, hF, hf, b1⟩
    obtain ⟨c0, _, c2, c3, _, _⟩ := file_cells hF
    obtain ⟨f1, f2, f3, f4, _, _⟩ := hf
    generalize hs : runR xs = s at f1 f2 f3 f4 c0 c2 c3 ⊢
    clear hF
    obtain ⟨stage, notice, decision, last, granted⟩ := s
    have HS := Lib.hid hs; clear hs
    dsimp only at *
    go_upto_region 9999 with (first | (go_quiet (fail)) | fail)
    all_goals
      go_ret2
      refine ⟨ret_int2 ?_ ?_, by first | exact b1 | exact below_drewN' b1 _⟩
      all_goals
        (try rw [HS.out])
        simp only [beq_iff_eq, beq_eq_false_iff_ne, ne_eq, if_true] at *
        (try unfold chanceV); (try unfold chanceE); dsimp only; omega
end Go.Proofs.Yteffnidkkeeaiaa
