/- The program's window of a procedure's file. -/
import Derived.Test.YteeonojcihcfiaaDoorRows
import Derived.Test.YteeonojcihcfiaaDoorK9GA
import Derived.WalkKit
import Derived.ProofKit
import Derived.OpenShut
import Derived.BigQuiet
import Derived.Outline
import Derived.WalkSpells
import Derived.WalkLawsBesides
import Derived.Deep.DeepCutAuto
import Derived.Test.YteeonojcihcfiaaDoorK9A3
import Derived.Deep.QuietTactic
import Derived.Lib.Hide
namespace Go.Proofs.YteeonojcihcfiaaDoor
open Go.ChangeShapes Go.WideShapes Go.ChangeAt Go.RowKit

/-- A file's cells. -/
def fileC (s : St) (v : Value) : Array Value := #[.int .i64 s.stage, .int .i64 s.last, .int .i64 s.notice, .int .i64 s.decision, .bool s.granted, v]
def winL (s : St) (kind : Int) : Int :=
  if s.stage = 0 ∧ kind = 0 then 0
  else if (s.stage = 1 ∨ s.stage = 2) ∧ kind = 1 then 0
  else if s.stage = 1 ∧ (kind = 2 ∨ kind = 3) then s.notice + 30 + 1
  else if s.stage = 2 ∧ (kind = 2 ∨ kind = 3) then 0
  else if s.stage = 3 ∧ kind = 4 then 0
  else if s.stage = 3 ∧ kind = 7 then s.decision + 14 + 1
  else if s.stage = 4 ∧ (kind = 5 ∨ kind = 6) then 0
  else 1
def winH (s : St) (kind : Int) : Int :=
  if s.stage = 0 ∧ kind = 0 then 1000000000000
  else if (s.stage = 1 ∨ s.stage = 2) ∧ kind = 1 then s.notice + 30
  else if s.stage = 1 ∧ (kind = 2 ∨ kind = 3) then 1000000000000
  else if s.stage = 2 ∧ (kind = 2 ∨ kind = 3) then 1000000000000
  else if s.stage = 3 ∧ kind = 4 then s.decision + 14
  else if s.stage = 3 ∧ kind = 7 then 1000000000000
  else if s.stage = 4 ∧ (kind = 5 ∨ kind = 6) then 1000000000000
  else 0
structure Fit (s : St) : Prop where
  n0 : 0 ≤ s.notice
  n1 : s.notice ≤ 1000000000000
  d0 : 0 ≤ s.decision
  d1 : s.decision ≤ 1000000000000
  l0 : 0 ≤ s.last
  l1 : s.last ≤ 1000000000000

set_option maxRecDepth 100000 in
set_option maxHeartbeats 2000000 in
theorem window_any (s : St) (hs : Fit s) (kind : Int) (g : Nat) (v : Value) (w : World) (hB : Blk w g 83 (fileC s v)) :
    Calls Tryd.prog 62 #[.pointer (some ⟨g, 0, none⟩), .int .i64 kind] w fun e w' => e = .returned (.tuple #[.int .i64 (max (winL s kind) s.last), .int .i64 (min (winH s kind) 1000000000000)]) ∧ ∃ n, w' = w.drewN n := by
  obtain ⟨stage, notice, decision, last, granted⟩ := s
  obtain ⟨hn0, hn1, hd0, hd1, hl0, hl1⟩ := hs
  have c0 := hB.cell 0
  have c1 := hB.cell 1
  have c2 := hB.cell 2
  have c3 := hB.cell 3
  simp only [fileC, List.getElem?_toArray, List.getElem?_cons_succ, List.getElem?_cons_zero] at c0 c1 c2 c3
  dsimp only at hn0 hn1 hd0 hd1 hl0 hl1
  clear hB
  go_enter Tryd.func62, Tryd.ntmps62
  go_upto_region 9999 with (first | (go_quiet (fail)) | ((with_reducible refine at_list ?_); (first | (refine gl_t _ (by exact rfl) (by exact rfl) (by exact rfl) (by exact rfl) (by intro hc hv K hK; (first | (refine lmove (by exact rfl) (by exact rfl) (by first | exact gs hc | exact gs hg | exact gs (by simp [hc]) | exact gs (by simp [hc, hg]) | exact rfl) ?_; exact hK) | (refine lwpick_and (by exact rfl) (by exact rfl) (by first | exact rfl | exact gs hc | exact gs hg | exact gs (by simp [hc]) | exact gs (by simp [hc, hg])) (by intro hb; first | exact rfl | exact gs hb | exact gs hc | exact gs hg | exact gs (by simp [hb, hc]) | exact gs (by simp [hb, hc, hg])) ?_; exact hK) | (refine lwpick_or (by exact rfl) (by exact rfl) (by first | exact rfl | exact gs hc | exact gs hg | exact gs (by simp [hc]) | exact gs (by simp [hc, hg])) (by intro hb; first | exact rfl | exact gs hb | exact gs hc | exact gs hg | exact gs (by simp [hb, hc]) | exact gs (by simp [hb, hc, hg])) ?_; exact hK) | (clear hc; (try clear hg); go_step; exact hK) | ((try have hc' := hc; simp at hc'); (try have hg' := hg; simp at hg'); go_step; exact hK))) ?_; (intro l' hl; simp only [List.set_cons_succ, List.set_cons_zero] at hl; subst hl)) | (refine gl_f _ (by exact rfl) (by exact rfl) (by exact rfl) (by exact rfl) (by intro hc hv K hK; (first | (refine lmove (by exact rfl) (by exact rfl) (by first | exact gs hc | exact gs hg | exact gs (by simp [hc]) | exact gs (by simp [hc, hg]) | exact rfl) ?_; exact hK) | (refine lwpick_and (by exact rfl) (by exact rfl) (by first | exact rfl | exact gs hc | exact gs hg | exact gs (by simp [hc]) | exact gs (by simp [hc, hg])) (by intro hb; first | exact rfl | exact gs hb | exact gs hc | exact gs hg | exact gs (by simp [hb, hc]) | exact gs (by simp [hb, hc, hg])) ?_; exact hK) | (refine lwpick_or (by exact rfl) (by exact rfl) (by first | exact rfl | exact gs hc | exact gs hg | exact gs (by simp [hc]) | exact gs (by simp [hc, hg])) (by intro hb; first | exact rfl | exact gs hb | exact gs hc | exact gs hg | exact gs (by simp [hb, hc]) | exact gs (by simp [hb, hc, hg])) ?_; exact hK) | (clear hc; (try clear hg); go_step; exact hK) | ((try have hc' := hc; simp at hc'); (try have hg' := hg; simp at hg'); go_step; exact hK))) ?_; (intro l' hl; simp only [List.set_cons_succ, List.set_cons_zero] at hl; subst hl)) | (refine gl_t2 _ (by exact rfl) (by exact rfl) (by exact rfl) (by exact rfl) (by intro hg hc hv hv2 K hK; (first | (refine lmove (by exact rfl) (by exact rfl) (by first | exact gs hc | exact gs hg | exact gs (by simp [hc]) | exact gs (by simp [hc, hg]) | exact rfl) ?_; exact hK) | (refine lwpick_and (by exact rfl) (by exact rfl) (by first | exact rfl | exact gs hc | exact gs hg | exact gs (by simp [hc]) | exact gs (by simp [hc, hg])) (by intro hb; first | exact rfl | exact gs hb | exact gs hc | exact gs hg | exact gs (by simp [hb, hc]) | exact gs (by simp [hb, hc, hg])) ?_; exact hK) | (refine lwpick_or (by exact rfl) (by exact rfl) (by first | exact rfl | exact gs hc | exact gs hg | exact gs (by simp [hc]) | exact gs (by simp [hc, hg])) (by intro hb; first | exact rfl | exact gs hb | exact gs hc | exact gs hg | exact gs (by simp [hb, hc]) | exact gs (by simp [hb, hc, hg])) ?_; exact hK) | (clear hc; (try clear hg); go_step; exact hK) | ((try have hc' := hc; simp at hc'); (try have hg' := hg; simp at hg'); go_step; exact hK))) ?_; (intro l' hl; simp only [List.set_cons_succ, List.set_cons_zero] at hl; subst hl)) | (refine gl_f2 _ (by exact rfl) (by exact rfl) (by exact rfl) (by exact rfl) (by intro hg hc hv hv2 K hK; (first | (refine lmove (by exact rfl) (by exact rfl) (by first | exact gs hc | exact gs hg | exact gs (by simp [hc]) | exact gs (by simp [hc, hg]) | exact rfl) ?_; exact hK) | (refine lwpick_and (by exact rfl) (by exact rfl) (by first | exact rfl | exact gs hc | exact gs hg | exact gs (by simp [hc]) | exact gs (by simp [hc, hg])) (by intro hb; first | exact rfl | exact gs hb | exact gs hc | exact gs hg | exact gs (by simp [hb, hc]) | exact gs (by simp [hb, hc, hg])) ?_; exact hK) | (refine lwpick_or (by exact rfl) (by exact rfl) (by first | exact rfl | exact gs hc | exact gs hg | exact gs (by simp [hc]) | exact gs (by simp [hc, hg])) (by intro hb; first | exact rfl | exact gs hb | exact gs hc | exact gs hg | exact gs (by simp [hb, hc]) | exact gs (by simp [hb, hc, hg])) ?_; exact hK) | (clear hc; (try clear hg); go_step; exact hK) | ((try have hc' := hc; simp at hc'); (try have hg' := hg; simp at hg'); go_step; exact hK))) ?_; (intro l' hl; simp only [List.set_cons_succ, List.set_cons_zero] at hl; subst hl)) | (refine lpick_and (by exact rfl) (by exact rfl) (by exact rfl) (by exact rfl) (by intro hb; first | exact rfl | exact gs hb) ?_; (intro l' hl; simp only [List.set_cons_succ, List.set_cons_zero] at hl; subst hl)) | (refine lpick_or (by exact rfl) (by exact rfl) (by exact rfl) (by exact rfl) (by intro hb; first | exact rfl | exact gs hb | exact gs (by simp [hb])) ?_; (intro l' hl; simp only [List.set_cons_succ, List.set_cons_zero] at hl; subst hl)))))
  all_goals
    go_ret2
    refine ⟨ret_int2 ?_ ?_, by first | exact ⟨_, rfl⟩ | exact ⟨0, rfl⟩⟩
    all_goals
      simp only [beq_iff_eq, beq_eq_false_iff_ne, ne_eq] at *
      (try unfold winL); (try unfold winH); dsimp only
      (repeat' split) <;> omega
end Go.Proofs.YteeonojcihcfiaaDoor
