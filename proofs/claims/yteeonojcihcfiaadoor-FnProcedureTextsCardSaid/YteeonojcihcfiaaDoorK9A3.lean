/- Contract of l25Run: it runs the steps. -/
import Derived.Test.YteeonojcihcfiaaDoorRows
import Derived.Test.YteeonojcihcfiaaDoorK9GA
import Derived.WalkKit
import Derived.ProofKit
import Derived.OpenShut
import Derived.BigQuiet
import Derived.Outline
import Derived.WalkSpells
import Derived.WalkLawsBesides
import Derived.Deep.DeepCutAuto
import Derived.Test.YteeonojcihcfiaaDoorK9A2
import Derived.Deep.LoopGhost
import Derived.Lib.Hide
namespace Go.Proofs.YteeonojcihcfiaaDoor
open Go.ChangeShapes Go.WideShapes Go.ChangeAt Go.RowKit

structure St where
  stage : Int
  notice : Int
  decision : Int
  last : Int
  granted : Bool

abbrev Stp := Int × Int

def maxV : Int := 1000000000000
def stepS (s : St) (x : Stp) : Option St :=
  if x.1 < s.last ∨ 1000000000000 < x.1 then none
  else
    let st := nextB s.stage x.1 x.2 s.notice s.decision
    if st < 0 then none
    else some { stage := st, notice := if x.2 = 0 then x.1 else s.notice, decision := if x.2 = 2 ∨ x.2 = 3 then x.1 else s.decision, last := x.1,
                granted := if x.2 = 2 then true else if x.2 = 3 then false else if x.2 = 6 then !s.granted else s.granted }
def runS (s : St) : List Stp → Option St
  | [] => some s
  | x :: r => (stepS s x).bind (runS · r)
def st0 : St := ⟨0, 0, 0, 0, false⟩
def runT (xs : List Stp) : Array Value := match runS st0 xs with
  | some s => #[.int .i64 s.stage, .int .i64 s.notice, .int .i64 s.decision, .bool s.granted]
  | none => #[.int .i64 (-1), .int .i64 0, .int .i64 0, .bool false]
def stC (xs : List Stp) : List Value := xs.flatMap fun s => [.int .i64 s.1, .int .i64 s.2]
theorem stC_len (xs : List Stp) : (stC xs).length = xs.length * 2 := by
  induction xs with
  | nil => rfl
  | cons x r ih => simp [stC] at *; omega
theorem stC_get (xs : List Stp) (k : Nat) (h : k < xs.length) : (stC xs)[k * 2]? = some (.int .i64 xs[k].1) ∧ (stC xs)[k * 2 + 1]? = some (.int .i64 xs[k].2) := by
  induction xs generalizing k with
  | nil => simp at h
  | cons x r ih =>
    cases k with
    | zero => simp [stC]
    | succ k =>
      have := ih k (by simpa using h)
      simp only [stC, List.flatMap_cons] at this ⊢
      constructor
      · rw [show (k + 1) * 2 = k * 2 + 1 + 1 from by omega]; simpa using this.1
      · rw [show (k + 1) * 2 + 1 = k * 2 + 1 + 1 + 1 from by omega]; simpa using this.2

def RunRel (xs : List Stp) (s : St) (k : Nat) : Prop := k ≤ xs.length ∧ runS st0 xs = runS s (xs.drop k) ∧ 0 ≤ s.notice ∧ s.notice ≤ 1000000000000 ∧ 0 ≤ s.decision ∧ s.decision ≤ 1000000000000 ∧ 0 ≤ s.last ∧ s.last ≤ 1000000000000

theorem run_next {xs : List Stp} {s s' : St} {k : Nat} {x : Stp} (h : RunRel xs s k) (hlt : k < xs.length) (hx : xs[k] = x) (hs : stepS s x = some s') (hx0 : s.last ≤ x.1) (hx1 : x.1 ≤ 1000000000000) : RunRel xs s' (k + 1) := by
  obtain ⟨h1, h2, h3, h4, h5, h6, h7, h8⟩ := h
  have hd : xs.drop k = x :: xs.drop (k + 1) := by rw [← hx]; exact List.drop_eq_getElem_cons hlt
  refine ⟨by omega, ?_, ?_⟩
  · rw [h2, hd]; simp [runS, hs]
  · unfold stepS at hs
    rw [if_neg (by omega)] at hs
    dsimp only at hs
    split at hs
    · cases hs
    · cases hs
      dsimp only
      refine ⟨?_, ?_, ?_, ?_, by omega, by omega⟩ <;> split <;> omega
theorem run_stop {xs : List Stp} {s : St} {k : Nat} {x : Stp} (h : RunRel xs s k) (hlt : k < xs.length) (hx : xs[k] = x) (hs : stepS s x = none) : runT xs = #[.int .i64 (-1), .int .i64 0, .int .i64 0, .bool false] := by
  obtain ⟨h1, h2, _⟩ := h
  have hd : xs.drop k = x :: xs.drop (k + 1) := by rw [← hx]; exact List.drop_eq_getElem_cons hlt
  rw [runT, h2, hd]
  simp [runS, hs]
theorem run_end {xs : List Stp} {s : St} (h : RunRel xs s xs.length) : runT xs = #[.int .i64 s.stage, .int .i64 s.notice, .int .i64 s.decision, .bool s.granted] := by
  obtain ⟨h1, h2, _⟩ := h
  rw [runT, h2]
  simp [runS]
theorem run_start (xs : List Stp) : RunRel xs st0 0 := ⟨Nat.zero_le _, rfl, by decide, by decide, by decide, by decide, by decide, by decide⟩

theorem step_no1 {s : St} {day kind : Int} (h : day < s.last ∨ 1000000000000 < day) : stepS s (day, kind) = none := by rw [stepS, if_pos h]
theorem step_no2 {s : St} {day kind : Int} (h : s.last ≤ day ∧ day ≤ 1000000000000) (hn : nextB s.stage day kind s.notice s.decision < 0) : stepS s (day, kind) = none := by
  rw [stepS, if_neg (by dsimp only; omega)]
  dsimp only
  rw [if_pos hn]
theorem step_yes {s : St} {day kind : Int} (h : s.last ≤ day ∧ day ≤ 1000000000000) (hn : 0 ≤ nextB s.stage day kind s.notice s.decision) :
    stepS s (day, kind) = some { stage := nextB s.stage day kind s.notice s.decision, notice := if kind = 0 then day else s.notice, decision := if kind = 2 ∨ kind = 3 then day else s.decision, last := day, granted := if kind = 2 then true else if kind = 3 then false else if kind = 6 then !s.granted else s.granted } := by
  rw [stepS, if_neg (by dsimp only; omega)]
  dsimp only
  rw [if_neg (by omega)]
theorem int_if_pos {p : Prop} [Decidable p] {a b : Int} (h : p) : Value.int .i64 a = .int .i64 (if p then a else b) := by rw [if_pos h]
theorem int_if_neg {p : Prop} [Decidable p] {a b : Int} (h : ¬ p) : Value.int .i64 b = .int .i64 (if p then a else b) := by rw [if_neg h]

set_option maxRecDepth 100000 in
set_option maxHeartbeats 1000000 in
theorem run_any (xs : List Stp) (A : Option Addr) (c : Nat) (w : World) (hr : Reads w w.heap.size 2 A xs.length (stC xs)) (hm : xs.length ≤ 9223372036854775807) :
    Calls Tryd.prog 37 #[.slice A xs.length c] w fun e w' => e = .returned (.tuple (runT xs)) ∧ Below w.heap.size w w' := by
  go_enter Tryd.func37, Tryd.ntmps37
  go_upto_region 9999 with ((with_reducible refine at_list ?_); (first | (refine gl_t _ (by exact rfl) (by exact rfl) (by exact rfl) (by exact rfl) (by intro hc hv K hK; (first | (refine lmove (by exact rfl) (by exact rfl) (by first | exact gs hc | exact gs hg | exact gs (by simp [hc]) | exact gs (by simp [hc, hg]) | exact rfl) ?_; exact hK) | (refine lwpick_and (by exact rfl) (by exact rfl) (by first | exact rfl | exact gs hc | exact gs hg | exact gs (by simp [hc]) | exact gs (by simp [hc, hg])) (by intro hb; first | exact rfl | exact gs hb | exact gs hc | exact gs hg | exact gs (by simp [hb, hc]) | exact gs (by simp [hb, hc, hg])) ?_; exact hK) | (refine lwpick_or (by exact rfl) (by exact rfl) (by first | exact rfl | exact gs hc | exact gs hg | exact gs (by simp [hc]) | exact gs (by simp [hc, hg])) (by intro hb; first | exact rfl | exact gs hb | exact gs hc | exact gs hg | exact gs (by simp [hb, hc]) | exact gs (by simp [hb, hc, hg])) ?_; exact hK) | (clear hc; (try clear hg); go_step; exact hK) | ((try have hc' := hc; simp at hc'); (try have hg' := hg; simp at hg'); go_step; exact hK))) ?_; (intro l' hl; simp only [List.set_cons_succ, List.set_cons_zero] at hl; subst hl)) | (refine gl_f _ (by exact rfl) (by exact rfl) (by exact rfl) (by exact rfl) (by intro hc hv K hK; (first | (refine lmove (by exact rfl) (by exact rfl) (by first | exact gs hc | exact gs hg | exact gs (by simp [hc]) | exact gs (by simp [hc, hg]) | exact rfl) ?_; exact hK) | (refine lwpick_and (by exact rfl) (by exact rfl) (by first | exact rfl | exact gs hc | exact gs hg | exact gs (by simp [hc]) | exact gs (by simp [hc, hg])) (by intro hb; first | exact rfl | exact gs hb | exact gs hc | exact gs hg | exact gs (by simp [hb, hc]) | exact gs (by simp [hb, hc, hg])) ?_; exact hK) | (refine lwpick_or (by exact rfl) (by exact rfl) (by first | exact rfl | exact gs hc | exact gs hg | exact gs (by simp [hc]) | exact gs (by simp [hc, hg])) (by intro hb; first | exact rfl | exact gs hb | exact gs hc | exact gs hg | exact gs (by simp [hb, hc]) | exact gs (by simp [hb, hc, hg])) ?_; exact hK) | (clear hc; (try clear hg); go_step; exact hK) | ((try have hc' := hc; simp at hc'); (try have hg' := hg; simp at hg'); go_step; exact hK))) ?_; (intro l' hl; simp only [List.set_cons_succ, List.set_cons_zero] at hl; subst hl)) | (refine gl_t2 _ (by exact rfl) (by exact rfl) (by exact rfl) (by exact rfl) (by intro hg hc hv hv2 K hK; (first | (refine lmove (by exact rfl) (by exact rfl) (by first | exact gs hc | exact gs hg | exact gs (by simp [hc]) | exact gs (by simp [hc, hg]) | exact rfl) ?_; exact hK) | (refine lwpick_and (by exact rfl) (by exact rfl) (by first | exact rfl | exact gs hc | exact gs hg | exact gs (by simp [hc]) | exact gs (by simp [hc, hg])) (by intro hb; first | exact rfl | exact gs hb | exact gs hc | exact gs hg | exact gs (by simp [hb, hc]) | exact gs (by simp [hb, hc, hg])) ?_; exact hK) | (refine lwpick_or (by exact rfl) (by exact rfl) (by first | exact rfl | exact gs hc | exact gs hg | exact gs (by simp [hc]) | exact gs (by simp [hc, hg])) (by intro hb; first | exact rfl | exact gs hb | exact gs hc | exact gs hg | exact gs (by simp [hb, hc]) | exact gs (by simp [hb, hc, hg])) ?_; exact hK) | (clear hc; (try clear hg); go_step; exact hK) | ((try have hc' := hc; simp at hc'); (try have hg' := hg; simp at hg'); go_step; exact hK))) ?_; (intro l' hl; simp only [List.set_cons_succ, List.set_cons_zero] at hl; subst hl)) | (refine gl_f2 _ (by exact rfl) (by exact rfl) (by exact rfl) (by exact rfl) (by intro hg hc hv hv2 K hK; (first | (refine lmove (by exact rfl) (by exact rfl) (by first | exact gs hc | exact gs hg | exact gs (by simp [hc]) | exact gs (by simp [hc, hg]) | exact rfl) ?_; exact hK) | (refine lwpick_and (by exact rfl) (by exact rfl) (by first | exact rfl | exact gs hc | exact gs hg | exact gs (by simp [hc]) | exact gs (by simp [hc, hg])) (by intro hb; first | exact rfl | exact gs hb | exact gs hc | exact gs hg | exact gs (by simp [hb, hc]) | exact gs (by simp [hb, hc, hg])) ?_; exact hK) | (refine lwpick_or (by exact rfl) (by exact rfl) (by first | exact rfl | exact gs hc | exact gs hg | exact gs (by simp [hc]) | exact gs (by simp [hc, hg])) (by intro hb; first | exact rfl | exact gs hb | exact gs hc | exact gs hg | exact gs (by simp [hb, hc]) | exact gs (by simp [hb, hc, hg])) ?_; exact hK) | (clear hc; (try clear hg); go_step; exact hK) | ((try have hc' := hc; simp at hc'); (try have hg' := hg; simp at hg'); go_step; exact hK))) ?_; (intro l' hl; simp only [List.set_cons_succ, List.set_cons_zero] at hl; subst hl)) | (refine lpick_and (by exact rfl) (by exact rfl) (by exact rfl) (by exact rfl) (by intro hb; first | exact rfl | exact gs hb) ?_; (intro l' hl; simp only [List.set_cons_succ, List.set_cons_zero] at hl; subst hl)) | (refine lpick_or (by exact rfl) (by exact rfl) (by exact rfl) (by exact rfl) (by intro hb; first | exact rfl | exact gs hb | exact gs (by simp [hb])) ?_; (intro l' hl; simp only [List.set_cons_succ, List.set_cons_zero] at hl; subst hl))))
  go_loopw [6, 7, 8, 9, 10, 11] (fun v6 v7 v8 v9 v10 v11 wr => ∃ (k : Nat) (s : St), RunRel xs s k ∧ Below w.heap.size w wr ∧ v6 = .int .i64 s.stage ∧ v7 = .int .i64 s.notice ∧ v8 = .int .i64 s.decision ∧ v9 = .int .i64 s.last ∧ v10 = .bool s.granted ∧ v11 = .int .i64 k)
    (fun _ _ _ _ _ i _ => xs.length - (intOf i).toNat)
  case atStart => exact ⟨0, st0, run_start xs, Below.refl _ _, rfl, rfl, rfl, rfl, rfl, rfl⟩
  case round =>
    obtain ⟨k, ⟨stage, notice, decision, last, granted⟩, hrl, hb, rfl, rfl, rfl, rfl, rfl, rfl⟩ := hrel
    obtain ⟨hk, _, hn0, hn1, hd0, hd1, hl0, hl1⟩ := id hrl
    dsimp only at hn0 hn1 hd0 hd1 hl0 hl1 ⊢
    have hsz := hb.size
    by_cases hlt : k < xs.length
    · obtain ⟨ab, ao, rfl, hadb, hcell⟩ := (hr.below hb).2 (by omega)
      obtain ⟨e0, e1⟩ := stC_get xs k hlt
      have c0 := hcell _ _ e0
      have c1 := hcell _ _ e1
      rw [← Nat.add_assoc] at c1
      clear hcell e0 e1 hr
      generalize hx : xs[k] = x at *
      obtain ⟨day, kind⟩ := x
      have HX := Lib.hid hx; clear hx
      dsimp only at c0 c1
      have HRL := Lib.hid hrl; clear hrl
      go_upto_region 9999 with (first | (go_at_call 52; refine (next_any _ _ _ _ _ _ hn0 hn1 hd0 hd1).mono ?_; rintro e w1 ⟨rfl, hb1⟩; obtain ⟨hc1, hf1⟩ := bcell hb1; have hz1 : wr.heap.size < w1.heap.size := by have := hb1.size; simp at this; omega) | ((with_reducible refine at_list ?_); (first | (refine gl_t _ (by exact rfl) (by exact rfl) (by exact rfl) (by exact rfl) (by intro hc hv K hK; (first | (refine lmove (by exact rfl) (by exact rfl) (by first | exact gs hc | exact gs hg | exact gs (by simp [hc]) | exact gs (by simp [hc, hg]) | exact rfl) ?_; exact hK) | (refine lwpick_and (by exact rfl) (by exact rfl) (by first | exact rfl | exact gs hc | exact gs hg | exact gs (by simp [hc]) | exact gs (by simp [hc, hg])) (by intro hb; first | exact rfl | exact gs hb | exact gs hc | exact gs hg | exact gs (by simp [hb, hc]) | exact gs (by simp [hb, hc, hg])) ?_; exact hK) | (refine lwpick_or (by exact rfl) (by exact rfl) (by first | exact rfl | exact gs hc | exact gs hg | exact gs (by simp [hc]) | exact gs (by simp [hc, hg])) (by intro hb; first | exact rfl | exact gs hb | exact gs hc | exact gs hg | exact gs (by simp [hb, hc]) | exact gs (by simp [hb, hc, hg])) ?_; exact hK) | (clear hc; (try clear hg); go_step; exact hK) | ((try have hc' := hc; simp at hc'); (try have hg' := hg; simp at hg'); go_step; exact hK))) ?_; (intro l' hl; simp only [List.set_cons_succ, List.set_cons_zero] at hl; subst hl)) | (refine gl_f _ (by exact rfl) (by exact rfl) (by exact rfl) (by exact rfl) (by intro hc hv K hK; (first | (refine lmove (by exact rfl) (by exact rfl) (by first | exact gs hc | exact gs hg | exact gs (by simp [hc]) | exact gs (by simp [hc, hg]) | exact rfl) ?_; exact hK) | (refine lwpick_and (by exact rfl) (by exact rfl) (by first | exact rfl | exact gs hc | exact gs hg | exact gs (by simp [hc]) | exact gs (by simp [hc, hg])) (by intro hb; first | exact rfl | exact gs hb | exact gs hc | exact gs hg | exact gs (by simp [hb, hc]) | exact gs (by simp [hb, hc, hg])) ?_; exact hK) | (refine lwpick_or (by exact rfl) (by exact rfl) (by first | exact rfl | exact gs hc | exact gs hg | exact gs (by simp [hc]) | exact gs (by simp [hc, hg])) (by intro hb; first | exact rfl | exact gs hb | exact gs hc | exact gs hg | exact gs (by simp [hb, hc]) | exact gs (by simp [hb, hc, hg])) ?_; exact hK) | (clear hc; (try clear hg); go_step; exact hK) | ((try have hc' := hc; simp at hc'); (try have hg' := hg; simp at hg'); go_step; exact hK))) ?_; (intro l' hl; simp only [List.set_cons_succ, List.set_cons_zero] at hl; subst hl)) | (refine gl_t2 _ (by exact rfl) (by exact rfl) (by exact rfl) (by exact rfl) (by intro hg hc hv hv2 K hK; (first | (refine lmove (by exact rfl) (by exact rfl) (by first | exact gs hc | exact gs hg | exact gs (by simp [hc]) | exact gs (by simp [hc, hg]) | exact rfl) ?_; exact hK) | (refine lwpick_and (by exact rfl) (by exact rfl) (by first | exact rfl | exact gs hc | exact gs hg | exact gs (by simp [hc]) | exact gs (by simp [hc, hg])) (by intro hb; first | exact rfl | exact gs hb | exact gs hc | exact gs hg | exact gs (by simp [hb, hc]) | exact gs (by simp [hb, hc, hg])) ?_; exact hK) | (refine lwpick_or (by exact rfl) (by exact rfl) (by first | exact rfl | exact gs hc | exact gs hg | exact gs (by simp [hc]) | exact gs (by simp [hc, hg])) (by intro hb; first | exact rfl | exact gs hb | exact gs hc | exact gs hg | exact gs (by simp [hb, hc]) | exact gs (by simp [hb, hc, hg])) ?_; exact hK) | (clear hc; (try clear hg); go_step; exact hK) | ((try have hc' := hc; simp at hc'); (try have hg' := hg; simp at hg'); go_step; exact hK))) ?_; (intro l' hl; simp only [List.set_cons_succ, List.set_cons_zero] at hl; subst hl)) | (refine gl_f2 _ (by exact rfl) (by exact rfl) (by exact rfl) (by exact rfl) (by intro hg hc hv hv2 K hK; (first | (refine lmove (by exact rfl) (by exact rfl) (by first | exact gs hc | exact gs hg | exact gs (by simp [hc]) | exact gs (by simp [hc, hg]) | exact rfl) ?_; exact hK) | (refine lwpick_and (by exact rfl) (by exact rfl) (by first | exact rfl | exact gs hc | exact gs hg | exact gs (by simp [hc]) | exact gs (by simp [hc, hg])) (by intro hb; first | exact rfl | exact gs hb | exact gs hc | exact gs hg | exact gs (by simp [hb, hc]) | exact gs (by simp [hb, hc, hg])) ?_; exact hK) | (refine lwpick_or (by exact rfl) (by exact rfl) (by first | exact rfl | exact gs hc | exact gs hg | exact gs (by simp [hc]) | exact gs (by simp [hc, hg])) (by intro hb; first | exact rfl | exact gs hb | exact gs hc | exact gs hg | exact gs (by simp [hb, hc]) | exact gs (by simp [hb, hc, hg])) ?_; exact hK) | (clear hc; (try clear hg); go_step; exact hK) | ((try have hc' := hc; simp at hc'); (try have hg' := hg; simp at hg'); go_step; exact hK))) ?_; (intro l' hl; simp only [List.set_cons_succ, List.set_cons_zero] at hl; subst hl)) | (refine lpick_and (by exact rfl) (by exact rfl) (by exact rfl) (by exact rfl) (by intro hb; first | exact rfl | exact gs hb) ?_; (intro l' hl; simp only [List.set_cons_succ, List.set_cons_zero] at hl; subst hl)) | (refine lpick_or (by exact rfl) (by exact rfl) (by exact rfl) (by exact rfl) (by intro hb; first | exact rfl | exact gs hb | exact gs (by simp [hb])) ?_; (intro l' hl; simp only [List.set_cons_succ, List.set_cons_zero] at hl; subst hl)))))
      all_goals (try simp only [beq_iff_eq, beq_eq_false_iff_ne, ne_eq] at *)
      all_goals first
        | (refine bodyPost_ret (results_tmp4 rfl _ _ _) rfl ⟨?_, ?_⟩
           · rw [run_stop HRL.out hlt HX.out (by first | exact step_no1 (by assumption) | exact step_no2 (by assumption) (by assumption))]; rfl
           · first | exact ((hb.alloc hsz _)) | exact ((hb.alloc hsz _).trans (hb1.mono (by simp; omega))))
        | (go_roundw
           case rel =>
             have h1 : last ≤ day ∧ day ≤ 1000000000000 := by assumption
             refine ⟨k + 1, _, run_next HRL.out hlt HX.out (step_yes h1 (by assumption)) h1.1 h1.2, (hb.alloc hsz _).trans (hb1.mono (by simp; omega)), rfl, ?_, ?_, rfl, ?_, by go_num⟩
             · dsimp only; first | exact int_if_pos (by omega) | exact int_if_neg (by omega)
             · dsimp only; first | exact int_if_pos (by omega) | exact int_if_neg (by omega)
             · dsimp only; simp [*]
           case measure => simp [intOf]; omega)
    · obtain rfl : k = xs.length := by omega
      have HE := Lib.hid (run_end hrl); clear hrl
      go_wp2
      refine bodyPost_ret (results_tmp4 rfl _ _ _) rfl ⟨?_, hb⟩
      rw [HE.out]; rfl

/-- The state behind all steps; stage -1 if one is not allowed. -/
def runR (xs : List Stp) : St := (runS st0 xs).getD ⟨-1, 0, 0, 0, false⟩
theorem runT_eq (xs : List Stp) : runT xs = #[.int .i64 (runR xs).stage, .int .i64 (runR xs).notice, .int .i64 (runR xs).decision, .bool (runR xs).granted] := by
  unfold runT runR
  cases runS st0 xs <;> rfl
theorem run_calls (xs : List Stp) (A : Option Addr) (c : Nat) (w : World) (hr : Reads w w.heap.size 2 A xs.length (stC xs)) (hm : xs.length ≤ 9223372036854775807) :
    Calls Tryd.prog 37 #[.slice A xs.length c] w fun e w' =>
      e = .returned (.tuple #[.int .i64 (runR xs).stage, .int .i64 (runR xs).notice, .int .i64 (runR xs).decision, .bool (runR xs).granted]) ∧ Below w.heap.size w w' :=
  (run_any xs A c w hr hm).mono fun _ _ h => by rw [← runT_eq]; exact h
end Go.Proofs.YteeonojcihcfiaaDoor
