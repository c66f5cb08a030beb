/- Masks: points, the test of a mask, the point of a cell, squared distances; of the program and of the reference. Masks: the point of a cell, squared distances; of the program and of the reference. The sum of the squared distances of a point to the cells of a mask: plain sums, and the program's spread. The reference's CenterOf. The program's CenterOf. -/
import Derived.Test.YtaaioengebaebaaGreatDoorRows
import Derived.Test.YtaaioengebaebaaGreatDoorK8GA
import Derived.WalkKit
import Derived.ProofKit
import Derived.OpenShut
import Derived.BigQuiet
import Derived.Outline
import Derived.WalkSpells
import Derived.WalkLawsBesides
import Derived.Deep.DeepCutAuto
import Derived.Test.YtaaioengebaebaaGreatDoorK8HF
import Derived.Deep.RegionHeld3
import Derived.Lib.QuietBelow
import Derived.Deep.QuietTactic
import Derived.Lib.Hide
import Derived.StillTailTactics
namespace Go.Proofs.YtaaioengebaebaaGreatDoor
open Go.ChangeShapes Go.WideShapes Go.ChangeAt Go.RowKit Go.Sort

theorem specIn_m (x lo hi : Int) (w : World) : Calls Tryz.prog 100 #[.int .i64 x, .int .i64 lo, .int .i64 hi] w fun e w' => e = .returned (.bool (inB x lo hi)) ∧ w = w' := by
  go_enter Tryz.func100, Tryz.ntmps100
  go_upto_region 9999 with ((with_reducible refine at_list ?_); (first | (refine gl_t _ (by exact rfl) (by exact rfl) (by exact rfl) (by exact rfl) (by intro hc hv K hK; (first | (refine lmove (by exact rfl) (by exact rfl) (by first | exact gs hc | exact gs hg | exact gs (by simp [hc]) | exact gs (by simp [hc, hg]) | exact rfl) ?_; exact hK) | (refine lwpick_and (by exact rfl) (by exact rfl) (by first | exact rfl | exact gs hc | exact gs hg | exact gs (by simp [hc]) | exact gs (by simp [hc, hg])) (by intro hb; first | exact rfl | exact gs hb | exact gs hc | exact gs hg | exact gs (by simp [hb, hc]) | exact gs (by simp [hb, hc, hg])) ?_; exact hK) | (refine lwpick_or (by exact rfl) (by exact rfl) (by first | exact rfl | exact gs hc | exact gs hg | exact gs (by simp [hc]) | exact gs (by simp [hc, hg])) (by intro hb; first | exact rfl | exact gs hb | exact gs hc | exact gs hg | exact gs (by simp [hb, hc]) | exact gs (by simp [hb, hc, hg])) ?_; exact hK) | (clear hc; (try clear hg); go_step; exact hK) | ((try have hc' := hc; simp at hc'); (try have hg' := hg; simp at hg'); go_step; exact hK))) ?_; (intro l' hl; simp only [List.set_cons_succ, List.set_cons_zero] at hl; subst hl)) | (refine gl_f _ (by exact rfl) (by exact rfl) (by exact rfl) (by exact rfl) (by intro hc hv K hK; (first | (refine lmove (by exact rfl) (by exact rfl) (by first | exact gs hc | exact gs hg | exact gs (by simp [hc]) | exact gs (by simp [hc, hg]) | exact rfl) ?_; exact hK) | (refine lwpick_and (by exact rfl) (by exact rfl) (by first | exact rfl | exact gs hc | exact gs hg | exact gs (by simp [hc]) | exact gs (by simp [hc, hg])) (by intro hb; first | exact rfl | exact gs hb | exact gs hc | exact gs hg | exact gs (by simp [hb, hc]) | exact gs (by simp [hb, hc, hg])) ?_; exact hK) | (refine lwpick_or (by exact rfl) (by exact rfl) (by first | exact rfl | exact gs hc | exact gs hg | exact gs (by simp [hc]) | exact gs (by simp [hc, hg])) (by intro hb; first | exact rfl | exact gs hb | exact gs hc | exact gs hg | exact gs (by simp [hb, hc]) | exact gs (by simp [hb, hc, hg])) ?_; exact hK) | (clear hc; (try clear hg); go_step; exact hK) | ((try have hc' := hc; simp at hc'); (try have hg' := hg; simp at hg'); go_step; exact hK))) ?_; (intro l' hl; simp only [List.set_cons_succ, List.set_cons_zero] at hl; subst hl)) | (refine gl_t2 _ (by exact rfl) (by exact rfl) (by exact rfl) (by exact rfl) (by intro hg hc hv hv2 K hK; (first | (refine lmove (by exact rfl) (by exact rfl) (by first | exact gs hc | exact gs hg | exact gs (by simp [hc]) | exact gs (by simp [hc, hg]) | exact rfl) ?_; exact hK) | (refine lwpick_and (by exact rfl) (by exact rfl) (by first | exact rfl | exact gs hc | exact gs hg | exact gs (by simp [hc]) | exact gs (by simp [hc, hg])) (by intro hb; first | exact rfl | exact gs hb | exact gs hc | exact gs hg | exact gs (by simp [hb, hc]) | exact gs (by simp [hb, hc, hg])) ?_; exact hK) | (refine lwpick_or (by exact rfl) (by exact rfl) (by first | exact rfl | exact gs hc | exact gs hg | exact gs (by simp [hc]) | exact gs (by simp [hc, hg])) (by intro hb; first | exact rfl | exact gs hb | exact gs hc | exact gs hg | exact gs (by simp [hb, hc]) | exact gs (by simp [hb, hc, hg])) ?_; exact hK) | (clear hc; (try clear hg); go_step; exact hK) | ((try have hc' := hc; simp at hc'); (try have hg' := hg; simp at hg'); go_step; exact hK))) ?_; (intro l' hl; simp only [List.set_cons_succ, List.set_cons_zero] at hl; subst hl)) | (refine gl_f2 _ (by exact rfl) (by exact rfl) (by exact rfl) (by exact rfl) (by intro hg hc hv hv2 K hK; (first | (refine lmove (by exact rfl) (by exact rfl) (by first | exact gs hc | exact gs hg | exact gs (by simp [hc]) | exact gs (by simp [hc, hg]) | exact rfl) ?_; exact hK) | (refine lwpick_and (by exact rfl) (by exact rfl) (by first | exact rfl | exact gs hc | exact gs hg | exact gs (by simp [hc]) | exact gs (by simp [hc, hg])) (by intro hb; first | exact rfl | exact gs hb | exact gs hc | exact gs hg | exact gs (by simp [hb, hc]) | exact gs (by simp [hb, hc, hg])) ?_; exact hK) | (refine lwpick_or (by exact rfl) (by exact rfl) (by first | exact rfl | exact gs hc | exact gs hg | exact gs (by simp [hc]) | exact gs (by simp [hc, hg])) (by intro hb; first | exact rfl | exact gs hb | exact gs hc | exact gs hg | exact gs (by simp [hb, hc]) | exact gs (by simp [hb, hc, hg])) ?_; exact hK) | (clear hc; (try clear hg); go_step; exact hK) | ((try have hc' := hc; simp at hc'); (try have hg' := hg; simp at hg'); go_step; exact hK))) ?_; (intro l' hl; simp only [List.set_cons_succ, List.set_cons_zero] at hl; subst hl)) | (refine lpick_and (by exact rfl) (by exact rfl) (by exact rfl) (by exact rfl) (by intro hb; first | exact rfl | exact gs hb) ?_; (intro l' hl; simp only [List.set_cons_succ, List.set_cons_zero] at hl; subst hl)) | (refine lpick_or (by exact rfl) (by exact rfl) (by exact rfl) (by exact rfl) (by intro hb; first | exact rfl | exact gs hb | exact gs (by simp [hb])) ?_; (intro l' hl; simp only [List.set_cons_succ, List.set_cons_zero] at hl; subst hl))))
  go_ret
  exact ⟨by simp [inB], rfl⟩
set_option maxRecDepth 100000 in
theorem specPt (x y : Int) (w : World) : Calls Tryz.prog 76 #[.agg #[.int .i64 x, .int .i64 y]] w fun e w' => e = .returned (.bool (ptB x y)) ∧ Below w.heap.size w w' := by
  go_enter Tryz.func76, Tryz.ntmps76
  go_upto_region 9999 with (first | (go_at_call 100; refine (specIn_m _ _ _ _).mono ?_; rintro e w' ⟨rfl, rfl⟩) | ((with_reducible refine at_list ?_); (first | (refine gl_t _ (by exact rfl) (by exact rfl) (by exact rfl) (by exact rfl) (by intro hc hv K hK; (first | ((clear hc; go_step; go_at_call 100; refine (specIn_m _ _ _ _).mono ?_; rintro e w' ⟨rfl, rfl⟩; exact hK)) | (refine lmove (by exact rfl) (by exact rfl) (by first | exact gs hc | exact gs hg | exact gs (by simp [hc]) | exact gs (by simp [hc, hg]) | exact rfl) ?_; exact hK) | (refine lwpick_and (by exact rfl) (by exact rfl) (by first | exact rfl | exact gs hc | exact gs hg | exact gs (by simp [hc]) | exact gs (by simp [hc, hg])) (by intro hb; first | exact rfl | exact gs hb | exact gs hc | exact gs hg | exact gs (by simp [hb, hc]) | exact gs (by simp [hb, hc, hg])) ?_; exact hK) | (refine lwpick_or (by exact rfl) (by exact rfl) (by first | exact rfl | exact gs hc | exact gs hg | exact gs (by simp [hc]) | exact gs (by simp [hc, hg])) (by intro hb; first | exact rfl | exact gs hb | exact gs hc | exact gs hg | exact gs (by simp [hb, hc]) | exact gs (by simp [hb, hc, hg])) ?_; exact hK) | (clear hc; (try clear hg); go_step; exact hK) | ((try have hc' := hc; simp at hc'); (try have hg' := hg; simp at hg'); go_step; exact hK))) ?_; (intro l' hl; simp only [List.set_cons_succ, List.set_cons_zero] at hl; subst hl)) | (refine gl_f _ (by exact rfl) (by exact rfl) (by exact rfl) (by exact rfl) (by intro hc hv K hK; (first | ((clear hc; go_step; go_at_call 100; refine (specIn_m _ _ _ _).mono ?_; rintro e w' ⟨rfl, rfl⟩; exact hK)) | (refine lmove (by exact rfl) (by exact rfl) (by first | exact gs hc | exact gs hg | exact gs (by simp [hc]) | exact gs (by simp [hc, hg]) | exact rfl) ?_; exact hK) | (refine lwpick_and (by exact rfl) (by exact rfl) (by first | exact rfl | exact gs hc | exact gs hg | exact gs (by simp [hc]) | exact gs (by simp [hc, hg])) (by intro hb; first | exact rfl | exact gs hb | exact gs hc | exact gs hg | exact gs (by simp [hb, hc]) | exact gs (by simp [hb, hc, hg])) ?_; exact hK) | (refine lwpick_or (by exact rfl) (by exact rfl) (by first | exact rfl | exact gs hc | exact gs hg | exact gs (by simp [hc]) | exact gs (by simp [hc, hg])) (by intro hb; first | exact rfl | exact gs hb | exact gs hc | exact gs hg | exact gs (by simp [hb, hc]) | exact gs (by simp [hb, hc, hg])) ?_; exact hK) | (clear hc; (try clear hg); go_step; exact hK) | ((try have hc' := hc; simp at hc'); (try have hg' := hg; simp at hg'); go_step; exact hK))) ?_; (intro l' hl; simp only [List.set_cons_succ, List.set_cons_zero] at hl; subst hl)) | (refine gl_t2 _ (by exact rfl) (by exact rfl) (by exact rfl) (by exact rfl) (by intro hg hc hv hv2 K hK; (first | ((clear hc; go_step; go_at_call 100; refine (specIn_m _ _ _ _).mono ?_; rintro e w' ⟨rfl, rfl⟩; exact hK)) | (refine lmove (by exact rfl) (by exact rfl) (by first | exact gs hc | exact gs hg | exact gs (by simp [hc]) | exact gs (by simp [hc, hg]) | exact rfl) ?_; exact hK) | (refine lwpick_and (by exact rfl) (by exact rfl) (by first | exact rfl | exact gs hc | exact gs hg | exact gs (by simp [hc]) | exact gs (by simp [hc, hg])) (by intro hb; first | exact rfl | exact gs hb | exact gs hc | exact gs hg | exact gs (by simp [hb, hc]) | exact gs (by simp [hb, hc, hg])) ?_; exact hK) | (refine lwpick_or (by exact rfl) (by exact rfl) (by first | exact rfl | exact gs hc | exact gs hg | exact gs (by simp [hc]) | exact gs (by simp [hc, hg])) (by intro hb; first | exact rfl | exact gs hb | exact gs hc | exact gs hg | exact gs (by simp [hb, hc]) | exact gs (by simp [hb, hc, hg])) ?_; exact hK) | (clear hc; (try clear hg); go_step; exact hK) | ((try have hc' := hc; simp at hc'); (try have hg' := hg; simp at hg'); go_step; exact hK))) ?_; (intro l' hl; simp only [List.set_cons_succ, List.set_cons_zero] at hl; subst hl)) | (refine gl_f2 _ (by exact rfl) (by exact rfl) (by exact rfl) (by exact rfl) (by intro hg hc hv hv2 K hK; (first | ((clear hc; go_step; go_at_call 100; refine (specIn_m _ _ _ _).mono ?_; rintro e w' ⟨rfl, rfl⟩; exact hK)) | (refine lmove (by exact rfl) (by exact rfl) (by first | exact gs hc | exact gs hg | exact gs (by simp [hc]) | exact gs (by simp [hc, hg]) | exact rfl) ?_; exact hK) | (refine lwpick_and (by exact rfl) (by exact rfl) (by first | exact rfl | exact gs hc | exact gs hg | exact gs (by simp [hc]) | exact gs (by simp [hc, hg])) (by intro hb; first | exact rfl | exact gs hb | exact gs hc | exact gs hg | exact gs (by simp [hb, hc]) | exact gs (by simp [hb, hc, hg])) ?_; exact hK) | (refine lwpick_or (by exact rfl) (by exact rfl) (by first | exact rfl | exact gs hc | exact gs hg | exact gs (by simp [hc]) | exact gs (by simp [hc, hg])) (by intro hb; first | exact rfl | exact gs hb | exact gs hc | exact gs hg | exact gs (by simp [hb, hc]) | exact gs (by simp [hb, hc, hg])) ?_; exact hK) | (clear hc; (try clear hg); go_step; exact hK) | ((try have hc' := hc; simp at hc'); (try have hg' := hg; simp at hg'); go_step; exact hK))) ?_; (intro l' hl; simp only [List.set_cons_succ, List.set_cons_zero] at hl; subst hl)) | (refine lpick_and (by exact rfl) (by exact rfl) (by exact rfl) (by exact rfl) (by intro hb; first | exact rfl | exact gs hb) ?_; (intro l' hl; simp only [List.set_cons_succ, List.set_cons_zero] at hl; subst hl)) | (refine lpick_or (by exact rfl) (by exact rfl) (by exact rfl) (by exact rfl) (by intro hb; first | exact rfl | exact gs hb | exact gs (by simp [hb])) ?_; (intro l' hl; simp only [List.set_cons_succ, List.set_cons_zero] at hl; subst hl)))))
  go_ret
  exact ⟨rfl, (Below.refl _ _).alloc (Nat.le_refl _) _⟩
set_option maxRecDepth 100000 in
theorem implPt (x y : Int) (w : World) : Calls Tryz.prog 74 #[.agg #[.int .i64 x, .int .i64 y]] w fun e w' => e = .returned (.bool (ptB x y)) ∧ Below w.heap.size w w' := by
  go_enter Tryz.func74, Tryz.ntmps74
  go_upto_region 9999 with (first | (go_at_call 86; refine (within_any _ _ _ _).mono ?_; rintro e w' ⟨rfl, rfl⟩) | ((with_reducible refine at_list ?_); (first | (refine gl_t _ (by exact rfl) (by exact rfl) (by exact rfl) (by exact rfl) (by intro hc hv K hK; (first | ((clear hc; go_step; go_at_call 86; refine (within_any _ _ _ _).mono ?_; rintro e w' ⟨rfl, rfl⟩; exact hK)) | (refine lmove (by exact rfl) (by exact rfl) (by first | exact gs hc | exact gs hg | exact gs (by simp [hc]) | exact gs (by simp [hc, hg]) | exact rfl) ?_; exact hK) | (refine lwpick_and (by exact rfl) (by exact rfl) (by first | exact rfl | exact gs hc | exact gs hg | exact gs (by simp [hc]) | exact gs (by simp [hc, hg])) (by intro hb; first | exact rfl | exact gs hb | exact gs hc | exact gs hg | exact gs (by simp [hb, hc]) | exact gs (by simp [hb, hc, hg])) ?_; exact hK) | (refine lwpick_or (by exact rfl) (by exact rfl) (by first | exact rfl | exact gs hc | exact gs hg | exact gs (by simp [hc]) | exact gs (by simp [hc, hg])) (by intro hb; first | exact rfl | exact gs hb | exact gs hc | exact gs hg | exact gs (by simp [hb, hc]) | exact gs (by simp [hb, hc, hg])) ?_; exact hK) | (clear hc; (try clear hg); go_step; exact hK) | ((try have hc' := hc; simp at hc'); (try have hg' := hg; simp at hg'); go_step; exact hK))) ?_; (intro l' hl; simp only [List.set_cons_succ, List.set_cons_zero] at hl; subst hl)) | (refine gl_f _ (by exact rfl) (by exact rfl) (by exact rfl) (by exact rfl) (by intro hc hv K hK; (first | ((clear hc; go_step; go_at_call 86; refine (within_any _ _ _ _).mono ?_; rintro e w' ⟨rfl, rfl⟩; exact hK)) | (refine lmove (by exact rfl) (by exact rfl) (by first | exact gs hc | exact gs hg | exact gs (by simp [hc]) | exact gs (by simp [hc, hg]) | exact rfl) ?_; exact hK) | (refine lwpick_and (by exact rfl) (by exact rfl) (by first | exact rfl | exact gs hc | exact gs hg | exact gs (by simp [hc]) | exact gs (by simp [hc, hg])) (by intro hb; first | exact rfl | exact gs hb | exact gs hc | exact gs hg | exact gs (by simp [hb, hc]) | exact gs (by simp [hb, hc, hg])) ?_; exact hK) | (refine lwpick_or (by exact rfl) (by exact rfl) (by first | exact rfl | exact gs hc | exact gs hg | exact gs (by simp [hc]) | exact gs (by simp [hc, hg])) (by intro hb; first | exact rfl | exact gs hb | exact gs hc | exact gs hg | exact gs (by simp [hb, hc]) | exact gs (by simp [hb, hc, hg])) ?_; exact hK) | (clear hc; (try clear hg); go_step; exact hK) | ((try have hc' := hc; simp at hc'); (try have hg' := hg; simp at hg'); go_step; exact hK))) ?_; (intro l' hl; simp only [List.set_cons_succ, List.set_cons_zero] at hl; subst hl)) | (refine gl_t2 _ (by exact rfl) (by exact rfl) (by exact rfl) (by exact rfl) (by intro hg hc hv hv2 K hK; (first | ((clear hc; go_step; go_at_call 86; refine (within_any _ _ _ _).mono ?_; rintro e w' ⟨rfl, rfl⟩; exact hK)) | (refine lmove (by exact rfl) (by exact rfl) (by first | exact gs hc | exact gs hg | exact gs (by simp [hc]) | exact gs (by simp [hc, hg]) | exact rfl) ?_; exact hK) | (refine lwpick_and (by exact rfl) (by exact rfl) (by first | exact rfl | exact gs hc | exact gs hg | exact gs (by simp [hc]) | exact gs (by simp [hc, hg])) (by intro hb; first | exact rfl | exact gs hb | exact gs hc | exact gs hg | exact gs (by simp [hb, hc]) | exact gs (by simp [hb, hc, hg])) ?_; exact hK) | (refine lwpick_or (by exact rfl) (by exact rfl) (by first | exact rfl | exact gs hc | exact gs hg | exact gs (by simp [hc]) | exact gs (by simp [hc, hg])) (by intro hb; first | exact rfl | exact gs hb | exact gs hc | exact gs hg | exact gs (by simp [hb, hc]) | exact gs (by simp [hb, hc, hg])) ?_; exact hK) | (clear hc; (try clear hg); go_step; exact hK) | ((try have hc' := hc; simp at hc'); (try have hg' := hg; simp at hg'); go_step; exact hK))) ?_; (intro l' hl; simp only [List.set_cons_succ, List.set_cons_zero] at hl; subst hl)) | (refine gl_f2 _ (by exact rfl) (by exact rfl) (by exact rfl) (by exact rfl) (by intro hg hc hv hv2 K hK; (first | ((clear hc; go_step; go_at_call 86; refine (within_any _ _ _ _).mono ?_; rintro e w' ⟨rfl, rfl⟩; exact hK)) | (refine lmove (by exact rfl) (by exact rfl) (by first | exact gs hc | exact gs hg | exact gs (by simp [hc]) | exact gs (by simp [hc, hg]) | exact rfl) ?_; exact hK) | (refine lwpick_and (by exact rfl) (by exact rfl) (by first | exact rfl | exact gs hc | exact gs hg | exact gs (by simp [hc]) | exact gs (by simp [hc, hg])) (by intro hb; first | exact rfl | exact gs hb | exact gs hc | exact gs hg | exact gs (by simp [hb, hc]) | exact gs (by simp [hb, hc, hg])) ?_; exact hK) | (refine lwpick_or (by exact rfl) (by exact rfl) (by first | exact rfl | exact gs hc | exact gs hg | exact gs (by simp [hc]) | exact gs (by simp [hc, hg])) (by intro hb; first | exact rfl | exact gs hb | exact gs hc | exact gs hg | exact gs (by simp [hb, hc]) | exact gs (by simp [hb, hc, hg])) ?_; exact hK) | (clear hc; (try clear hg); go_step; exact hK) | ((try have hc' := hc; simp at hc'); (try have hg' := hg; simp at hg'); go_step; exact hK))) ?_; (intro l' hl; simp only [List.set_cons_succ, List.set_cons_zero] at hl; subst hl)) | (refine lpick_and (by exact rfl) (by exact rfl) (by exact rfl) (by exact rfl) (by intro hb; first | exact rfl | exact gs hb) ?_; (intro l' hl; simp only [List.set_cons_succ, List.set_cons_zero] at hl; subst hl)) | (refine lpick_or (by exact rfl) (by exact rfl) (by exact rfl) (by exact rfl) (by intro hb; first | exact rfl | exact gs hb | exact gs (by simp [hb])) ?_; (intro l' hl; simp only [List.set_cons_succ, List.set_cons_zero] at hl; subst hl)))))
  go_ret
  exact ⟨rfl, (Below.refl _ _).alloc (Nat.le_refl _) _⟩

def bC (xs : List Bool) : List Value := xs.map Value.bool
/-- A mask by value. -/
def maskV (x y W H : Int) (A : Option Addr) (n c : Nat) : Value := .agg #[.int .i64 x, .int .i64 y, .int .i64 W, .int .i64 H, .slice A n c]
def maskB (x y W H : Int) (n : Nat) : Bool := inB W 1 24 && (inB H 1 24 && (ptB x y && (ptB (x + W - 1) (y + H - 1) && ((n : Int) == W * H))))

theorem lengthB (A : Option Addr) (n c : Nat) (_hn : n ≤ 9223372036854775807) (w : World) : Calls Tryz.prog 87 #[.slice A n c] w fun e w' => e = .returned (.int .i64 n) ∧ w = w' := by
  go_enter Tryz.func87, Tryz.ntmps87
  go_wp2
  go_ret
  exact ⟨rfl, rfl⟩

set_option maxRecDepth 100000 in
set_option maxHeartbeats 4000000 in
theorem specMask (x y W H : Int) (A : Option Addr) (n c : Nat) (_hn : n ≤ 9223372036854775807) (w : World) :
    Calls Tryz.prog 71 #[maskV x y W H A n c] w fun e w' => e = .returned (.bool (maskB x y W H n)) ∧ Below w.heap.size w w' := by
  unfold maskV
  cases h1 : inB W 1 24
  · have H1 := Lib.hid h1; clear h1
    go_enter Tryz.func71, Tryz.ntmps71
    go_wp2_with (first | (go_at_call 100; (with_reducible refine (specIn_m W 1 24 _).mono ?_); rw [H1.out]; rintro e w' ⟨rfl, rfl⟩) | (go_at_call 100; (with_reducible refine (specIn_m H 1 24 _).mono ?_); rw [H2.out]; rintro e w' ⟨rfl, rfl⟩) | (go_at_call 76; (with_reducible refine (specPt x y _).mono ?_); rw [H3.out]; rintro e w1 ⟨rfl, p1⟩; obtain ⟨q1, q2⟩ := bcell p1; have z1 : w.heap.size < w1.heap.size := by have := p1.size; simp at this; omega) | (go_at_call 76; (with_reducible refine (specPt (x + W - 1) (y + H - 1) _).mono ?_); rw [H4.out]; rintro e w2 ⟨rfl, p2⟩; obtain ⟨q3, q4⟩ := bcell p2))
    go_ret
    exact ⟨by rw [maskB, H1.out]; rfl, (Below.refl _ _).alloc (Nat.le_refl _) _⟩
  · have b1 : 1 ≤ W := by simp [inB] at h1; omega
    have b2 : W ≤ 24 := by simp [inB] at h1; omega
    have H1 := Lib.hid h1; clear h1
    cases h2 : inB H 1 24
    · have H2 := Lib.hid h2; clear h2
      go_enter Tryz.func71, Tryz.ntmps71
      go_wp2_with (first | (go_at_call 100; (with_reducible refine (specIn_m W 1 24 _).mono ?_); rw [H1.out]; rintro e w' ⟨rfl, rfl⟩) | (go_at_call 100; (with_reducible refine (specIn_m H 1 24 _).mono ?_); rw [H2.out]; rintro e w' ⟨rfl, rfl⟩) | (go_at_call 76; (with_reducible refine (specPt x y _).mono ?_); rw [H3.out]; rintro e w1 ⟨rfl, p1⟩; obtain ⟨q1, q2⟩ := bcell p1; have z1 : w.heap.size < w1.heap.size := by have := p1.size; simp at this; omega) | (go_at_call 76; (with_reducible refine (specPt (x + W - 1) (y + H - 1) _).mono ?_); rw [H4.out]; rintro e w2 ⟨rfl, p2⟩; obtain ⟨q3, q4⟩ := bcell p2))
      go_ret
      exact ⟨by rw [maskB, H1.out, H2.out]; rfl, (Below.refl _ _).alloc (Nat.le_refl _) _⟩
    · have b3 : 1 ≤ H := by simp [inB] at h2; omega
      have b4 : H ≤ 24 := by simp [inB] at h2; omega
      have H2 := Lib.hid h2; clear h2
      cases h3 : ptB x y
      · have H3 := Lib.hid h3; clear h3
        go_enter Tryz.func71, Tryz.ntmps71
        go_wp2_with (first | (go_at_call 100; (with_reducible refine (specIn_m W 1 24 _).mono ?_); rw [H1.out]; rintro e w' ⟨rfl, rfl⟩) | (go_at_call 100; (with_reducible refine (specIn_m H 1 24 _).mono ?_); rw [H2.out]; rintro e w' ⟨rfl, rfl⟩) | (go_at_call 76; (with_reducible refine (specPt x y _).mono ?_); rw [H3.out]; rintro e w1 ⟨rfl, p1⟩; obtain ⟨q1, q2⟩ := bcell p1; have z1 : w.heap.size < w1.heap.size := by have := p1.size; simp at this; omega) | (go_at_call 76; (with_reducible refine (specPt (x + W - 1) (y + H - 1) _).mono ?_); rw [H4.out]; rintro e w2 ⟨rfl, p2⟩; obtain ⟨q3, q4⟩ := bcell p2))
        go_ret
        exact ⟨by rw [maskB, H1.out, H2.out, H3.out]; rfl, ((Below.refl _ _).alloc (Nat.le_refl _) _).trans (p1.mono (by simp))⟩
      · have b5 : -1000 ≤ x ∧ x ≤ 1000 ∧ -1000 ≤ y ∧ y ≤ 1000 := by simp [ptB, inB] at h3; omega
        obtain ⟨b5, b6, b7, b8⟩ := b5
        have H3 := Lib.hid h3; clear h3
        cases h4 : ptB (x + W - 1) (y + H - 1)
        · have H4 := Lib.hid h4; clear h4
          go_enter Tryz.func71, Tryz.ntmps71
          go_wp2_with (first | (go_at_call 100; (with_reducible refine (specIn_m W 1 24 _).mono ?_); rw [H1.out]; rintro e w' ⟨rfl, rfl⟩) | (go_at_call 100; (with_reducible refine (specIn_m H 1 24 _).mono ?_); rw [H2.out]; rintro e w' ⟨rfl, rfl⟩) | (go_at_call 76; (with_reducible refine (specPt x y _).mono ?_); rw [H3.out]; rintro e w1 ⟨rfl, p1⟩; obtain ⟨q1, q2⟩ := bcell p1; have z1 : w.heap.size < w1.heap.size := by have := p1.size; simp at this; omega) | (go_at_call 76; (with_reducible refine (specPt (x + W - 1) (y + H - 1) _).mono ?_); rw [H4.out]; rintro e w2 ⟨rfl, p2⟩; obtain ⟨q3, q4⟩ := bcell p2))
          go_ret
          exact ⟨by rw [maskB, H1.out, H2.out, H3.out, H4.out]; rfl, (((Below.refl _ _).alloc (Nat.le_refl _) _).trans (p1.mono (by simp))).trans (p2.mono (Nat.le_of_lt z1))⟩
        · have H4 := Lib.hid h4; clear h4
          have b9 : 0 ≤ W * H := Int.mul_nonneg (by omega) (by omega)
          have b10 : W * H ≤ 24 * 24 := Int.mul_le_mul b2 b4 (by omega) (by omega)
          go_enter Tryz.func71, Tryz.ntmps71
          go_wp2_with (first | (go_at_call 100; (with_reducible refine (specIn_m W 1 24 _).mono ?_); rw [H1.out]; rintro e w' ⟨rfl, rfl⟩) | (go_at_call 100; (with_reducible refine (specIn_m H 1 24 _).mono ?_); rw [H2.out]; rintro e w' ⟨rfl, rfl⟩) | (go_at_call 76; (with_reducible refine (specPt x y _).mono ?_); rw [H3.out]; rintro e w1 ⟨rfl, p1⟩; obtain ⟨q1, q2⟩ := bcell p1; have z1 : w.heap.size < w1.heap.size := by have := p1.size; simp at this; omega) | (go_at_call 76; (with_reducible refine (specPt (x + W - 1) (y + H - 1) _).mono ?_); rw [H4.out]; rintro e w2 ⟨rfl, p2⟩; obtain ⟨q3, q4⟩ := bcell p2))
          go_ret
          exact ⟨ret_bool (by rw [maskB, H1.out, H2.out, H3.out, H4.out]; rfl), (((Below.refl _ _).alloc (Nat.le_refl _) _).trans (p1.mono (by simp))).trans (p2.mono (Nat.le_of_lt z1))⟩


set_option maxRecDepth 100000 in
set_option maxHeartbeats 4000000 in
theorem implMask (x y W H : Int) (A : Option Addr) (n c : Nat) (hn : n ≤ 9223372036854775807) (w : World) :
    Calls Tryz.prog 52 #[maskV x y W H A n c] w fun e w' => e = .returned (.bool (maskB x y W H n)) ∧ Below w.heap.size w w' := by
  have start : ∀ W0, W0 = w.alloc (.cells #[.int .i64 x, .int .i64 y, .int .i64 W, .int .i64 H, .slice A n c] 40) → Below w.heap.size w W0 ∧ (∀ d os, (grow (redrawn W0 d) os).cell? ⟨w.heap.size, 0, none⟩ = some (.int .i64 x)) ∧ (∀ d os, (grow (redrawn W0 d) os).cell? ⟨w.heap.size, 1, none⟩ = some (.int .i64 y)) ∧ (∀ d os, (grow (redrawn W0 d) os).cell? ⟨w.heap.size, 2, none⟩ = some (.int .i64 W)) ∧ (∀ d os, (grow (redrawn W0 d) os).cell? ⟨w.heap.size, 3, none⟩ = some (.int .i64 H)) ∧ (∀ d os, (grow (redrawn W0 d) os).cell? ⟨w.heap.size, 4, none⟩ = some (.slice A n c)) := by
    rintro W0 rfl
    have hB := Blk.new w 40 #[.int .i64 x, .int .i64 y, .int .i64 W, .int .i64 H, .slice A n c]
    exact ⟨(Below.refl _ _).alloc (Nat.le_refl _) _, cell_regrown (by rw [hB.cell]; rfl), cell_regrown (by rw [hB.cell]; rfl), cell_regrown (by rw [hB.cell]; rfl), cell_regrown (by rw [hB.cell]; rfl), cell_regrown (by rw [hB.cell]; rfl)⟩
  have ST := Lib.hid start; clear start
  unfold maskV
  cases h1 : inB W 1 24
  · have H1 := Lib.hid h1; clear h1
    go_enter Tryz.func52, Tryz.ntmps52
    go_upto_region 1 with (fail)
    generalize hW : w.alloc (.cells #[.int .i64 x, .int .i64 y, .int .i64 W, .int .i64 H, .slice A n c] 40) = W0
    obtain ⟨hb, k0, k1, k2, k3, k4⟩ := ST.out W0 hW.symm
    clear hW
    have r1 : ∀ d os, Calls Tryz.prog 86 #[.int .i64 W, .int .i64 1, .int .i64 24] (grow (redrawn W0 d) os) (fun e w'' => e = .returned (.bool false) ∧ ∃ p : Regrown, w'' = grow (redrawn W0 p.d) p.os) := fun d os => Calls.regrown_of (by rw [← H1.out]; exact same_below (within_any W 1 24 _))
    refine wp_region_quiet_below (by kernel_rfl) (by kernel_rfl) ?_
    repeat (first | go_big_quiet_step ((first | with_reducible exact r1 _ _)))
    refine wpQuiet_nil ?_
    intro _ hw'
    obtain ⟨⟨dq, osq⟩, rfl⟩ := hw'
    go_wp2_with fail
    go_ret
    exact ⟨ret_bool (by rw [maskB, H1.out]; rfl), hb.trans ((below_regrown W0 dq osq).mono hb.size)⟩
  · have b1 : 1 ≤ W := by simp [inB] at h1; omega
    have b2 : W ≤ 24 := by simp [inB] at h1; omega
    have H1 := Lib.hid h1; clear h1
    cases h2 : inB H 1 24
    · have H2 := Lib.hid h2; clear h2
      go_enter Tryz.func52, Tryz.ntmps52
      go_upto_region 1 with (fail)
      generalize hW : w.alloc (.cells #[.int .i64 x, .int .i64 y, .int .i64 W, .int .i64 H, .slice A n c] 40) = W0
      obtain ⟨hb, k0, k1, k2, k3, k4⟩ := ST.out W0 hW.symm
      clear hW
      have r1 : ∀ d os, Calls Tryz.prog 86 #[.int .i64 W, .int .i64 1, .int .i64 24] (grow (redrawn W0 d) os) (fun e w'' => e = .returned (.bool true) ∧ ∃ p : Regrown, w'' = grow (redrawn W0 p.d) p.os) := fun d os => Calls.regrown_of (by rw [← H1.out]; exact same_below (within_any W 1 24 _))
      have r2 : ∀ d os, Calls Tryz.prog 86 #[.int .i64 H, .int .i64 1, .int .i64 24] (grow (redrawn W0 d) os) (fun e w'' => e = .returned (.bool false) ∧ ∃ p : Regrown, w'' = grow (redrawn W0 p.d) p.os) := fun d os => Calls.regrown_of (by rw [← H2.out]; exact same_below (within_any H 1 24 _))
      refine wp_region_quiet_below (by kernel_rfl) (by kernel_rfl) ?_
      repeat (first | go_big_quiet_step ((first | with_reducible exact r1 _ _ | with_reducible exact r2 _ _)))
      refine wpQuiet_nil ?_
      intro _ hw'
      obtain ⟨⟨dq, osq⟩, rfl⟩ := hw'
      go_wp2_with fail
      go_ret
      exact ⟨ret_bool (by rw [maskB, H1.out, H2.out]; rfl), hb.trans ((below_regrown W0 dq osq).mono hb.size)⟩
    · have b3 : 1 ≤ H := by simp [inB] at h2; omega
      have b4 : H ≤ 24 := by simp [inB] at h2; omega
      have H2 := Lib.hid h2; clear h2
      cases h3 : ptB x y
      · have H3 := Lib.hid h3; clear h3
        go_enter Tryz.func52, Tryz.ntmps52
        go_upto_region 1 with (fail)
        generalize hW : w.alloc (.cells #[.int .i64 x, .int .i64 y, .int .i64 W, .int .i64 H, .slice A n c] 40) = W0
        obtain ⟨hb, k0, k1, k2, k3, k4⟩ := ST.out W0 hW.symm
        clear hW
        have r1 : ∀ d os, Calls Tryz.prog 86 #[.int .i64 W, .int .i64 1, .int .i64 24] (grow (redrawn W0 d) os) (fun e w'' => e = .returned (.bool true) ∧ ∃ p : Regrown, w'' = grow (redrawn W0 p.d) p.os) := fun d os => Calls.regrown_of (by rw [← H1.out]; exact same_below (within_any W 1 24 _))
        have r2 : ∀ d os, Calls Tryz.prog 86 #[.int .i64 H, .int .i64 1, .int .i64 24] (grow (redrawn W0 d) os) (fun e w'' => e = .returned (.bool true) ∧ ∃ p : Regrown, w'' = grow (redrawn W0 p.d) p.os) := fun d os => Calls.regrown_of (by rw [← H2.out]; exact same_below (within_any H 1 24 _))
        have r3 : ∀ d os, Calls Tryz.prog 74 #[.agg #[.int .i64 x, .int .i64 y]] (grow (redrawn W0 d) os) (fun e w'' => e = .returned (.bool false) ∧ ∃ p : Regrown, w'' = grow (redrawn W0 p.d) p.os) := fun d os => Calls.regrown_of (by rw [← H3.out]; exact implPt x y _)
        refine wp_region_quiet_below (by kernel_rfl) (by kernel_rfl) ?_
        repeat (first | go_big_quiet_step ((first | with_reducible exact r1 _ _ | with_reducible exact r2 _ _ | with_reducible exact r3 _ _)))
        refine wpQuiet_nil ?_
        intro _ hw'
        obtain ⟨⟨dq, osq⟩, rfl⟩ := hw'
        go_wp2_with fail
        go_ret
        exact ⟨ret_bool (by rw [maskB, H1.out, H2.out, H3.out]; rfl), hb.trans ((below_regrown W0 dq osq).mono hb.size)⟩
      · have b5 : -1000 ≤ x ∧ x ≤ 1000 ∧ -1000 ≤ y ∧ y ≤ 1000 := by simp [ptB, inB] at h3; omega
        obtain ⟨b5, b6, b7, b8⟩ := b5
        have H3 := Lib.hid h3; clear h3
        cases h4 : ptB (x + W - 1) (y + H - 1)
        · have H4 := Lib.hid h4; clear h4
          go_enter Tryz.func52, Tryz.ntmps52
          go_upto_region 1 with (fail)
          generalize hW : w.alloc (.cells #[.int .i64 x, .int .i64 y, .int .i64 W, .int .i64 H, .slice A n c] 40) = W0
          obtain ⟨hb, k0, k1, k2, k3, k4⟩ := ST.out W0 hW.symm
          clear hW
          have r1 : ∀ d os, Calls Tryz.prog 86 #[.int .i64 W, .int .i64 1, .int .i64 24] (grow (redrawn W0 d) os) (fun e w'' => e = .returned (.bool true) ∧ ∃ p : Regrown, w'' = grow (redrawn W0 p.d) p.os) := fun d os => Calls.regrown_of (by rw [← H1.out]; exact same_below (within_any W 1 24 _))
          have r2 : ∀ d os, Calls Tryz.prog 86 #[.int .i64 H, .int .i64 1, .int .i64 24] (grow (redrawn W0 d) os) (fun e w'' => e = .returned (.bool true) ∧ ∃ p : Regrown, w'' = grow (redrawn W0 p.d) p.os) := fun d os => Calls.regrown_of (by rw [← H2.out]; exact same_below (within_any H 1 24 _))
          have r3 : ∀ d os, Calls Tryz.prog 74 #[.agg #[.int .i64 x, .int .i64 y]] (grow (redrawn W0 d) os) (fun e w'' => e = .returned (.bool true) ∧ ∃ p : Regrown, w'' = grow (redrawn W0 p.d) p.os) := fun d os => Calls.regrown_of (by rw [← H3.out]; exact implPt x y _)
          have r4 : ∀ d os, Calls Tryz.prog 74 #[.agg #[.int .i64 (x + W - 1), .int .i64 (y + H - 1)]] (grow (redrawn W0 d) os) (fun e w'' => e = .returned (.bool false) ∧ ∃ p : Regrown, w'' = grow (redrawn W0 p.d) p.os) := fun d os => Calls.regrown_of (by rw [← H4.out]; exact implPt (x + W - 1) (y + H - 1) _)
          refine wp_region_quiet_below (by kernel_rfl) (by kernel_rfl) ?_
          repeat (first | go_big_quiet_step ((first | with_reducible exact r1 _ _ | with_reducible exact r2 _ _ | with_reducible exact r3 _ _ | with_reducible exact r4 _ _)))
          refine wpQuiet_nil ?_
          intro _ hw'
          obtain ⟨⟨dq, osq⟩, rfl⟩ := hw'
          go_wp2_with fail
          go_ret
          exact ⟨ret_bool (by rw [maskB, H1.out, H2.out, H3.out, H4.out]; rfl), hb.trans ((below_regrown W0 dq osq).mono hb.size)⟩
        · have H4 := Lib.hid h4; clear h4
          have b9 : 0 ≤ W * H := Int.mul_nonneg (by omega) (by omega)
          have b10 : W * H ≤ 24 * 24 := Int.mul_le_mul b2 b4 (by omega) (by omega)
          go_enter Tryz.func52, Tryz.ntmps52
          go_upto_region 1 with (fail)
          generalize hW : w.alloc (.cells #[.int .i64 x, .int .i64 y, .int .i64 W, .int .i64 H, .slice A n c] 40) = W0
          obtain ⟨hb, k0, k1, k2, k3, k4⟩ := ST.out W0 hW.symm
          clear hW
          have r1 : ∀ d os, Calls Tryz.prog 86 #[.int .i64 W, .int .i64 1, .int .i64 24] (grow (redrawn W0 d) os) (fun e w'' => e = .returned (.bool true) ∧ ∃ p : Regrown, w'' = grow (redrawn W0 p.d) p.os) := fun d os => Calls.regrown_of (by rw [← H1.out]; exact same_below (within_any W 1 24 _))
          have r2 : ∀ d os, Calls Tryz.prog 86 #[.int .i64 H, .int .i64 1, .int .i64 24] (grow (redrawn W0 d) os) (fun e w'' => e = .returned (.bool true) ∧ ∃ p : Regrown, w'' = grow (redrawn W0 p.d) p.os) := fun d os => Calls.regrown_of (by rw [← H2.out]; exact same_below (within_any H 1 24 _))
          have r3 : ∀ d os, Calls Tryz.prog 74 #[.agg #[.int .i64 x, .int .i64 y]] (grow (redrawn W0 d) os) (fun e w'' => e = .returned (.bool true) ∧ ∃ p : Regrown, w'' = grow (redrawn W0 p.d) p.os) := fun d os => Calls.regrown_of (by rw [← H3.out]; exact implPt x y _)
          have r4 : ∀ d os, Calls Tryz.prog 74 #[.agg #[.int .i64 (x + W - 1), .int .i64 (y + H - 1)]] (grow (redrawn W0 d) os) (fun e w'' => e = .returned (.bool true) ∧ ∃ p : Regrown, w'' = grow (redrawn W0 p.d) p.os) := fun d os => Calls.regrown_of (by rw [← H4.out]; exact implPt (x + W - 1) (y + H - 1) _)
          have r5 : ∀ d os, Calls Tryz.prog 87 #[.slice A n c] (grow (redrawn W0 d) os) (fun e w'' => e = .returned (.int .i64 n) ∧ ∃ p : Regrown, w'' = grow (redrawn W0 p.d) p.os) := fun d os => Calls.regrown_of (same_below (lengthB A n c hn _))
          refine wp_region_quiet_below (by kernel_rfl) (by kernel_rfl) ?_
          repeat (first | go_big_quiet_step ((first | with_reducible exact r1 _ _ | with_reducible exact r2 _ _ | with_reducible exact r3 _ _ | with_reducible exact r4 _ _ | with_reducible exact r5 _ _)))
          refine wpQuiet_nil ?_
          intro _ hw'
          obtain ⟨⟨dq, osq⟩, rfl⟩ := hw'
          go_wp2_with fail
          go_ret
          exact ⟨ret_bool (by rw [maskB, H1.out, H2.out, H3.out, H4.out]; rfl), hb.trans ((below_regrown W0 dq osq).mono hb.size)⟩

end Go.Proofs.YtaaioengebaebaaGreatDoor
namespace Go.Proofs.YtaaioengebaebaaGreatDoor
open Go.ChangeShapes Go.WideShapes Go.ChangeAt Go.RowKit Go.Sort



def pX (x W : Int) (i : Nat) : Int := x + (i : Int) % W
def pY (y W : Int) (i : Nat) : Int := y + (i : Int) / W
theorem mod_bd (i : Nat) {W : Int} (h1 : 1 ≤ W) (h2 : W ≤ 24) (hi : i ≤ 576) : 0 ≤ (i : Int) % W ∧ (i : Int) % W ≤ 23 ∧ 0 ≤ (i : Int) / W ∧ (i : Int) / W ≤ 576 := by
  have a := Int.emod_nonneg (i : Int) (show W ≠ 0 by omega)
  have b := Int.emod_lt_of_pos (i : Int) (show 0 < W by omega)
  have c := Int.ediv_nonneg (show (0 : Int) ≤ i by omega) (show 0 ≤ W by omega)
  have d := Int.ediv_le_self W (show (0 : Int) ≤ i by omega)
  omega
theorem pX_co {x W : Int} (i : Nat) (hx : -1000 ≤ x) (hx' : x ≤ 1000) (h1 : 1 ≤ W) (h2 : W ≤ 24) (hi : i ≤ 576) : Co (pX x W i) := by
  have := mod_bd i h1 h2 hi; unfold Co pX; omega
theorem pY_co {y W : Int} (i : Nat) (hx : -1000 ≤ y) (hx' : y ≤ 1000) (h1 : 1 ≤ W) (h2 : W ≤ 24) (hi : i ≤ 576) : Co (pY y W i) := by
  have := mod_bd i h1 h2 hi; unfold Co pY; omega

theorem two_blocks (w : World) (t t' : TypeId) (a b c d e : Value) :
    let W0 := (w.alloc (.cells #[a, b, c, d, e] t)).alloc (.cells #[.int .i64 0, .int .i64 0] t')
    W0.cell? ⟨w.heap.size, 0, none⟩ = some a ∧ W0.cell? ⟨w.heap.size, 1, none⟩ = some b ∧ W0.cell? ⟨w.heap.size, 2, none⟩ = some c ∧ W0.cell? ⟨w.heap.size, 3, none⟩ = some d ∧ W0.cell? ⟨w.heap.size, 4, none⟩ = some e ∧
      Blk W0 (w.heap.size + 1) t' #[.int .i64 0, .int .i64 0] ∧ W0.heap.size = w.heap.size + 2 ∧ Below w.heap.size w W0 := by
  have hB := (Blk.new w t #[a, b, c, d, e]).alloc (.cells #[.int .i64 0, .int .i64 0] t')
  have hC := Blk.new (w.alloc (.cells #[a, b, c, d, e] t)) t' #[.int .i64 0, .int .i64 0]
  refine ⟨?_, ?_, ?_, ?_, ?_, ?_, ?_, ?_⟩
  · rw [hB.cell]; rfl
  · rw [hB.cell]; rfl
  · rw [hB.cell]; rfl
  · rw [hB.cell]; rfl
  · rw [hB.cell]; rfl
  · simpa using hC
  · simp
  · exact ((Below.refl _ _).alloc (Nat.le_refl _) _).alloc (by simp) _
set_option maxRecDepth 100000 in
theorem specPoint (x y W H : Int) (A : Option Addr) (n c : Nat) (i : Nat) (hx : -1000 ≤ x) (hx' : x ≤ 1000) (hy : -1000 ≤ y) (hy' : y ≤ 1000) (h1 : 1 ≤ W) (h2 : W ≤ 24) (hi : i ≤ 576) (w : World) :
    Calls Tryz.prog 46 #[maskV x y W H A n c, .int .i64 i] w fun e w' => e = .returned (.agg #[.int .i64 (pX x W i), .int .i64 (pY y W i)]) ∧ Below w.heap.size w w' := by
  obtain ⟨m1, m2, m3, m4⟩ := mod_bd i h1 h2 hi
  unfold maskV
  go_enter Tryz.func46, Tryz.ntmps46
  go_wp2_with fail
  obtain ⟨k0, k1, k2, k3, k4, k5, k6, hb⟩ := two_blocks w 40 32 (.int .i64 x) (.int .i64 y) (.int .i64 W) (.int .i64 H) (.slice A n c)
  generalize (w.alloc (.cells #[.int .i64 x, .int .i64 y, .int .i64 W, .int .i64 H, .slice A n c] 40)).alloc (.cells #[.int .i64 0, .int .i64 0] 32) = W0 at *
  have n0 : ¬ W = 0 := by omega
  have q1 : (i : Int).tmod W = i % W := Int.tmod_eq_emod_of_nonneg (by omega)
  have q2 : IntKind.i64.wrap ((i : Int).tdiv W) = i / W := IntWalk.i64_quo _ _ (by omega)
  have q3 : IntKind.i64.wrap (x + i % W) = pX x W i := IntWalk.i64_in _ (by omega)
  have q4 : IntKind.i64.wrap (y + i / W) = pY y W i := IntWalk.i64_in _ (by omega)
  have q5 : IntKind.i64.wrap ((i : Int) / W) = i / W := IntWalk.i64_in _ (by omega)
  have k7 : W0.cell? ⟨w.heap.size + 1, 0, none⟩ = some (.int .i64 0) := by rw [k5.cell]; rfl
  have k8 : W0.frozen? ⟨w.heap.size + 1, 0, none⟩ = false := k5.frozen 0
  have k9 : ∀ v, (W0.setCell ⟨w.heap.size + 1, 0, none⟩ v).cell? ⟨w.heap.size + 1, 1, none⟩ = some (.int .i64 0) := fun v => by rw [(k5.set_ 0 v).cell]; rfl
  have k10 : ∀ v, (W0.setCell ⟨w.heap.size + 1, 0, none⟩ v).frozen? ⟨w.heap.size + 1, 1, none⟩ = false := fun v => (k5.set_ 0 v).frozen 1
  have k11 : ∀ u v, ((W0.setCell ⟨w.heap.size + 1, 0, none⟩ u).setCell ⟨w.heap.size + 1, 1, none⟩ v).cell? ⟨w.heap.size + 1, 0, none⟩ = some u := fun u v => by rw [((k5.set_ 0 u).set_ 1 v).cell]; rfl
  have k12 : ∀ u v, ((W0.setCell ⟨w.heap.size + 1, 0, none⟩ u).setCell ⟨w.heap.size + 1, 1, none⟩ v).cell? ⟨w.heap.size + 1, 1, none⟩ = some v := fun u v => by rw [((k5.set_ 0 u).set_ 1 v).cell]; rfl
  go_still_tail 17, (by kernel_rfl)
  change wpList _ _ _ _ _ (World.drew _)
  go_wp2_with fail
  refine bodyPost_ret (v := .agg #[.int .i64 (pX x W i), .int .i64 (pY y W i)]) (by simp [results, Tryz.results46, go_sem, k11, k12]) rfl ⟨rfl, ((hb.drew).setCell (by simp) _).setCell (by simp) _⟩
set_option maxRecDepth 100000 in
theorem implPoint (x y W H : Int) (A : Option Addr) (n c : Nat) (i : Nat) (hx : -1000 ≤ x) (hx' : x ≤ 1000) (hy : -1000 ≤ y) (hy' : y ≤ 1000) (h1 : 1 ≤ W) (h2 : W ≤ 24) (hi : i ≤ 576) (w : World) :
    Calls Tryz.prog 53 #[maskV x y W H A n c, .int .i64 i] w fun e w' => e = .returned (.agg #[.int .i64 (pX x W i), .int .i64 (pY y W i)]) ∧ Below w.heap.size w w' := by
  obtain ⟨m1, m2, m3, m4⟩ := mod_bd i h1 h2 hi
  unfold maskV
  go_enter Tryz.func53, Tryz.ntmps53
  go_wp2_with fail
  obtain ⟨k0, k1, k2, k3, k4, k5, k6, hb⟩ := two_blocks w 40 32 (.int .i64 x) (.int .i64 y) (.int .i64 W) (.int .i64 H) (.slice A n c)
  generalize (w.alloc (.cells #[.int .i64 x, .int .i64 y, .int .i64 W, .int .i64 H, .slice A n c] 40)).alloc (.cells #[.int .i64 0, .int .i64 0] 32) = W0 at *
  have n0 : ¬ W = 0 := by omega
  have q1 : (i : Int).tmod W = i % W := Int.tmod_eq_emod_of_nonneg (by omega)
  have q2 : IntKind.i64.wrap ((i : Int).tdiv W) = i / W := IntWalk.i64_quo _ _ (by omega)
  have q3 : IntKind.i64.wrap (x + i % W) = pX x W i := IntWalk.i64_in _ (by omega)
  have q4 : IntKind.i64.wrap (y + i / W) = pY y W i := IntWalk.i64_in _ (by omega)
  have q5 : IntKind.i64.wrap ((i : Int) / W) = i / W := IntWalk.i64_in _ (by omega)
  have k7 : W0.cell? ⟨w.heap.size + 1, 0, none⟩ = some (.int .i64 0) := by rw [k5.cell]; rfl
  have k8 : W0.frozen? ⟨w.heap.size + 1, 0, none⟩ = false := k5.frozen 0
  have k9 : ∀ v, (W0.setCell ⟨w.heap.size + 1, 0, none⟩ v).cell? ⟨w.heap.size + 1, 1, none⟩ = some (.int .i64 0) := fun v => by rw [(k5.set_ 0 v).cell]; rfl
  have k10 : ∀ v, (W0.setCell ⟨w.heap.size + 1, 0, none⟩ v).frozen? ⟨w.heap.size + 1, 1, none⟩ = false := fun v => (k5.set_ 0 v).frozen 1
  have k11 : ∀ u v, ((W0.setCell ⟨w.heap.size + 1, 0, none⟩ u).setCell ⟨w.heap.size + 1, 1, none⟩ v).cell? ⟨w.heap.size + 1, 0, none⟩ = some u := fun u v => by rw [((k5.set_ 0 u).set_ 1 v).cell]; rfl
  have k12 : ∀ u v, ((W0.setCell ⟨w.heap.size + 1, 0, none⟩ u).setCell ⟨w.heap.size + 1, 1, none⟩ v).cell? ⟨w.heap.size + 1, 1, none⟩ = some v := fun u v => by rw [((k5.set_ 0 u).set_ 1 v).cell]; rfl
  go_still_tail 17, (by kernel_rfl)
  change wpList _ _ _ _ _ (World.drew _)
  go_wp2_with fail
  refine bodyPost_ret (v := .agg #[.int .i64 (pX x W i), .int .i64 (pY y W i)]) (by simp [results, Tryz.results53, go_sem, k11, k12]) rfl ⟨rfl, ((hb.drew).setCell (by simp) _).setCell (by simp) _⟩
end Go.Proofs.YtaaioengebaebaaGreatDoor
namespace Go.Proofs.YtaaioengebaebaaGreatDoor
open Go.ChangeShapes Go.WideShapes Go.ChangeAt Go.RowKit Go.Sort

def sumTo (cs : List Bool) (f : Nat → Int) : Nat → Int
  | 0 => 0
  | k + 1 => if cs[k]?.getD false = true then sumTo cs f k + f k else sumTo cs f k
theorem sumTo_bd (cs : List Bool) (f : Nat → Int) (m : Nat) (hf : ∀ i, i < m → 0 ≤ f i ∧ f i ≤ 72000000) : ∀ k, k ≤ m → 0 ≤ sumTo cs f k ∧ sumTo cs f k ≤ 72000000 * (k : Int) := by
  intro k
  induction k with
  | zero => intro _; simp [sumTo]
  | succ k ih =>
    intro hk
    have h1 := ih (by omega)
    have h2 := hf k (by omega)
    unfold sumTo
    split <;> omega
theorem sumTo_congr (cs : List Bool) (f g : Nat → Int) (h : ∀ i, f i = g i) (k : Nat) : sumTo cs f k = sumTo cs g k := by
  rw [show f = g from funext h]
theorem sumTo_yes (cs : List Bool) (f : Nat → Int) (k : Nat) (h : k < cs.length) (hc : cs[k] = true) : sumTo cs f (k + 1) = sumTo cs f k + f k := by
  simp [sumTo, h, hc]
theorem sumTo_no (cs : List Bool) (f : Nat → Int) (k : Nat) (h : k < cs.length) (hc : cs[k] = false) : sumTo cs f (k + 1) = sumTo cs f k := by
  simp [sumTo, h, hc]
theorem bC_get (cs : List Bool) (k : Nat) (h : k < cs.length) : (bC cs)[k]? = some (.bool cs[k]) := by simp [bC, h]

/-- Facts of a mask's block in a world and in all that grow out of it. -/
theorem mask_regrown {W0 : World} {g : Nat} {t : TypeId} {a b c d e : Value} (h : Blk W0 g t #[a, b, c, d, e]) :
    (∀ d' os, (grow (redrawn W0 d') os).cell? ⟨g, 0, none⟩ = some a) ∧ (∀ d' os, (grow (redrawn W0 d') os).cell? ⟨g, 1, none⟩ = some b) ∧ (∀ d' os, (grow (redrawn W0 d') os).cell? ⟨g, 2, none⟩ = some c) ∧ (∀ d' os, (grow (redrawn W0 d') os).cell? ⟨g, 3, none⟩ = some d) ∧ (∀ d' os, (grow (redrawn W0 d') os).cell? ⟨g, 4, none⟩ = some e) :=
  ⟨cell_regrown (by rw [h.cell]; rfl), cell_regrown (by rw [h.cell]; rfl), cell_regrown (by rw [h.cell]; rfl), cell_regrown (by rw [h.cell]; rfl), cell_regrown (by rw [h.cell]; rfl)⟩
theorem pair_regrown {W0 : World} {g : Nat} {t : TypeId} {a b : Value} (h : Blk W0 g t #[a, b]) :
    (∀ d' os, (grow (redrawn W0 d') os).cell? ⟨g, 0, none⟩ = some a) ∧ (∀ d' os, (grow (redrawn W0 d') os).cell? ⟨g, 1, none⟩ = some b) :=
  ⟨cell_regrown (by rw [h.cell]; rfl), cell_regrown (by rw [h.cell]; rfl)⟩

def sqP (x y W px py : Int) (k : Nat) : Int := sq (pX x W k) (pY y W k) px py

set_option maxRecDepth 100000 in
set_option maxHeartbeats 4000000 in
theorem spread_any (x y W H px py : Int) (A : Option Addr) (c : Nat) (cs : List Bool) (hx : -1000 ≤ x) (hx' : x ≤ 1000) (hy : -1000 ≤ y) (hy' : y ≤ 1000) (h1 : 1 ≤ W) (h2 : W ≤ 24) (hn : cs.length ≤ 576) (hpx : Co px) (hpy : Co py) (w : World) (hr : Reads w w.heap.size 1 A cs.length (bC cs)) :
    Calls Tryz.prog 70 #[maskV x y W H A cs.length c, .agg #[.int .i64 px, .int .i64 py]] w fun e w' => e = .returned (.int .i64 (sumTo cs (sqP x y W px py) cs.length)) ∧ Below w.heap.size w w' := by
  have hbd : ∀ i, i < cs.length → 0 ≤ sqP x y W px py i ∧ sqP x y W px py i ≤ 72000000 := fun i hi => sq_all (pX_co i hx hx' h1 h2 (by omega)) (pY_co i hy hy' h1 h2 (by omega)) hpx hpy
  have hB : Blk ((w.alloc (.cells #[.int .i64 x, .int .i64 y, .int .i64 W, .int .i64 H, .slice A cs.length c] 40)).alloc (.cells #[.int .i64 px, .int .i64 py] 32)) w.heap.size 40 #[.int .i64 x, .int .i64 y, .int .i64 W, .int .i64 H, .slice A cs.length c] := (Blk.new w _ _).alloc _
  have hP : Blk ((w.alloc (.cells #[.int .i64 x, .int .i64 y, .int .i64 W, .int .i64 H, .slice A cs.length c] 40)).alloc (.cells #[.int .i64 px, .int .i64 py] 32)) (w.heap.size + 1) 32 #[.int .i64 px, .int .i64 py] := by
    have := Blk.new (w.alloc (.cells #[.int .i64 x, .int .i64 y, .int .i64 W, .int .i64 H, .slice A cs.length c] 40)) 32 #[.int .i64 px, .int .i64 py]
    simpa using this
  have hw0 : Below w.heap.size w ((w.alloc (.cells #[.int .i64 x, .int .i64 y, .int .i64 W, .int .i64 H, .slice A cs.length c] 40)).alloc (.cells #[.int .i64 px, .int .i64 py] 32)) := ((Below.refl _ _).alloc (Nat.le_refl _) _).alloc (by simp) _
  have hz : ((w.alloc (.cells #[.int .i64 x, .int .i64 y, .int .i64 W, .int .i64 H, .slice A cs.length c] 40)).alloc (.cells #[.int .i64 px, .int .i64 py] 32)).heap.size = w.heap.size + 2 := by simp
  have HBD := Lib.hid hbd; clear hbd
  have HSB := Lib.hid (sumTo_bd cs (sqP x y W px py) cs.length HBD.out)
  unfold maskV
  go_enter Tryz.func70, Tryz.ntmps70
  go_wp2_with fail
  generalize (w.alloc (.cells #[.int .i64 x, .int .i64 y, .int .i64 W, .int .i64 H, .slice A cs.length c] 40)).alloc (.cells #[.int .i64 px, .int .i64 py] 32) = W0 at *
  go_loopw [5, 6, 7, 11] (fun v5 v6 v7 v11 wr => ∃ k : Nat, k ≤ cs.length ∧ Below (w.heap.size + 2) W0 wr ∧ v5 = .int .i64 (sumTo cs (sqP x y W px py) k) ∧ v11 = .int .i64 k) (fun _ _ _ i _ => cs.length - (intOf i).toNat)
  case atStart => exact ⟨0, Nat.zero_le _, Below.refl _ _, rfl, rfl⟩
  case round =>
    obtain ⟨k, hk, hb, rfl, rfl⟩ := hrel
    have hBr := hB.below hb (by omega)
    have hPr := hP.below hb (by omega)
    by_cases hlt : k < cs.length
    · obtain ⟨ab, ao, rfl, hadb, hcell⟩ := (((hr.below hw0).more (B' := w.heap.size + 2) (by omega)).below hb).2 (by omega)
      have c0 := hcell _ _ (bC_get cs k hlt)
      clear hcell
      have hlt' : (k : Int) < (cs.length : Int) := by omega
      cases hv : cs[k]
      · rw [hv] at c0
        have HN := Lib.hid (sumTo_no cs (sqP x y W px py) k hlt hv)
        clear hv
        go_wp2_with fail
        go_roundw
        case rel => exact ⟨k + 1, by omega, hb, by rw [HN.out], by go_num⟩
        case measure => simp [intOf]; omega
      · rw [hv] at c0
        have HN := Lib.hid (sumTo_yes cs (sqP x y W px py) k hlt hv)
        clear hv
        go_wp2_with fail
        obtain ⟨k0, k1, k2, k3, k4⟩ := mask_regrown hBr
        obtain ⟨k5, k6⟩ := pair_regrown hPr
        have p1 := pX_co (x := x) k hx hx' h1 h2 (by omega)
        have p2 := pY_co (y := y) k hy hy' h1 h2 (by omega)
        have r1 : ∀ d os, Calls Tryz.prog 53 #[maskV x y W H (some ⟨ab, ao, none⟩) cs.length c, .int .i64 k] (grow (redrawn wr d) os) (fun e w'' => e = .returned (.agg #[.int .i64 (pX x W k), .int .i64 (pY y W k)]) ∧ ∃ p : Regrown, w'' = grow (redrawn wr p.d) p.os) := fun d os => Calls.regrown_of (implPoint x y W H _ _ c k hx hx' hy hy' h1 h2 (by omega) _)
        have r2 : ∀ d os, Calls Tryz.prog 99 #[.agg #[.int .i64 (pX x W k), .int .i64 (pY y W k)], .agg #[.int .i64 px, .int .i64 py]] (grow (redrawn wr d) os) (fun e w'' => e = .returned (.int .i64 (sqP x y W px py k)) ∧ ∃ p : Regrown, w'' = grow (redrawn wr p.d) p.os) := fun d os => Calls.regrown_of (implSq _ _ _ _ p1 p2 hpx hpy _)
        have b1 := HBD.out k hlt
        have b2 := HSB.out k hk
        have hs : IntKind.i64.wrap (sumTo cs (sqP x y W px py) k + sqP x y W px py k) = sumTo cs (sqP x y W px py) (k + 1) := by rw [HN.out]; exact IntWalk.i64_in _ (by omega)
        unfold maskV at r1
        refine wp_region_quiet_below (by kernel_rfl) (by kernel_rfl) ?_
        repeat (first | go_big_quiet_step ((first | with_reducible exact r1 _ _ | with_reducible exact r2 _ _)))
        refine wpQuiet_nil ?_
        intro _ hw'
        obtain ⟨⟨dq, osq⟩, rfl⟩ := hw'
        go_wp2_with fail
        go_roundw
        case rel => exact ⟨k + 1, by omega, hb.trans ((below_regrown wr dq osq).mono (by have := hb.size; omega)), rfl, by go_num⟩
        case measure => simp [intOf]; omega
    · obtain rfl : k = cs.length := by omega
      go_wp2_with fail
      go_ret
      exact ⟨rfl, hw0.trans (hb.mono (by omega))⟩
end Go.Proofs.YtaaioengebaebaaGreatDoor
namespace Go.Proofs.YtaaioengebaebaaGreatDoor
open Go.ChangeShapes Go.WideShapes Go.ChangeAt Go.RowKit Go.Sort

/-- The best cell up to k, with its sum: the first of the least sums. -/
def cenTo (cs : List Bool) (g : Nat → Int) : Nat → Option (Nat × Int)
  | 0 => none
  | k + 1 => if cs[k]?.getD false = true then (match cenTo cs g k with | none => some (k, g k) | some (b, l) => if g k < l then some (k, g k) else some (b, l)) else cenTo cs g k
def bestV (o : Option (Nat × Int)) : Int := match o with | none => -1 | some p => p.1
def leastS (o : Option (Nat × Int)) : Int := match o with | none => 0 | some p => p.2
def leastI (o : Option (Nat × Int)) : Int := match o with | none => -1 | some p => p.2
theorem cenTo_no {cs : List Bool} {g : Nat → Int} {k : Nat} (h : k < cs.length) (hc : cs[k] = false) : cenTo cs g (k + 1) = cenTo cs g k := by
  simp [cenTo, h, hc]
theorem cenTo_first {cs : List Bool} {g : Nat → Int} {k : Nat} (h : k < cs.length) (hc : cs[k] = true) (h0 : cenTo cs g k = none) : cenTo cs g (k + 1) = some (k, g k) := by
  simp [cenTo, h, hc, h0]
theorem cenTo_less {cs : List Bool} {g : Nat → Int} {k b : Nat} {l : Int} (h : k < cs.length) (hc : cs[k] = true) (h0 : cenTo cs g k = some (b, l)) (hl : g k < l) : cenTo cs g (k + 1) = some (k, g k) := by
  simp [cenTo, h, hc, h0, hl]
theorem cenTo_more {cs : List Bool} {g : Nat → Int} {k b : Nat} {l : Int} (h : k < cs.length) (hc : cs[k] = true) (h0 : cenTo cs g k = some (b, l)) (hl : ¬ g k < l) : cenTo cs g (k + 1) = some (b, l) := by
  simp [cenTo, h, hc, h0, hl]
theorem cenTo_lt (cs : List Bool) (g : Nat → Int) : ∀ k b l, cenTo cs g k = some (b, l) → b < k ∧ l = g b := by
  intro k
  induction k with
  | zero => intro b l h; simp [cenTo] at h
  | succ k ih =>
    intro b l h
    unfold cenTo at h
    split at h
    · cases h0 : cenTo cs g k with
      | none => rw [h0] at h; simp at h; obtain ⟨rfl, rfl⟩ := h; exact ⟨by omega, rfl⟩
      | some p =>
        obtain ⟨b', l'⟩ := p
        rw [h0] at h
        simp only at h
        split at h
        · simp at h; obtain ⟨rfl, rfl⟩ := h; exact ⟨by omega, rfl⟩
        · simp at h; obtain ⟨rfl, rfl⟩ := h; have := ih _ _ h0; exact ⟨by omega, this.2⟩
    · have := ih _ _ h; exact ⟨by omega, this.2⟩

def gP (x y W : Int) (cs : List Bool) (i : Nat) : Int := sumTo cs (sqP x y W (pX x W i) (pY y W i)) cs.length
/-- What CenterOf answers. -/
def cenP (x y W H : Int) (cs : List Bool) : Int × Int × Int :=
  if maskB x y W H cs.length = true then
    (match cenTo cs (gP x y W cs) cs.length with | none => (0, 0, 4) | some p => (pX x W p.1, pY y W p.1, 0))
  else (0, 0, 1)
def cenVal (t : Int × Int × Int) : Value := .tuple #[.agg #[.int .i64 t.1, .int .i64 t.2.1], .int .i64 t.2.2]

theorem maskB_bd {x y W H : Int} {n : Nat} (h : maskB x y W H n = true) : -1000 ≤ x ∧ x ≤ 1000 ∧ -1000 ≤ y ∧ y ≤ 1000 ∧ 1 ≤ W ∧ W ≤ 24 ∧ n ≤ 576 := by
  simp only [maskB, ptB, inB, Bool.and_eq_true, decide_eq_true_eq, beq_iff_eq] at h
  obtain ⟨a, b, c, d, e⟩ := h
  have : W * H ≤ 24 * 24 := Int.mul_le_mul (by omega) (by omega) (by omega) (by omega)
  refine ⟨by omega, by omega, by omega, by omega, by omega, by omega, by omega⟩

set_option maxRecDepth 100000 in
set_option maxHeartbeats 4000000 in
theorem specCenter_no (x y W H : Int) (A : Option Addr) (c n : Nat) (hn : n ≤ 9223372036854775807) (hm : maskB x y W H n = false) (w : World) :
    Calls Tryz.prog 34 #[maskV x y W H A n c] w fun e w' => e = .returned (cenVal (0, 0, 1)) ∧ Below w.heap.size w w' := by
  obtain ⟨k0, k1, k2, k3, k4, k5, k6, hb⟩ := two_blocks w 40 32 (.int .i64 x) (.int .i64 y) (.int .i64 W) (.int .i64 H) (.slice A n c)
  have HM := Lib.hid hm; clear hm
  unfold maskV
  go_enter Tryz.func34, Tryz.ntmps34
  go_upto_region 1 with (fail)
  generalize (w.alloc (.cells #[.int .i64 x, .int .i64 y, .int .i64 W, .int .i64 H, .slice A n c] 40)).alloc (.cells #[.int .i64 0, .int .i64 0] 32) = W0 at *
  have r1 : ∀ W1, Calls Tryz.prog 71 #[.agg #[.int .i64 x, .int .i64 y, .int .i64 W, .int .i64 H, .slice A n c]] W1 fun e w' => e = .returned (.bool false) ∧ Below W1.heap.size W1 w' := fun W1 => by rw [← HM.out]; exact specMask x y W H A n c hn W1
  go_wp2_with (go_at_call 71; refine (r1 _).mono ?_; rintro e w1 ⟨rfl, p1⟩; have k5' := k5.below p1 (by omega); have e7 : w1.cell? ⟨w.heap.size + 1, 0, none⟩ = some (.int .i64 0) := (by rw [k5'.cell]; rfl); have e8 : w1.frozen? ⟨w.heap.size + 1, 0, none⟩ = false := k5'.frozen 0; have e9 : ∀ v, (w1.setCell ⟨w.heap.size + 1, 0, none⟩ v).cell? ⟨w.heap.size + 1, 1, none⟩ = some (.int .i64 0) := (fun v => by rw [(k5'.set_ 0 v).cell]; rfl); have e10 : ∀ v, (w1.setCell ⟨w.heap.size + 1, 0, none⟩ v).frozen? ⟨w.heap.size + 1, 1, none⟩ = false := (fun v => (k5'.set_ 0 v).frozen 1); have e11 : ∀ u v, ((w1.setCell ⟨w.heap.size + 1, 0, none⟩ u).setCell ⟨w.heap.size + 1, 1, none⟩ v).cell? ⟨w.heap.size + 1, 0, none⟩ = some u := (fun u v => by rw [((k5'.set_ 0 u).set_ 1 v).cell]; rfl); have e12 : ∀ u v, ((w1.setCell ⟨w.heap.size + 1, 0, none⟩ u).setCell ⟨w.heap.size + 1, 1, none⟩ v).cell? ⟨w.heap.size + 1, 1, none⟩ = some v := (fun u v => by rw [((k5'.set_ 0 u).set_ 1 v).cell]; rfl))
  refine bodyPost_ret (v := cenVal (0, 0, 1)) (by simp [results, Tryz.results34, go_sem, cenVal, e11, e12]) rfl ⟨rfl, ((hb.trans (p1.mono (by omega))).setCell (by simp) _).setCell (by simp) _⟩

/-- A block of two cells: what a store of both needs, and what it leaves. -/
theorem pair_facts {W : World} {g : Nat} {t : TypeId} {a b : Value} (h : Blk W g t #[a, b]) :
    W.cell? ⟨g, 0, none⟩ = some a ∧ W.cell? ⟨g, 1, none⟩ = some b ∧ W.frozen? ⟨g, 0, none⟩ = false ∧ (∀ v, (W.setCell ⟨g, 0, none⟩ v).cell? ⟨g, 1, none⟩ = some b) ∧ (∀ v, (W.setCell ⟨g, 0, none⟩ v).frozen? ⟨g, 1, none⟩ = false) ∧
      (∀ u v, ((W.setCell ⟨g, 0, none⟩ u).setCell ⟨g, 1, none⟩ v).cell? ⟨g, 0, none⟩ = some u) ∧ (∀ u v, ((W.setCell ⟨g, 0, none⟩ u).setCell ⟨g, 1, none⟩ v).cell? ⟨g, 1, none⟩ = some v) :=
  ⟨by rw [h.cell]; rfl, by rw [h.cell]; rfl, h.frozen 0, fun v => by rw [(h.set_ 0 v).cell]; rfl, fun v => (h.set_ 0 v).frozen 1, fun u v => by rw [((h.set_ 0 u).set_ 1 v).cell]; rfl, fun u v => by rw [((h.set_ 0 u).set_ 1 v).cell]; rfl⟩
theorem mask_cells {W : World} {g : Nat} {t : TypeId} {a b c d e : Value} (h : Blk W g t #[a, b, c, d, e]) :
    W.cell? ⟨g, 0, none⟩ = some a ∧ W.cell? ⟨g, 1, none⟩ = some b ∧ W.cell? ⟨g, 2, none⟩ = some c ∧ W.cell? ⟨g, 3, none⟩ = some d ∧ W.cell? ⟨g, 4, none⟩ = some e :=
  ⟨by rw [h.cell]; rfl, by rw [h.cell]; rfl, by rw [h.cell]; rfl, by rw [h.cell]; rfl, by rw [h.cell]; rfl⟩

set_option maxRecDepth 100000 in
set_option maxHeartbeats 8000000 in
theorem specCenter_yes (x y W H : Int) (A : Option Addr) (c : Nat) (cs : List Bool) (hm : maskB x y W H cs.length = true) (w : World) (hr : Reads w w.heap.size 1 A cs.length (bC cs)) :
    Calls Tryz.prog 34 #[maskV x y W H A cs.length c] w fun e w' => e = .returned (cenVal (cenP x y W H cs)) ∧ Below w.heap.size w w' := by
  obtain ⟨hx, hx', hy, hy', h1, h2, hn⟩ := maskB_bd hm
  have hB := (Blk.new w 40 #[.int .i64 x, .int .i64 y, .int .i64 W, .int .i64 H, .slice A cs.length c]).alloc (.cells #[.int .i64 0, .int .i64 0] 32)
  obtain ⟨_, _, _, _, _, k5, k6, hb⟩ := two_blocks w 40 32 (.int .i64 x) (.int .i64 y) (.int .i64 W) (.int .i64 H) (.slice A cs.length c)
  have HM := Lib.hid hm; clear hm
  have GB : ∀ i, i < cs.length → ∀ k, k ≤ cs.length → 0 ≤ sumTo cs (sqP x y W (pX x W i) (pY y W i)) k ∧ sumTo cs (sqP x y W (pX x W i) (pY y W i)) k ≤ 72000000 * (k : Int) := fun i hi k hk => sumTo_bd cs _ cs.length (fun j hj => sq_all (pX_co j hx hx' h1 h2 (by omega)) (pY_co j hy hy' h1 h2 (by omega)) (pX_co i hx hx' h1 h2 (by omega)) (pY_co i hy hy' h1 h2 (by omega))) k hk
  have HGB := Lib.hid GB; clear GB
  have HP : cenP x y W H cs = (match cenTo cs (gP x y W cs) cs.length with | none => (0, 0, 4) | some p => (pX x W p.1, pY y W p.1, 0)) := by rw [cenP, HM.out]; rfl
  have HCP := Lib.hid HP; clear HP
  unfold maskV
  go_enter Tryz.func34, Tryz.ntmps34
  go_upto_region 1 with (fail)
  generalize (w.alloc (.cells #[.int .i64 x, .int .i64 y, .int .i64 W, .int .i64 H, .slice A cs.length c] 40)).alloc (.cells #[.int .i64 0, .int .i64 0] 32) = W0 at *
  obtain ⟨b0, b1, b2, b3, b4⟩ := mask_cells hB
  have r1 : ∀ W1, Calls Tryz.prog 71 #[.agg #[.int .i64 x, .int .i64 y, .int .i64 W, .int .i64 H, .slice A cs.length c]] W1 fun e w' => e = .returned (.bool true) ∧ Below W1.heap.size W1 w' := fun W1 => by rw [← HM.out]; exact specMask x y W H A cs.length c (by omega) W1
  go_upto_region 4 with (go_at_call 71; refine (r1 _).mono ?_; rintro e w1 ⟨rfl, p1⟩)
  have hB1 := hB.below p1 (by omega)
  have k51 := k5.below p1 (by omega)
  have hb1 : Below w.heap.size w w1 := hb.trans (p1.mono (by omega))
  have hz1 : w.heap.size + 2 ≤ w1.heap.size := by have := p1.size; omega
  obtain ⟨d0, d1, d2, d3, d4⟩ := mask_cells hB1
  go_wp2_with fail
  go_loopw [4, 5, 16] (fun v4 v5 v16 wr => ∃ i : Nat, i ≤ cs.length ∧ Below w1.heap.size w1 wr ∧ v4 = .int .i64 (bestV (cenTo cs (gP x y W cs) i)) ∧ v5 = .int .i64 (leastS (cenTo cs (gP x y W cs) i)) ∧ v16 = .int .i64 i) (fun _ _ i _ => cs.length - (intOf i).toNat)
  case atStart => exact ⟨0, Nat.zero_le _, Below.refl _ _, rfl, rfl, rfl⟩
  case round =>
    obtain ⟨i, hi, hbr, rfl, rfl, rfl⟩ := hrel
    have hBr := hB1.below hbr (by omega)
    have k5r := k51.below hbr (by omega)
    obtain ⟨e0, e1, e2, e3, e4⟩ := mask_cells hBr
    by_cases hlt : i < cs.length
    · have RR := ((hr.below hb1).more (B' := w1.heap.size) (by omega)).below hbr
      obtain ⟨ab, ao, rfl, hadb, hcell⟩ := RR.2 (by omega)
      have c0 := hcell _ _ (bC_get cs i hlt)
      have hlt' : (i : Int) < (cs.length : Int) := by omega
      have HC := Lib.hid hcell; clear hcell
      cases hv : cs[i]
      · rw [hv] at c0
        have HN := Lib.hid (cenTo_no (g := gP x y W cs) hlt hv)
        clear hv
        go_wp2_with fail
        go_roundw
        case rel => exact ⟨i + 1, by omega, hbr, by rw [HN.out], by rw [HN.out], by go_num⟩
        case measure => simp [intOf]; omega
      · rw [hv] at c0
        have HV := Lib.hid hv
        clear hv
        go_wp2_with fail
        have pI1 := pX_co (x := x) i hx hx' h1 h2 (by omega)
        have pI2 := pY_co (y := y) i hy hy' h1 h2 (by omega)
        clear hBr k5r e0 e1 e2 e3 e4 c0 HC RR
        go_loopw [7, 28] (fun v7 v28 wr => ∃ k : Nat, k ≤ cs.length ∧ Below w1.heap.size w1 wr ∧ v7 = .int .i64 (sumTo cs (sqP x y W (pX x W i) (pY y W i)) k) ∧ v28 = .int .i64 k) (fun _ i _ => cs.length - (intOf i).toNat)
        case atStart => exact ⟨0, Nat.zero_le _, hbr, rfl, rfl⟩
        case round =>
          obtain ⟨k, hk, hbq, rfl, rfl⟩ := hrel
          have hBq := hB1.below hbq (by omega)
          have k5q := k51.below hbq (by omega)
          obtain ⟨f0, f1, f2, f3, f4⟩ := mask_cells hBq
          by_cases hkt : k < cs.length
          · obtain ⟨ab', ao', hsame, _, hcell⟩ := (((hr.below hb1).more (B' := w1.heap.size) (by omega)).below hbq).2 (by omega)
            obtain ⟨rfl, rfl⟩ : ab = ab' ∧ ao = ao' := by injection hsame with h; injection h with h1 h2; exact ⟨h1, h2⟩
            have c1 := hcell _ _ (bC_get cs k hkt)
            clear hcell hsame
            have hkt' : (k : Int) < (cs.length : Int) := by omega
            cases hv : cs[k]
            · rw [hv] at c1
              have HN := Lib.hid (sumTo_no cs (sqP x y W (pX x W i) (pY y W i)) k hkt hv)
              clear hv
              go_wp2_with fail
              go_roundw
              case rel => exact ⟨k + 1, by omega, hbq, by rw [HN.out], by go_num⟩
              case measure => simp [intOf]; omega
            · rw [hv] at c1
              have HN := Lib.hid (sumTo_yes cs (sqP x y W (pX x W i) (pY y W i)) k hkt hv)
              clear hv
              go_wp2_with fail
              obtain ⟨g0, g1, g2, g3, g4⟩ := mask_regrown hBq
              have p1 := pX_co (x := x) k hx hx' h1 h2 (by omega)
              have p2 := pY_co (y := y) k hy hy' h1 h2 (by omega)
              have r2 : ∀ d os, Calls Tryz.prog 46 #[maskV x y W H (some ⟨ab, ao, none⟩) cs.length c, .int .i64 i] (grow (redrawn wr d) os) (fun e w'' => e = .returned (.agg #[.int .i64 (pX x W i), .int .i64 (pY y W i)]) ∧ ∃ p : Regrown, w'' = grow (redrawn wr p.d) p.os) := fun d os => Calls.regrown_of (specPoint x y W H _ _ c i hx hx' hy hy' h1 h2 (by omega) _)
              have r3 : ∀ d os, Calls Tryz.prog 46 #[maskV x y W H (some ⟨ab, ao, none⟩) cs.length c, .int .i64 k] (grow (redrawn wr d) os) (fun e w'' => e = .returned (.agg #[.int .i64 (pX x W k), .int .i64 (pY y W k)]) ∧ ∃ p : Regrown, w'' = grow (redrawn wr p.d) p.os) := fun d os => Calls.regrown_of (specPoint x y W H _ _ c k hx hx' hy hy' h1 h2 (by omega) _)
              have r4 : ∀ d os, Calls Tryz.prog 72 #[.agg #[.int .i64 (pX x W i), .int .i64 (pY y W i)], .agg #[.int .i64 (pX x W k), .int .i64 (pY y W k)]] (grow (redrawn wr d) os) (fun e w'' => e = .returned (.int .i64 (sqP x y W (pX x W i) (pY y W i) k)) ∧ ∃ p : Regrown, w'' = grow (redrawn wr p.d) p.os) := fun d os => Calls.regrown_of (by unfold sqP; rw [sq_comm]; exact specSq _ _ _ _ pI1 pI2 p1 p2 _)
              have q1 := HGB.out i hlt k hk
              have q2 := sq_all p1 p2 pI1 pI2
              have hs : IntKind.i64.wrap (sumTo cs (sqP x y W (pX x W i) (pY y W i)) k + sqP x y W (pX x W i) (pY y W i) k) = sumTo cs (sqP x y W (pX x W i) (pY y W i)) (k + 1) := by rw [HN.out]; exact IntWalk.i64_in _ (by unfold sqP; unfold sqP at q1; omega)
              unfold maskV at r2 r3
              refine wp_region_quiet_below (by kernel_rfl) (by kernel_rfl) ?_
              repeat (first | go_big_quiet_step ((first | with_reducible exact r2 _ _ | with_reducible exact r3 _ _ | with_reducible exact r4 _ _)))
              refine wpQuiet_nil ?_
              intro _ hw'
              obtain ⟨⟨dq, osq⟩, rfl⟩ := hw'
              go_wp2_with fail
              go_roundw
              case rel => exact ⟨k + 1, by omega, hbq.trans ((below_regrown wr dq osq).mono hbq.size), rfl, by go_num⟩
              case measure => simp [intOf]; omega
          · obtain rfl : k = cs.length := by omega
            have hg : sumTo cs (sqP x y W (pX x W i) (pY y W i)) cs.length = gP x y W cs i := rfl
            rw [hg]
            clear hg
            cases hc : cenTo cs (gP x y W cs) i with
            | none =>
              have HN := Lib.hid (cenTo_first (g := gP x y W cs) hlt HV.out hc)
              clear hc
              simp only [bestV, leastS]
              generalize hG : gP x y W cs i = G at *
              go_wp2_with fail
              go_roundw
              case rel => exact ⟨i + 1, by omega, hbq, by rw [HN.out]; rfl, by rw [HN.out]; rfl, by go_num⟩
              case measure => simp [intOf]; omega
            | some p =>
              obtain ⟨b, l⟩ := p
              by_cases hl : gP x y W cs i < l
              · have HN := Lib.hid (cenTo_less (g := gP x y W cs) hlt HV.out hc hl)
                clear hc
                have hbn : ¬ ((b : Int) < 0) := by omega
                simp only [bestV, leastS]
                generalize hG : gP x y W cs i = G at *
                go_wp2_with fail
                go_roundw
                case rel => exact ⟨i + 1, by omega, hbq, by rw [HN.out]; rfl, by rw [HN.out]; rfl, by go_num⟩
                case measure => simp [intOf]; omega
              · have HN := Lib.hid (cenTo_more (g := gP x y W cs) hlt HV.out hc hl)
                clear hc
                have hbn : ¬ ((b : Int) < 0) := by omega
                simp only [bestV, leastS]
                generalize hG : gP x y W cs i = G at *
                go_wp2_with fail
                go_roundw
                case rel => exact ⟨i + 1, by omega, hbq, by rw [HN.out]; rfl, by rw [HN.out]; rfl, by go_num⟩
                case measure => simp [intOf]; omega
    · obtain rfl : i = cs.length := by omega
      obtain ⟨f5, f6, f7, f8, f9, f10, f11⟩ := pair_facts k5r
      cases hc : cenTo cs (gP x y W cs) cs.length with
      | none =>
        have HN := Lib.hid (show cenP x y W H cs = (0, 0, 4) by rw [HCP.out, hc])
        clear hc
        simp only [bestV, leastS]
        go_wp2_with fail
        refine bodyPost_ret (v := cenVal (cenP x y W H cs)) (by simp [results, Tryz.results34, go_sem, cenVal, HN.out, f10, f11]) rfl ⟨rfl, ((hb1.trans (hbr.mono (by omega))).setCell (by simp) _).setCell (by simp) _⟩
      | some p =>
        obtain ⟨b, l⟩ := p
        have HN := Lib.hid (show cenP x y W H cs = (pX x W b, pY y W b, 0) by rw [HCP.out, hc])
        have hbn : ¬ ((b : Int) < 0) := by omega
        have hbi := (cenTo_lt _ _ _ _ _ hc).1
        clear hc
        simp only [bestV, leastS]
        go_wp2_with (go_at_call 46; refine (specPoint x y W H A cs.length c b hx hx' hy hy' h1 h2 (by omega) _).mono ?_; rintro e w2 ⟨rfl, p2⟩; obtain ⟨m5, m6, m7, m8, m9, m10, m11⟩ := pair_facts (k5r.below p2 (by have := hbr.size; omega)))
        refine bodyPost_ret (v := cenVal (cenP x y W H cs)) (by simp [results, Tryz.results34, go_sem, cenVal, HN.out, m10, m11]) rfl ⟨rfl, (((hb1.trans (hbr.mono (by omega))).trans (p2.mono (by have := hbr.size; omega))).setCell (by simp) _).setCell (by simp) _⟩
end Go.Proofs.YtaaioengebaebaaGreatDoor
namespace Go.Proofs.YtaaioengebaebaaGreatDoor
open Go.ChangeShapes Go.WideShapes Go.ChangeAt Go.RowKit Go.Sort

def bestX (x W : Int) (o : Option (Nat × Int)) : Int := match o with | none => 0 | some p => pX x W p.1
def bestY (y W : Int) (o : Option (Nat × Int)) : Int := match o with | none => 0 | some p => pY y W p.1
theorem Reads.regrown {w : World} {size n : Nat} {A : Option Addr} {xs : List Value} (h : Reads w w.heap.size size A n xs) (d : Nat) (os : Array Obj) : Reads (grow (redrawn w d) os) (grow (redrawn w d) os).heap.size size A n xs :=
  (h.below (below_regrown w d os)).more (below_regrown w d os).size

set_option maxRecDepth 100000 in
set_option maxHeartbeats 4000000 in
theorem implCenter_no (x y W H : Int) (A : Option Addr) (c n : Nat) (hn : n ≤ 9223372036854775807) (hm : maskB x y W H n = false) (w : World) :
    Calls Tryz.prog 33 #[maskV x y W H A n c] w fun e w' => e = .returned (cenVal (0, 0, 1)) ∧ Below w.heap.size w w' := by
  obtain ⟨k0, k1, k2, k3, k4, k5, k6, hb⟩ := two_blocks w 40 32 (.int .i64 x) (.int .i64 y) (.int .i64 W) (.int .i64 H) (.slice A n c)
  have HM := Lib.hid hm; clear hm
  unfold maskV
  go_enter Tryz.func33, Tryz.ntmps33
  go_upto_region 1 with (fail)
  generalize (w.alloc (.cells #[.int .i64 x, .int .i64 y, .int .i64 W, .int .i64 H, .slice A n c] 40)).alloc (.cells #[.int .i64 0, .int .i64 0] 32) = W0 at *
  have r1 : ∀ W1, Calls Tryz.prog 52 #[.agg #[.int .i64 x, .int .i64 y, .int .i64 W, .int .i64 H, .slice A n c]] W1 fun e w' => e = .returned (.bool false) ∧ Below W1.heap.size W1 w' := fun W1 => by rw [← HM.out]; exact implMask x y W H A n c hn W1
  go_wp2_with (go_at_call 52; refine (r1 _).mono ?_; rintro e w1 ⟨rfl, p1⟩; have k5' := k5.below p1 (by omega); have e7 : w1.cell? ⟨w.heap.size + 1, 0, none⟩ = some (.int .i64 0) := (by rw [k5'.cell]; rfl); have e8 : w1.frozen? ⟨w.heap.size + 1, 0, none⟩ = false := k5'.frozen 0; have e9 : ∀ v, (w1.setCell ⟨w.heap.size + 1, 0, none⟩ v).cell? ⟨w.heap.size + 1, 1, none⟩ = some (.int .i64 0) := (fun v => by rw [(k5'.set_ 0 v).cell]; rfl); have e10 : ∀ v, (w1.setCell ⟨w.heap.size + 1, 0, none⟩ v).frozen? ⟨w.heap.size + 1, 1, none⟩ = false := (fun v => (k5'.set_ 0 v).frozen 1); have e11 : ∀ u v, ((w1.setCell ⟨w.heap.size + 1, 0, none⟩ u).setCell ⟨w.heap.size + 1, 1, none⟩ v).cell? ⟨w.heap.size + 1, 0, none⟩ = some u := (fun u v => by rw [((k5'.set_ 0 u).set_ 1 v).cell]; rfl); have e12 : ∀ u v, ((w1.setCell ⟨w.heap.size + 1, 0, none⟩ u).setCell ⟨w.heap.size + 1, 1, none⟩ v).cell? ⟨w.heap.size + 1, 1, none⟩ = some v := (fun u v => by rw [((k5'.set_ 0 u).set_ 1 v).cell]; rfl))
  refine bodyPost_ret (v := cenVal (0, 0, 1)) (by simp [results, Tryz.results33, go_sem, cenVal, e11, e12]) rfl ⟨rfl, ((hb.trans (p1.mono (by omega))).setCell (by simp) _).setCell (by simp) _⟩


set_option maxRecDepth 100000 in
set_option maxHeartbeats 8000000 in
theorem implCenter_yes (x y W H : Int) (A : Option Addr) (c : Nat) (cs : List Bool) (hm : maskB x y W H cs.length = true) (w : World) (hr : Reads w w.heap.size 1 A cs.length (bC cs)) :
    Calls Tryz.prog 33 #[maskV x y W H A cs.length c] w fun e w' => e = .returned (cenVal (cenP x y W H cs)) ∧ Below w.heap.size w w' := by
  obtain ⟨hx, hx', hy, hy', h1, h2, hn⟩ := maskB_bd hm
  have hB := (Blk.new w 40 #[.int .i64 x, .int .i64 y, .int .i64 W, .int .i64 H, .slice A cs.length c]).alloc (.cells #[.int .i64 0, .int .i64 0] 32)
  obtain ⟨_, _, _, _, _, k5, k6, hb⟩ := two_blocks w 40 32 (.int .i64 x) (.int .i64 y) (.int .i64 W) (.int .i64 H) (.slice A cs.length c)
  have HM := Lib.hid hm; clear hm
  have GB : ∀ i, i < cs.length → ∀ k, k ≤ cs.length → 0 ≤ sumTo cs (sqP x y W (pX x W i) (pY y W i)) k ∧ sumTo cs (sqP x y W (pX x W i) (pY y W i)) k ≤ 72000000 * (k : Int) := fun i hi k hk => sumTo_bd cs _ cs.length (fun j hj => sq_all (pX_co j hx hx' h1 h2 (by omega)) (pY_co j hy hy' h1 h2 (by omega)) (pX_co i hx hx' h1 h2 (by omega)) (pY_co i hy hy' h1 h2 (by omega))) k hk
  have HGB := Lib.hid GB; clear GB
  have HP : cenP x y W H cs = (match cenTo cs (gP x y W cs) cs.length with | none => (0, 0, 4) | some p => (pX x W p.1, pY y W p.1, 0)) := by rw [cenP, HM.out]; rfl
  have HCP := Lib.hid HP; clear HP
  unfold maskV
  go_enter Tryz.func33, Tryz.ntmps33
  go_upto_region 1 with (fail)
  generalize (w.alloc (.cells #[.int .i64 x, .int .i64 y, .int .i64 W, .int .i64 H, .slice A cs.length c] 40)).alloc (.cells #[.int .i64 0, .int .i64 0] 32) = W0 at *
  obtain ⟨b0, b1, b2, b3, b4⟩ := mask_cells hB
  have r1 : ∀ W1, Calls Tryz.prog 52 #[.agg #[.int .i64 x, .int .i64 y, .int .i64 W, .int .i64 H, .slice A cs.length c]] W1 fun e w' => e = .returned (.bool true) ∧ Below W1.heap.size W1 w' := fun W1 => by rw [← HM.out]; exact implMask x y W H A cs.length c (by omega) W1
  go_upto_region 3 with (go_at_call 52; refine (r1 _).mono ?_; rintro e w1 ⟨rfl, p1⟩)
  have hB1 := hB.below p1 (by omega)
  have k51 := k5.below p1 (by omega)
  have hb1 : Below w.heap.size w w1 := hb.trans (p1.mono (by omega))
  have hz1 : w.heap.size + 2 ≤ w1.heap.size := by have := p1.size; omega
  obtain ⟨d0, d1, d2, d3, d4⟩ := mask_cells hB1
  go_upto_region 4 with (fail)
  have hBest := Blk.new w1 32 #[.int .i64 0, .int .i64 0]
  have hB2 := hB1.alloc (.cells #[.int .i64 0, .int .i64 0] 32)
  have p12 : Below w1.heap.size w1 (w1.alloc (.cells #[.int .i64 0, .int .i64 0] 32)) := (Below.refl _ _).alloc (Nat.le_refl _) _
  clear d0 d1 d2 d3 d4
  obtain ⟨d0, d1, d2, d3, d4⟩ := mask_cells hB2
  generalize w1.alloc (.cells #[.int .i64 0, .int .i64 0] 32) = W2 at *
  go_wp2_with fail
  go_loopw [5, 17] (fun v5 v17 wr => ∃ i : Nat, i ≤ cs.length ∧ Below w1.heap.size w1 wr ∧ Blk wr w1.heap.size 32 #[.int .i64 (bestX x W (cenTo cs (gP x y W cs) i)), .int .i64 (bestY y W (cenTo cs (gP x y W cs) i))] ∧ v5 = .int .i64 (leastI (cenTo cs (gP x y W cs) i)) ∧ v17 = .int .i64 i) (fun _ i _ => cs.length - (intOf i).toNat)
  case atStart => exact ⟨0, Nat.zero_le _, p12, hBest, rfl, rfl⟩
  case round =>
    obtain ⟨i, hi, hbr, hBb, rfl, rfl⟩ := hrel
    have hBr := hB1.below hbr (by omega)
    have k5r := k51.below hbr (by omega)
    have hwr := hBb.lt
    obtain ⟨e0, e1, e2, e3, e4⟩ := mask_cells hBr
    by_cases hlt : i < cs.length
    · have RR := ((hr.below hb1).more (B' := w1.heap.size) (by omega)).below hbr
      obtain ⟨ab, ao, rfl, hadb, hcell⟩ := RR.2 (by omega)
      have c0 := hcell _ _ (bC_get cs i hlt)
      have hlt' : (i : Int) < (cs.length : Int) := by omega
      clear hcell
      cases hv : cs[i]
      · rw [hv] at c0
        have HN := Lib.hid (cenTo_no (g := gP x y W cs) hlt hv)
        clear hv
        have HBb := Lib.hid hBb; clear hBb
        go_wp2_with fail
        go_roundw
        case rel => exact ⟨i + 1, by omega, hbr, by rw [HN.out]; exact HBb.out, by rw [HN.out], by go_num⟩
        case measure => simp [intOf]; omega
      · rw [hv] at c0
        have HV := Lib.hid hv
        clear hv
        have HBb := Lib.hid hBb; clear hBb
        go_wp2_with fail
        have pI1 := pX_co (x := x) i hx hx' h1 h2 (by omega)
        have pI2 := pY_co (y := y) i hy hy' h1 h2 (by omega)
        obtain ⟨g0, g1, g2, g3, g4⟩ := mask_regrown hBr
        have r2 : ∀ d os, Calls Tryz.prog 53 #[maskV x y W H (some ⟨ab, ao, none⟩) cs.length c, .int .i64 i] (grow (redrawn wr d) os) (fun e w'' => e = .returned (.agg #[.int .i64 (pX x W i), .int .i64 (pY y W i)]) ∧ ∃ p : Regrown, w'' = grow (redrawn wr p.d) p.os) := fun d os => Calls.regrown_of (implPoint x y W H _ _ c i hx hx' hy hy' h1 h2 (by omega) _)
        have r3 : ∀ d os, Calls Tryz.prog 70 #[maskV x y W H (some ⟨ab, ao, none⟩) cs.length c, .agg #[.int .i64 (pX x W i), .int .i64 (pY y W i)]] (grow (redrawn wr d) os) (fun e w'' => e = .returned (.int .i64 (gP x y W cs i)) ∧ ∃ p : Regrown, w'' = grow (redrawn wr p.d) p.os) := fun d os => Calls.regrown_of (spread_any x y W H _ _ _ c cs hx hx' hy hy' h1 h2 hn pI1 pI2 _ ((RR.more (Nat.le_of_lt hwr)).regrown d os))
        unfold maskV at r2 r3
        refine wp_region_quiet_below (by kernel_rfl) (by kernel_rfl) ?_
        repeat (first | go_big_quiet_step ((first | with_reducible exact r2 _ _ | with_reducible exact r3 _ _)))
        refine wpQuiet_nil ?_
        intro _ hw'
        obtain ⟨⟨dq, osq⟩, rfl⟩ := hw'
        have hbg := below_regrown wr dq osq
        generalize grow (redrawn wr dq) osq = W3 at *
        have hbr3 : Below w1.heap.size w1 W3 := hbr.trans (hbg.mono (by omega))
        have hBb3 : Blk W3 w1.heap.size 32 #[.int .i64 (bestX x W (cenTo cs (gP x y W cs) i)), .int .i64 (bestY y W (cenTo cs (gP x y W cs) i))] := HBb.out.below hbg hwr
        have hB3 := hBr.below hbg (by omega)
        have hsz3 := hbg.size
        clear e0 e1 e2 e3 e4 g0 g1 g2 g3 g4 c0 r2 r3
        obtain ⟨e0, e1, e2, e3, e4⟩ := mask_cells hB3
        have HB3 := Lib.hid hBb3; clear hBb3
        cases hc : cenTo cs (gP x y W cs) i with
        | none =>
          have HN := Lib.hid (cenTo_first (g := gP x y W cs) hlt HV.out hc)
          clear hc
          simp only [leastI]
          go_wp2_with (go_at_call 53; refine (implPoint x y W H _ _ c i hx hx' hy hy' h1 h2 (by omega) _).mono ?_; rintro e w4 ⟨rfl, p4⟩; obtain ⟨m5, m6, m7, m8, m9, m10, m11⟩ := pair_facts (HB3.out.below p4 (by omega)))
          go_roundw
          case rel =>
            refine ⟨i + 1, by omega, ((hbr3.trans (p4.mono (by omega))).setCell (Nat.le_refl _) _).setCell (Nat.le_refl _) _, ?_, by rw [HN.out]; rfl, by go_num⟩
            rw [HN.out]
            exact ((HB3.out.below p4 (by omega)).set_ 0 _).set_ 1 _
          case measure => simp [intOf]; omega
        | some p =>
          obtain ⟨b, l⟩ := p
          have hbi := cenTo_lt _ _ _ _ _ hc
          have hl0 := (HGB.out b (by omega) cs.length (Nat.le_refl _)).1
          have hl1 : ¬ (l < 0) := by rw [hbi.2]; unfold gP; omega
          clear hbi hl0
          by_cases hl : gP x y W cs i < l
          · have HN := Lib.hid (cenTo_less (g := gP x y W cs) hlt HV.out hc hl)
            clear hc
            simp only [leastI]
            go_wp2_with (go_at_call 53; refine (implPoint x y W H _ _ c i hx hx' hy hy' h1 h2 (by omega) _).mono ?_; rintro e w4 ⟨rfl, p4⟩; obtain ⟨m5, m6, m7, m8, m9, m10, m11⟩ := pair_facts (HB3.out.below p4 (by omega)))
            go_roundw
            case rel =>
              refine ⟨i + 1, by omega, ((hbr3.trans (p4.mono (by omega))).setCell (Nat.le_refl _) _).setCell (Nat.le_refl _) _, ?_, by rw [HN.out]; rfl, by go_num⟩
              rw [HN.out]
              exact ((HB3.out.below p4 (by omega)).set_ 0 _).set_ 1 _
            case measure => simp [intOf]; omega
          · have HN := Lib.hid (cenTo_more (g := gP x y W cs) hlt HV.out hc hl)
            have HC := Lib.hid hc
            clear hc
            simp only [leastI]
            go_wp2_with fail
            go_roundw
            case rel => exact ⟨i + 1, by omega, hbr3, by rw [HN.out, ← HC.out]; exact HB3.out, by rw [HN.out]; rfl, by go_num⟩
            case measure => simp [intOf]; omega
    · obtain rfl : i = cs.length := by omega
      obtain ⟨f5, f6, f7, f8, f9, f10, f11⟩ := pair_facts k5r
      obtain ⟨g5, g6, _⟩ := pair_facts hBb
      clear hBb
      cases hc : cenTo cs (gP x y W cs) cs.length with
      | none =>
        have HN := Lib.hid (show cenP x y W H cs = (0, 0, 4) by rw [HCP.out, hc])
        rw [hc] at g5 g6
        clear hc
        simp only [bestX, bestY, leastI] at g5 g6 ⊢
        go_wp2_with fail
        refine bodyPost_ret (v := cenVal (cenP x y W H cs)) (by simp [results, Tryz.results33, go_sem, cenVal, HN.out, f10, f11]) rfl ⟨rfl, ((hb1.trans (hbr.mono (by omega))).setCell (by simp) _).setCell (by simp) _⟩
      | some p =>
        obtain ⟨b, l⟩ := p
        have HN := Lib.hid (show cenP x y W H cs = (pX x W b, pY y W b, 0) by rw [HCP.out, hc])
        rw [hc] at g5 g6
        have hbi := cenTo_lt _ _ _ _ _ hc
        have hl0 := (HGB.out b hbi.1 cs.length (Nat.le_refl _)).1
        have hl1 : ¬ (l < 0) := by rw [hbi.2]; unfold gP; omega
        clear hc
        simp only [bestX, bestY, leastI] at g5 g6 ⊢
        go_wp2_with fail
        refine bodyPost_ret (v := cenVal (cenP x y W H cs)) (by simp [results, Tryz.results33, go_sem, cenVal, HN.out, f10, f11]) rfl ⟨rfl, ((hb1.trans (hbr.mono (by omega))).setCell (by simp) _).setCell (by simp) _⟩
end Go.Proofs.YtaaioengebaebaaGreatDoor
