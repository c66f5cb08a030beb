/- Masks: points, the test of a mask, the point of a cell, squared distances; of the program and of the reference. -/
import Derived.Test.YtaaioengebaebaaGreatDoorRows
import Derived.Test.YtaaioengebaebaaGreatDoorK9GA
import Derived.WalkKit
import Derived.ProofKit
import Derived.OpenShut
import Derived.BigQuiet
import Derived.Outline
import Derived.WalkSpells
import Derived.WalkLawsBesides
import Derived.Deep.DeepCutAuto
import Derived.Test.YtaaioengebaebaaGreatDoorK9HF
import Derived.Deep.RegionHeld3
import Derived.Lib.QuietBelow
import Derived.Deep.QuietTactic
import Derived.Lib.Hide
namespace Go.Proofs.YtaaioengebaebaaGreatDoor
open Go.ChangeShapes Go.WideShapes Go.ChangeAt Go.RowKit Go.Sort

theorem specIn_m (x lo hi : Int) (w : World) : Calls Tryz.prog 100 #[.int .i64 x, .int .i64 lo, .int .i64 hi] w fun e w' => e = .returned (.bool (inB x lo hi)) ∧ w = w' := by
  go_enter Tryz.func100, Tryz.ntmps100
  go_upto_region 9999 with ((with_reducible refine at_list ?_); (first | (refine gl_t _ (by exact rfl) (by exact rfl) (by exact rfl) (by exact rfl) (by intro hc hv K hK; (first | (refine lmove (by exact rfl) (by exact rfl) (by first | exact gs hc | exact gs hg | exact gs (by simp [hc]) | exact gs (by simp [hc, hg]) | exact rfl) ?_; exact hK) | (refine lwpick_and (by exact rfl) (by exact rfl) (by first | exact rfl | exact gs hc | exact gs hg | exact gs (by simp [hc]) | exact gs (by simp [hc, hg])) (by intro hb; first | exact rfl | exact gs hb | exact gs hc | exact gs hg | exact gs (by simp [hb, hc]) | exact gs (by simp [hb, hc, hg])) ?_; exact hK) | (refine lwpick_or (by exact rfl) (by exact rfl) (by first | exact rfl | exact gs hc | exact gs hg | exact gs (by simp [hc]) | exact gs (by simp [hc, hg])) (by intro hb; first | exact rfl | exact gs hb | exact gs hc | exact gs hg | exact gs (by simp [hb, hc]) | exact gs (by simp [hb, hc, hg])) ?_; exact hK) | (clear hc; (try clear hg); go_step; exact hK) | ((try have hc' := hc; simp at hc'); (try have hg' := hg; simp at hg'); go_step; exact hK))) ?_; (intro l' hl; simp only [List.set_cons_succ, List.set_cons_zero] at hl; subst hl)) | (refine gl_f _ (by exact rfl) (by exact rfl) (by exact rfl) (by exact rfl) (by intro hc hv K hK; (first | (refine lmove (by exact rfl) (by exact rfl) (by first | exact gs hc | exact gs hg | exact gs (by simp [hc]) | exact gs (by simp [hc, hg]) | exact rfl) ?_; exact hK) | (refine lwpick_and (by exact rfl) (by exact rfl) (by first | exact rfl | exact gs hc | exact gs hg | exact gs (by simp [hc]) | exact gs (by simp [hc, hg])) (by intro hb; first | exact rfl | exact gs hb | exact gs hc | exact gs hg | exact gs (by simp [hb, hc]) | exact gs (by simp [hb, hc, hg])) ?_; exact hK) | (refine lwpick_or (by exact rfl) (by exact rfl) (by first | exact rfl | exact gs hc | exact gs hg | exact gs (by simp [hc]) | exact gs (by simp [hc, hg])) (by intro hb; first | exact rfl | exact gs hb | exact gs hc | exact gs hg | exact gs (by simp [hb, hc]) | exact gs (by simp [hb, hc, hg])) ?_; exact hK) | (clear hc; (try clear hg); go_step; exact hK) | ((try have hc' := hc; simp at hc'); (try have hg' := hg; simp at hg'); go_step; exact hK))) ?_; (intro l' hl; simp only [List.set_cons_succ, List.set_cons_zero] at hl; subst hl)) | (refine gl_t2 _ (by exact rfl) (by exact rfl) (by exact rfl) (by exact rfl) (by intro hg hc hv hv2 K hK; (first | (refine lmove (by exact rfl) (by exact rfl) (by first | exact gs hc | exact gs hg | exact gs (by simp [hc]) | exact gs (by simp [hc, hg]) | exact rfl) ?_; exact hK) | (refine lwpick_and (by exact rfl) (by exact rfl) (by first | exact rfl | exact gs hc | exact gs hg | exact gs (by simp [hc]) | exact gs (by simp [hc, hg])) (by intro hb; first | exact rfl | exact gs hb | exact gs hc | exact gs hg | exact gs (by simp [hb, hc]) | exact gs (by simp [hb, hc, hg])) ?_; exact hK) | (refine lwpick_or (by exact rfl) (by exact rfl) (by first | exact rfl | exact gs hc | exact gs hg | exact gs (by simp [hc]) | exact gs (by simp [hc, hg])) (by intro hb; first | exact rfl | exact gs hb | exact gs hc | exact gs hg | exact gs (by simp [hb, hc]) | exact gs (by simp [hb, hc, hg])) ?_; exact hK) | (clear hc; (try clear hg); go_step; exact hK) | ((try have hc' := hc; simp at hc'); (try have hg' := hg; simp at hg'); go_step; exact hK))) ?_; (intro l' hl; simp only [List.set_cons_succ, List.set_cons_zero] at hl; subst hl)) | (refine gl_f2 _ (by exact rfl) (by exact rfl) (by exact rfl) (by exact rfl) (by intro hg hc hv hv2 K hK; (first | (refine lmove (by exact rfl) (by exact rfl) (by first | exact gs hc | exact gs hg | exact gs (by simp [hc]) | exact gs (by simp [hc, hg]) | exact rfl) ?_; exact hK) | (refine lwpick_and (by exact rfl) (by exact rfl) (by first | exact rfl | exact gs hc | exact gs hg | exact gs (by simp [hc]) | exact gs (by simp [hc, hg])) (by intro hb; first | exact rfl | exact gs hb | exact gs hc | exact gs hg | exact gs (by simp [hb, hc]) | exact gs (by simp [hb, hc, hg])) ?_; exact hK) | (refine lwpick_or (by exact rfl) (by exact rfl) (by first | exact rfl | exact gs hc | exact gs hg | exact gs (by simp [hc]) | exact gs (by simp [hc, hg])) (by intro hb; first | exact rfl | exact gs hb | exact gs hc | exact gs hg | exact gs (by simp [hb, hc]) | exact gs (by simp [hb, hc, hg])) ?_; exact hK) | (clear hc; (try clear hg); go_step; exact hK) | ((try have hc' := hc; simp at hc'); (try have hg' := hg; simp at hg'); go_step; exact hK))) ?_; (intro l' hl; simp only [List.set_cons_succ, List.set_cons_zero] at hl; subst hl)) | (refine lpick_and (by exact rfl) (by exact rfl) (by exact rfl) (by exact rfl) (by intro hb; first | exact rfl | exact gs hb) ?_; (intro l' hl; simp only [List.set_cons_succ, List.set_cons_zero] at hl; subst hl)) | (refine lpick_or (by exact rfl) (by exact rfl) (by exact rfl) (by exact rfl) (by intro hb; first | exact rfl | exact gs hb | exact gs (by simp [hb])) ?_; (intro l' hl; simp only [List.set_cons_succ, List.set_cons_zero] at hl; subst hl))))
  go_ret
  exact ⟨by simp [inB], rfl⟩
set_option maxRecDepth 100000 in
theorem specPt (x y : Int) (w : World) : Calls Tryz.prog 76 #[.agg #[.int .i64 x, .int .i64 y]] w fun e w' => e = .returned (.bool (ptB x y)) ∧ Below w.heap.size w w' := by
  go_enter Tryz.func76, Tryz.ntmps76
  go_upto_region 9999 with (first | (go_at_call 100; refine (specIn_m _ _ _ _).mono ?_; rintro e w' ⟨rfl, rfl⟩) | ((with_reducible refine at_list ?_); (first | (refine gl_t _ (by exact rfl) (by exact rfl) (by exact rfl) (by exact rfl) (by intro hc hv K hK; (first | ((clear hc; go_step; go_at_call 100; refine (specIn_m _ _ _ _).mono ?_; rintro e w' ⟨rfl, rfl⟩; exact hK)) | (refine lmove (by exact rfl) (by exact rfl) (by first | exact gs hc | exact gs hg | exact gs (by simp [hc]) | exact gs (by simp [hc, hg]) | exact rfl) ?_; exact hK) | (refine lwpick_and (by exact rfl) (by exact rfl) (by first | exact rfl | exact gs hc | exact gs hg | exact gs (by simp [hc]) | exact gs (by simp [hc, hg])) (by intro hb; first | exact rfl | exact gs hb | exact gs hc | exact gs hg | exact gs (by simp [hb, hc]) | exact gs (by simp [hb, hc, hg])) ?_; exact hK) | (refine lwpick_or (by exact rfl) (by exact rfl) (by first | exact rfl | exact gs hc | exact gs hg | exact gs (by simp [hc]) | exact gs (by simp [hc, hg])) (by intro hb; first | exact rfl | exact gs hb | exact gs hc | exact gs hg | exact gs (by simp [hb, hc]) | exact gs (by simp [hb, hc, hg])) ?_; exact hK) | (clear hc; (try clear hg); go_step; exact hK) | ((try have hc' := hc; simp at hc'); (try have hg' := hg; simp at hg'); go_step; exact hK))) ?_; (intro l' hl; simp only [List.set_cons_succ, List.set_cons_zero] at hl; subst hl)) | (refine gl_f _ (by exact rfl) (by exact rfl) (by exact rfl) (by exact rfl) (by intro hc hv K hK; (first | ((clear hc; go_step; go_at_call 100; refine (specIn_m _ _ _ _).mono ?_; rintro e w' ⟨rfl, rfl⟩; exact hK)) | (refine lmove (by exact rfl) (by exact rfl) (by first | exact gs hc | exact gs hg | exact gs (by simp [hc]) | exact gs (by simp [hc, hg]) | exact rfl) ?_; exact hK) | (refine lwpick_and (by exact rfl) (by exact rfl) (by first | exact rfl | exact gs hc | exact gs hg | exact gs (by simp [hc]) | exact gs (by simp [hc, hg])) (by intro hb; first | exact rfl | exact gs hb | exact gs hc | exact gs hg | exact gs (by simp [hb, hc]) | exact gs (by simp [hb, hc, hg])) ?_; exact hK) | (refine lwpick_or (by exact rfl) (by exact rfl) (by first | exact rfl | exact gs hc | exact gs hg | exact gs (by simp [hc]) | exact gs (by simp [hc, hg])) (by intro hb; first | exact rfl | exact gs hb | exact gs hc | exact gs hg | exact gs (by simp [hb, hc]) | exact gs (by simp [hb, hc, hg])) ?_; exact hK) | (clear hc; (try clear hg); go_step; exact hK) | ((try have hc' := hc; simp at hc'); (try have hg' := hg; simp at hg'); go_step; exact hK))) ?_; (intro l' hl; simp only [List.set_cons_succ, List.set_cons_zero] at hl; subst hl)) | (refine gl_t2 _ (by exact rfl) (by exact rfl) (by exact rfl) (by exact rfl) (by intro hg hc hv hv2 K hK; (first | ((clear hc; go_step; go_at_call 100; refine (specIn_m _ _ _ _).mono ?_; rintro e w' ⟨rfl, rfl⟩; exact hK)) | (refine lmove (by exact rfl) (by exact rfl) (by first | exact gs hc | exact gs hg | exact gs (by simp [hc]) | exact gs (by simp [hc, hg]) | exact rfl) ?_; exact hK) | (refine lwpick_and (by exact rfl) (by exact rfl) (by first | exact rfl | exact gs hc | exact gs hg | exact gs (by simp [hc]) | exact gs (by simp [hc, hg])) (by intro hb; first | exact rfl | exact gs hb | exact gs hc | exact gs hg | exact gs (by simp [hb, hc]) | exact gs (by simp [hb, hc, hg])) ?_; exact hK) | (refine lwpick_or (by exact rfl) (by exact rfl) (by first | exact rfl | exact gs hc | exact gs hg | exact gs (by simp [hc]) | exact gs (by simp [hc, hg])) (by intro hb; first | exact rfl | exact gs hb | exact gs hc | exact gs hg | exact gs (by simp [hb, hc]) | exact gs (by simp [hb, hc, hg])) ?_; exact hK) | (clear hc; (try clear hg); go_step; exact hK) | ((try have hc' := hc; simp at hc'); (try have hg' := hg; simp at hg'); go_step; exact hK))) ?_; (intro l' hl; simp only [List.set_cons_succ, List.set_cons_zero] at hl; subst hl)) | (refine gl_f2 _ (by exact rfl) (by exact rfl) (by exact rfl) (by exact rfl) (by intro hg hc hv hv2 K hK; (first | ((clear hc; go_step; go_at_call 100; refine (specIn_m _ _ _ _).mono ?_; rintro e w' ⟨rfl, rfl⟩; exact hK)) | (refine lmove (by exact rfl) (by exact rfl) (by first | exact gs hc | exact gs hg | exact gs (by simp [hc]) | exact gs (by simp [hc, hg]) | exact rfl) ?_; exact hK) | (refine lwpick_and (by exact rfl) (by exact rfl) (by first | exact rfl | exact gs hc | exact gs hg | exact gs (by simp [hc]) | exact gs (by simp [hc, hg])) (by intro hb; first | exact rfl | exact gs hb | exact gs hc | exact gs hg | exact gs (by simp [hb, hc]) | exact gs (by simp [hb, hc, hg])) ?_; exact hK) | (refine lwpick_or (by exact rfl) (by exact rfl) (by first | exact rfl | exact gs hc | exact gs hg | exact gs (by simp [hc]) | exact gs (by simp [hc, hg])) (by intro hb; first | exact rfl | exact gs hb | exact gs hc | exact gs hg | exact gs (by simp [hb, hc]) | exact gs (by simp [hb, hc, hg])) ?_; exact hK) | (clear hc; (try clear hg); go_step; exact hK) | ((try have hc' := hc; simp at hc'); (try have hg' := hg; simp at hg'); go_step; exact hK))) ?_; (intro l' hl; simp only [List.set_cons_succ, List.set_cons_zero] at hl; subst hl)) | (refine lpick_and (by exact rfl) (by exact rfl) (by exact rfl) (by exact rfl) (by intro hb; first | exact rfl | exact gs hb) ?_; (intro l' hl; simp only [List.set_cons_succ, List.set_cons_zero] at hl; subst hl)) | (refine lpick_or (by exact rfl) (by exact rfl) (by exact rfl) (by exact rfl) (by intro hb; first | exact rfl | exact gs hb | exact gs (by simp [hb])) ?_; (intro l' hl; simp only [List.set_cons_succ, List.set_cons_zero] at hl; subst hl)))))
  go_ret
  exact ⟨rfl, (Below.refl _ _).alloc (Nat.le_refl _) _⟩
set_option maxRecDepth 100000 in
theorem implPt (x y : Int) (w : World) : Calls Tryz.prog 74 #[.agg #[.int .i64 x, .int .i64 y]] w fun e w' => e = .returned (.bool (ptB x y)) ∧ Below w.heap.size w w' := by
  go_enter Tryz.func74, Tryz.ntmps74
  go_upto_region 9999 with (first | (go_at_call 86; refine (within_any _ _ _ _).mono ?_; rintro e w' ⟨rfl, rfl⟩) | ((with_reducible refine at_list ?_); (first | (refine gl_t _ (by exact rfl) (by exact rfl) (by exact rfl) (by exact rfl) (by intro hc hv K hK; (first | ((clear hc; go_step; go_at_call 86; refine (within_any _ _ _ _).mono ?_; rintro e w' ⟨rfl, rfl⟩; exact hK)) | (refine lmove (by exact rfl) (by exact rfl) (by first | exact gs hc | exact gs hg | exact gs (by simp [hc]) | exact gs (by simp [hc, hg]) | exact rfl) ?_; exact hK) | (refine lwpick_and (by exact rfl) (by exact rfl) (by first | exact rfl | exact gs hc | exact gs hg | exact gs (by simp [hc]) | exact gs (by simp [hc, hg])) (by intro hb; first | exact rfl | exact gs hb | exact gs hc | exact gs hg | exact gs (by simp [hb, hc]) | exact gs (by simp [hb, hc, hg])) ?_; exact hK) | (refine lwpick_or (by exact rfl) (by exact rfl) (by first | exact rfl | exact gs hc | exact gs hg | exact gs (by simp [hc]) | exact gs (by simp [hc, hg])) (by intro hb; first | exact rfl | exact gs hb | exact gs hc | exact gs hg | exact gs (by simp [hb, hc]) | exact gs (by simp [hb, hc, hg])) ?_; exact hK) | (clear hc; (try clear hg); go_step; exact hK) | ((try have hc' := hc; simp at hc'); (try have hg' := hg; simp at hg'); go_step; exact hK))) ?_; (intro l' hl; simp only [List.set_cons_succ, List.set_cons_zero] at hl; subst hl)) | (refine gl_f _ (by exact rfl) (by exact rfl) (by exact rfl) (by exact rfl) (by intro hc hv K hK; (first | ((clear hc; go_step; go_at_call 86; refine (within_any _ _ _ _).mono ?_; rintro e w' ⟨rfl, rfl⟩; exact hK)) | (refine lmove (by exact rfl) (by exact rfl) (by first | exact gs hc | exact gs hg | exact gs (by simp [hc]) | exact gs (by simp [hc, hg]) | exact rfl) ?_; exact hK) | (refine lwpick_and (by exact rfl) (by exact rfl) (by first | exact rfl | exact gs hc | exact gs hg | exact gs (by simp [hc]) | exact gs (by simp [hc, hg])) (by intro hb; first | exact rfl | exact gs hb | exact gs hc | exact gs hg | exact gs (by simp [hb, hc]) | exact gs (by simp [hb, hc, hg])) ?_; exact hK) | (refine lwpick_or (by exact rfl) (by exact rfl) (by first | exact rfl | exact gs hc | exact gs hg | exact gs (by simp [hc]) | exact gs (by simp [hc, hg])) (by intro hb; first | exact rfl | exact gs hb | exact gs hc | exact gs hg | exact gs (by simp [hb, hc]) | exact gs (by simp [hb, hc, hg])) ?_; exact hK) | (clear hc; (try clear hg); go_step; exact hK) | ((try have hc' := hc; simp at hc'); (try have hg' := hg; simp at hg'); go_step; exact hK))) ?_; (intro l' hl; simp only [List.set_cons_succ, List.set_cons_zero] at hl; subst hl)) | (refine gl_t2 _ (by exact rfl) (by exact rfl) (by exact rfl) (by exact rfl) (by intro hg hc hv hv2 K hK; (first | ((clear hc; go_step; go_at_call 86; refine (within_any _ _ _ _).mono ?_; rintro e w' ⟨rfl, rfl⟩; exact hK)) | (refine lmove (by exact rfl) (by exact rfl) (by first | exact gs hc | exact gs hg | exact gs (by simp [hc]) | exact gs (by simp [hc, hg]) | exact rfl) ?_; exact hK) | (refine lwpick_and (by exact rfl) (by exact rfl) (by first | exact rfl | exact gs hc | exact gs hg | exact gs (by simp [hc]) | exact gs (by simp [hc, hg])) (by intro hb; first | exact rfl | exact gs hb | exact gs hc | exact gs hg | exact gs (by simp [hb, hc]) | exact gs (by simp [hb, hc, hg])) ?_; exact hK) | (refine lwpick_or (by exact rfl) (by exact rfl) (by first | exact rfl | exact gs hc | exact gs hg | exact gs (by simp [hc]) | exact gs (by simp [hc, hg])) (by intro hb; first | exact rfl | exact gs hb | exact gs hc | exact gs hg | exact gs (by simp [hb, hc]) | exact gs (by simp [hb, hc, hg])) ?_; exact hK) | (clear hc; (try clear hg); go_step; exact hK) | ((try have hc' := hc; simp at hc'); (try have hg' := hg; simp at hg'); go_step; exact hK))) ?_; (intro l' hl; simp only [List.set_cons_succ, List.set_cons_zero] at hl; subst hl)) | (refine gl_f2 _ (by exact rfl) (by exact rfl) (by exact rfl) (by exact rfl) (by intro hg hc hv hv2 K hK; (first | ((clear hc; go_step; go_at_call 86; refine (within_any _ _ _ _).mono ?_; rintro e w' ⟨rfl, rfl⟩; exact hK)) | (refine lmove (by exact rfl) (by exact rfl) (by first | exact gs hc | exact gs hg | exact gs (by simp [hc]) | exact gs (by simp [hc, hg]) | exact rfl) ?_; exact hK) | (refine lwpick_and (by exact rfl) (by exact rfl) (by first | exact rfl | exact gs hc | exact gs hg | exact gs (by simp [hc]) | exact gs (by simp [hc, hg])) (by intro hb; first | exact rfl | exact gs hb | exact gs hc | exact gs hg | exact gs (by simp [hb, hc]) | exact gs (by simp [hb, hc, hg])) ?_; exact hK) | (refine lwpick_or (by exact rfl) (by exact rfl) (by first | exact rfl | exact gs hc | exact gs hg | exact gs (by simp [hc]) | exact gs (by simp [hc, hg])) (by intro hb; first | exact rfl | exact gs hb | exact gs hc | exact gs hg | exact gs (by simp [hb, hc]) | exact gs (by simp [hb, hc, hg])) ?_; exact hK) | (clear hc; (try clear hg); go_step; exact hK) | ((try have hc' := hc; simp at hc'); (try have hg' := hg; simp at hg'); go_step; exact hK))) ?_; (intro l' hl; simp only [List.set_cons_succ, List.set_cons_zero] at hl; subst hl)) | (refine lpick_and (by exact rfl) (by exact rfl) (by exact rfl) (by exact rfl) (by intro hb; first | exact rfl | exact gs hb) ?_; (intro l' hl; simp only [List.set_cons_succ, List.set_cons_zero] at hl; subst hl)) | (refine lpick_or (by exact rfl) (by exact rfl) (by exact rfl) (by exact rfl) (by intro hb; first | exact rfl | exact gs hb | exact gs (by simp [hb])) ?_; (intro l' hl; simp only [List.set_cons_succ, List.set_cons_zero] at hl; subst hl)))))
  go_ret
  exact ⟨rfl, (Below.refl _ _).alloc (Nat.le_refl _) _⟩

def bC (xs : List Bool) : List Value := xs.map Value.bool
/-- A mask by value. -/
def maskV (x y W H : Int) (A : Option Addr) (n c : Nat) : Value := .agg #[.int .i64 x, .int .i64 y, .int .i64 W, .int .i64 H, .slice A n c]
def maskB (x y W H : Int) (n : Nat) : Bool := inB W 1 24 && (inB H 1 24 && (ptB x y && (ptB (x + W - 1) (y + H - 1) && ((n : Int) == W * H))))

theorem lengthB (A : Option Addr) (n c : Nat) (_hn : n ≤ 9223372036854775807) (w : World) : Calls Tryz.prog 87 #[.slice A n c] w fun e w' => e = .returned (.int .i64 n) ∧ w = w' := by
  go_enter Tryz.func87, Tryz.ntmps87
  go_wp2
  go_ret
  exact ⟨rfl, rfl⟩

set_option maxRecDepth 100000 in
set_option maxHeartbeats 4000000 in
theorem specMask (x y W H : Int) (A : Option Addr) (n c : Nat) (_hn : n ≤ 9223372036854775807) (w : World) :
    Calls Tryz.prog 71 #[maskV x y W H A n c] w fun e w' => e = .returned (.bool (maskB x y W H n)) ∧ Below w.heap.size w w' := by
  unfold maskV
  cases h1 : inB W 1 24
  · have H1 := Lib.hid h1; clear h1
    go_enter Tryz.func71, Tryz.ntmps71
    go_wp2_with (first | (go_at_call 100; (with_reducible refine (specIn_m W 1 24 _).mono ?_); rw [H1.out]; rintro e w' ⟨rfl, rfl⟩) | (go_at_call 100; (with_reducible refine (specIn_m H 1 24 _).mono ?_); rw [H2.out]; rintro e w' ⟨rfl, rfl⟩) | (go_at_call 76; (with_reducible refine (specPt x y _).mono ?_); rw [H3.out]; rintro e w1 ⟨rfl, p1⟩; obtain ⟨q1, q2⟩ := bcell p1; have z1 : w.heap.size < w1.heap.size := by have := p1.size; simp at this; omega) | (go_at_call 76; (with_reducible refine (specPt (x + W - 1) (y + H - 1) _).mono ?_); rw [H4.out]; rintro e w2 ⟨rfl, p2⟩; obtain ⟨q3, q4⟩ := bcell p2))
    go_ret
    exact ⟨by rw [maskB, H1.out]; rfl, (Below.refl _ _).alloc (Nat.le_refl _) _⟩
  · have b1 : 1 ≤ W := by simp [inB] at h1; omega
    have b2 : W ≤ 24 := by simp [inB] at h1; omega
    have H1 := Lib.hid h1; clear h1
    cases h2 : inB H 1 24
    · have H2 := Lib.hid h2; clear h2
      go_enter Tryz.func71, Tryz.ntmps71
      go_wp2_with (first | (go_at_call 100; (with_reducible refine (specIn_m W 1 24 _).mono ?_); rw [H1.out]; rintro e w' ⟨rfl, rfl⟩) | (go_at_call 100; (with_reducible refine (specIn_m H 1 24 _).mono ?_); rw [H2.out]; rintro e w' ⟨rfl, rfl⟩) | (go_at_call 76; (with_reducible refine (specPt x y _).mono ?_); rw [H3.out]; rintro e w1 ⟨rfl, p1⟩; obtain ⟨q1, q2⟩ := bcell p1; have z1 : w.heap.size < w1.heap.size := by have := p1.size; simp at this; omega) | (go_at_call 76; (with_reducible refine (specPt (x + W - 1) (y + H - 1) _).mono ?_); rw [H4.out]; rintro e w2 ⟨rfl, p2⟩; obtain ⟨q3, q4⟩ := bcell p2))
      go_ret
      exact ⟨by rw [maskB, H1.out, H2.out]; rfl, (Below.refl _ _).alloc (Nat.le_refl _) _⟩
    · have b3 : 1 ≤ H := by simp [inB] at h2; omega
      have b4 : H ≤ 24 := by simp [inB] at h2; omega
      have H2 := Lib.hid h2; clear h2
      cases h3 : ptB x y
      · have H3 := Lib.hid h3; clear h3
        go_enter Tryz.func71, Tryz.ntmps71
        go_wp2_with (first | (go_at_call 100; (with_reducible refine (specIn_m W 1 24 _).mono ?_); rw [H1.out]; rintro e w' ⟨rfl, rfl⟩) | (go_at_call 100; (with_reducible refine (specIn_m H 1 24 _).mono ?_); rw [H2.out]; rintro e w' ⟨rfl, rfl⟩) | (go_at_call 76; (with_reducible refine (specPt x y _).mono ?_); rw [H3.out]; rintro e w1 ⟨rfl, p1⟩; obtain ⟨q1, q2⟩ := bcell p1; have z1 : w.heap.size < w1.heap.size := by have := p1.size; simp at this; omega) | (go_at_call 76; (with_reducible refine (specPt (x + W - 1) (y + H - 1) _).mono ?_); rw [H4.out]; rintro e w2 ⟨rfl, p2⟩; obtain ⟨q3, q4⟩ := bcell p2))
        go_ret
        exact ⟨by rw [maskB, H1.out, H2.out, H3.out]; rfl, ((Below.refl _ _).alloc (Nat.le_refl _) _).trans (p1.mono (by simp))⟩
      · have b5 : -1000 ≤ x ∧ x ≤ 1000 ∧ -1000 ≤ y ∧ y ≤ 1000 := by simp [ptB, inB] at h3; omega
        obtain ⟨b5, b6, b7, b8⟩ := b5
        have H3 := Lib.hid h3; clear h3
        cases h4 : ptB (x + W - 1) (y + H - 1)
        · have H4 := Lib.hid h4; clear h4
          go_enter Tryz.func71, Tryz.ntmps71
          go_wp2_with (first | (go_at_call 100; (with_reducible refine (specIn_m W 1 24 _).mono ?_); rw [H1.out]; rintro e w' ⟨rfl, rfl⟩) | (go_at_call 100; (with_reducible refine (specIn_m H 1 24 _).mono ?_); rw [H2.out]; rintro e w' ⟨rfl, rfl⟩) | (go_at_call 76; (with_reducible refine (specPt x y _).mono ?_); rw [H3.out]; rintro e w1 ⟨rfl, p1⟩; obtain ⟨q1, q2⟩ := bcell p1; have z1 : w.heap.size < w1.heap.size := by have := p1.size; simp at this; omega) | (go_at_call 76; (with_reducible refine (specPt (x + W - 1) (y + H - 1) _).mono ?_); rw [H4.out]; rintro e w2 ⟨rfl, p2⟩; obtain ⟨q3, q4⟩ := bcell p2))
          go_ret
          exact ⟨by rw [maskB, H1.out, H2.out, H3.out, H4.out]; rfl, (((Below.refl _ _).alloc (Nat.le_refl _) _).trans (p1.mono (by simp))).trans (p2.mono (Nat.le_of_lt z1))⟩
        · have H4 := Lib.hid h4; clear h4
          have b9 : 0 ≤ W * H := Int.mul_nonneg (by omega) (by omega)
          have b10 : W * H ≤ 24 * 24 := Int.mul_le_mul b2 b4 (by omega) (by omega)
          go_enter Tryz.func71, Tryz.ntmps71
          go_wp2_with (first | (go_at_call 100; (with_reducible refine (specIn_m W 1 24 _).mono ?_); rw [H1.out]; rintro e w' ⟨rfl, rfl⟩) | (go_at_call 100; (with_reducible refine (specIn_m H 1 24 _).mono ?_); rw [H2.out]; rintro e w' ⟨rfl, rfl⟩) | (go_at_call 76; (with_reducible refine (specPt x y _).mono ?_); rw [H3.out]; rintro e w1 ⟨rfl, p1⟩; obtain ⟨q1, q2⟩ := bcell p1; have z1 : w.heap.size < w1.heap.size := by have := p1.size; simp at this; omega) | (go_at_call 76; (with_reducible refine (specPt (x + W - 1) (y + H - 1) _).mono ?_); rw [H4.out]; rintro e w2 ⟨rfl, p2⟩; obtain ⟨q3, q4⟩ := bcell p2))
          go_ret
          exact ⟨ret_bool (by rw [maskB, H1.out, H2.out, H3.out, H4.out]; rfl), (((Below.refl _ _).alloc (Nat.le_refl _) _).trans (p1.mono (by simp))).trans (p2.mono (Nat.le_of_lt z1))⟩


set_option maxRecDepth 100000 in
set_option maxHeartbeats 4000000 in
theorem implMask (x y W H : Int) (A : Option Addr) (n c : Nat) (hn : n ≤ 9223372036854775807) (w : World) :
    Calls Tryz.prog 52 #[maskV x y W H A n c] w fun e w' => e = .returned (.bool (maskB x y W H n)) ∧ Below w.heap.size w w' := by
  have start : ∀ W0, W0 = w.alloc (.cells #[.int .i64 x, .int .i64 y, .int .i64 W, .int .i64 H, .slice A n c] 40) → Below w.heap.size w W0 ∧ (∀ d os, (grow (redrawn W0 d) os).cell? ⟨w.heap.size, 0, none⟩ = some (.int .i64 x)) ∧ (∀ d os, (grow (redrawn W0 d) os).cell? ⟨w.heap.size, 1, none⟩ = some (.int .i64 y)) ∧ (∀ d os, (grow (redrawn W0 d) os).cell? ⟨w.heap.size, 2, none⟩ = some (.int .i64 W)) ∧ (∀ d os, (grow (redrawn W0 d) os).cell? ⟨w.heap.size, 3, none⟩ = some (.int .i64 H)) ∧ (∀ d os, (grow (redrawn W0 d) os).cell? ⟨w.heap.size, 4, none⟩ = some (.slice A n c)) := by
    rintro W0 rfl
    have hB := Blk.new w 40 #[.int .i64 x, .int .i64 y, .int .i64 W, .int .i64 H, .slice A n c]
    exact ⟨(Below.refl _ _).alloc (Nat.le_refl _) _, cell_regrown (by rw [hB.cell]; rfl), cell_regrown (by rw [hB.cell]; rfl), cell_regrown (by rw [hB.cell]; rfl), cell_regrown (by rw [hB.cell]; rfl), cell_regrown (by rw [hB.cell]; rfl)⟩
  have ST := Lib.hid start; clear start
  unfold maskV
  cases h1 : inB W 1 24
  · have H1 := Lib.hid h1; clear h1
    go_enter Tryz.func52, Tryz.ntmps52
    go_upto_region 1 with (fail)
    generalize hW : w.alloc (.cells #[.int .i64 x, .int .i64 y, .int .i64 W, .int .i64 H, .slice A n c] 40) = W0
    obtain ⟨hb, k0, k1, k2, k3, k4⟩ := ST.out W0 hW.symm
    clear hW
    have r1 : ∀ d os, Calls Tryz.prog 86 #[.int .i64 W, .int .i64 1, .int .i64 24] (grow (redrawn W0 d) os) (fun e w'' => e = .returned (.bool false) ∧ ∃ p : Regrown, w'' = grow (redrawn W0 p.d) p.os) := fun d os => Calls.regrown_of (by rw [← H1.out]; exact same_below (within_any W 1 24 _))
    refine wp_region_quiet_below (by kernel_rfl) (by kernel_rfl) ?_
    repeat (first | go_big_quiet_step ((first | with_reducible exact r1 _ _)))
    refine wpQuiet_nil ?_
    intro _ hw'
    obtain ⟨⟨dq, osq⟩, rfl⟩ := hw'
    go_wp2_with fail
    go_ret
    exact ⟨ret_bool (by rw [maskB, H1.out]; rfl), hb.trans ((below_regrown W0 dq osq).mono hb.size)⟩
  · have b1 : 1 ≤ W := by simp [inB] at h1; omega
    have b2 : W ≤ 24 := by simp [inB] at h1; omega
    have H1 := Lib.hid h1; clear h1
    cases h2 : inB H 1 24
    · have H2 := Lib.hid h2; clear h2
      go_enter Tryz.func52, Tryz.ntmps52
      go_upto_region 1 with (fail)
      generalize hW : w.alloc (.cells #[.int .i64 x, .int .i64 y, .int .i64 W, .int .i64 H, .slice A n c] 40) = W0
      obtain ⟨hb, k0, k1, k2, k3, k4⟩ := ST.out W0 hW.symm
      clear hW
      have r1 : ∀ d os, Calls Tryz.prog 86 #[.int .i64 W, .int .i64 1, .int .i64 24] (grow (redrawn W0 d) os) (fun e w'' => e = .returned (.bool true) ∧ ∃ p : Regrown, w'' = grow (redrawn W0 p.d) p.os) := fun d os => Calls.regrown_of (by rw [← H1.out]; exact same_below (within_any W 1 24 _))
      have r2 : ∀ d os, Calls Tryz.prog 86 #[.int .i64 H, .int .i64 1, .int .i64 24] (grow (redrawn W0 d) os) (fun e w'' => e = .returned (.bool false) ∧ ∃ p : Regrown, w'' = grow (redrawn W0 p.d) p.os) := fun d os => Calls.regrown_of (by rw [← H2.out]; exact same_below (within_any H 1 24 _))
      refine wp_region_quiet_below (by kernel_rfl) (by kernel_rfl) ?_
      repeat (first | go_big_quiet_step ((first | with_reducible exact r1 _ _ | with_reducible exact r2 _ _)))
      refine wpQuiet_nil ?_
      intro _ hw'
      obtain ⟨⟨dq, osq⟩, rfl⟩ := hw'
      go_wp2_with fail
      go_ret
      exact ⟨ret_bool (by rw [maskB, H1.out, H2.out]; rfl), hb.trans ((below_regrown W0 dq osq).mono hb.size)⟩
    · have b3 : 1 ≤ H := by simp [inB] at h2; omega
      have b4 : H ≤ 24 := by simp [inB] at h2; omega
      have H2 := Lib.hid h2; clear h2
      cases h3 : ptB x y
      · have H3 := Lib.hid h3; clear h3
        go_enter Tryz.func52, Tryz.ntmps52
        go_upto_region 1 with (fail)
        generalize hW : w.alloc (.cells #[.int .i64 x, .int .i64 y, .int .i64 W, .int .i64 H, .slice A n c] 40) = W0
        obtain ⟨hb, k0, k1, k2, k3, k4⟩ := ST.out W0 hW.symm
        clear hW
        have r1 : ∀ d os, Calls Tryz.prog 86 #[.int .i64 W, .int .i64 1, .int .i64 24] (grow (redrawn W0 d) os) (fun e w'' => e = .returned (.bool true) ∧ ∃ p : Regrown, w'' = grow (redrawn W0 p.d) p.os) := fun d os => Calls.regrown_of (by rw [← H1.out]; exact same_below (within_any W 1 24 _))
        have r2 : ∀ d os, Calls Tryz.prog 86 #[.int .i64 H, .int .i64 1, .int .i64 24] (grow (redrawn W0 d) os) (fun e w'' => e = .returned (.bool true) ∧ ∃ p : Regrown, w'' = grow (redrawn W0 p.d) p.os) := fun d os => Calls.regrown_of (by rw [← H2.out]; exact same_below (within_any H 1 24 _))
        have r3 : ∀ d os, Calls Tryz.prog 74 #[.agg #[.int .i64 x, .int .i64 y]] (grow (redrawn W0 d) os) (fun e w'' => e = .returned (.bool false) ∧ ∃ p : Regrown, w'' = grow (redrawn W0 p.d) p.os) := fun d os => Calls.regrown_of (by rw [← H3.out]; exact implPt x y _)
        refine wp_region_quiet_below (by kernel_rfl) (by kernel_rfl) ?_
        repeat (first | go_big_quiet_step ((first | with_reducible exact r1 _ _ | with_reducible exact r2 _ _ | with_reducible exact r3 _ _)))
        refine wpQuiet_nil ?_
        intro _ hw'
        obtain ⟨⟨dq, osq⟩, rfl⟩ := hw'
        go_wp2_with fail
        go_ret
        exact ⟨ret_bool (by rw [maskB, H1.out, H2.out, H3.out]; rfl), hb.trans ((below_regrown W0 dq osq).mono hb.size)⟩
      · have b5 : -1000 ≤ x ∧ x ≤ 1000 ∧ -1000 ≤ y ∧ y ≤ 1000 := by simp [ptB, inB] at h3; omega
        obtain ⟨b5, b6, b7, b8⟩ := b5
        have H3 := Lib.hid h3; clear h3
        cases h4 : ptB (x + W - 1) (y + H - 1)
        · have H4 := Lib.hid h4; clear h4
          go_enter Tryz.func52, Tryz.ntmps52
          go_upto_region 1 with (fail)
          generalize hW : w.alloc (.cells #[.int .i64 x, .int .i64 y, .int .i64 W, .int .i64 H, .slice A n c] 40) = W0
          obtain ⟨hb, k0, k1, k2, k3, k4⟩ := ST.out W0 hW.symm
          clear hW
          have r1 : ∀ d os, Calls Tryz.prog 86 #[.int .i64 W, .int .i64 1, .int .i64 24] (grow (redrawn W0 d) os) (fun e w'' => e = .returned (.bool true) ∧ ∃ p : Regrown, w'' = grow (redrawn W0 p.d) p.os) := fun d os => Calls.regrown_of (by rw [← H1.out]; exact same_below (within_any W 1 24 _))
          have r2 : ∀ d os, Calls Tryz.prog 86 #[.int .i64 H, .int .i64 1, .int .i64 24] (grow (redrawn W0 d) os) (fun e w'' => e = .returned (.bool true) ∧ ∃ p : Regrown, w'' = grow (redrawn W0 p.d) p.os) := fun d os => Calls.regrown_of (by rw [← H2.out]; exact same_below (within_any H 1 24 _))
          have r3 : ∀ d os, Calls Tryz.prog 74 #[.agg #[.int .i64 x, .int .i64 y]] (grow (redrawn W0 d) os) (fun e w'' => e = .returned (.bool true) ∧ ∃ p : Regrown, w'' = grow (redrawn W0 p.d) p.os) := fun d os => Calls.regrown_of (by rw [← H3.out]; exact implPt x y _)
          have r4 : ∀ d os, Calls Tryz.prog 74 #[.agg #[.int .i64 (x + W - 1), .int .i64 (y + H - 1)]] (grow (redrawn W0 d) os) (fun e w'' => e = .returned (.bool false) ∧ ∃ p : Regrown, w'' = grow (redrawn W0 p.d) p.os) := fun d os => Calls.regrown_of (by rw [← H4.out]; exact implPt (x + W - 1) (y + H - 1) _)
          refine wp_region_quiet_below (by kernel_rfl) (by kernel_rfl) ?_
          repeat (first | go_big_quiet_step ((first | with_reducible exact r1 _ _ | with_reducible exact r2 _ _ | with_reducible exact r3 _ _ | with_reducible exact r4 _ _)))
          refine wpQuiet_nil ?_
          intro _ hw'
          obtain ⟨⟨dq, osq⟩, rfl⟩ := hw'
          go_wp2_with fail
          go_ret
          exact ⟨ret_bool (by rw [maskB, H1.out, H2.out, H3.out, H4.out]; rfl), hb.trans ((below_regrown W0 dq osq).mono hb.size)⟩
        · have H4 := Lib.hid h4; clear h4
          have b9 : 0 ≤ W * H := Int.mul_nonneg (by omega) (by omega)
          have b10 : W * H ≤ 24 * 24 := Int.mul_le_mul b2 b4 (by omega) (by omega)
          go_enter Tryz.func52, Tryz.ntmps52
          go_upto_region 1 with (fail)
          generalize hW : w.alloc (.cells #[.int .i64 x, .int .i64 y, .int .i64 W, .int .i64 H, .slice A n c] 40) = W0
          obtain ⟨hb, k0, k1, k2, k3, k4⟩ := ST.out W0 hW.symm
          clear hW
          have r1 : ∀ d os, Calls Tryz.prog 86 #[.int .i64 W, .int .i64 1, .int .i64 24] (grow (redrawn W0 d) os) (fun e w'' => e = .returned (.bool true) ∧ ∃ p : Regrown, w'' = grow (redrawn W0 p.d) p.os) := fun d os => Calls.regrown_of (by rw [← H1.out]; exact same_below (within_any W 1 24 _))
          have r2 : ∀ d os, Calls Tryz.prog 86 #[.int .i64 H, .int .i64 1, .int .i64 24] (grow (redrawn W0 d) os) (fun e w'' => e = .returned (.bool true) ∧ ∃ p : Regrown, w'' = grow (redrawn W0 p.d) p.os) := fun d os => Calls.regrown_of (by rw [← H2.out]; exact same_below (within_any H 1 24 _))
          have r3 : ∀ d os, Calls Tryz.prog 74 #[.agg #[.int .i64 x, .int .i64 y]] (grow (redrawn W0 d) os) (fun e w'' => e = .returned (.bool true) ∧ ∃ p : Regrown, w'' = grow (redrawn W0 p.d) p.os) := fun d os => Calls.regrown_of (by rw [← H3.out]; exact implPt x y _)
          have r4 : ∀ d os, Calls Tryz.prog 74 #[.agg #[.int .i64 (x + W - 1), .int .i64 (y + H - 1)]] (grow (redrawn W0 d) os) (fun e w'' => e = .returned (.bool true) ∧ ∃ p : Regrown, w'' = grow (redrawn W0 p.d) p.os) := fun d os => Calls.regrown_of (by rw [← H4.out]; exact implPt (x + W - 1) (y + H - 1) _)
          have r5 : ∀ d os, Calls Tryz.prog 87 #[.slice A n c] (grow (redrawn W0 d) os) (fun e w'' => e = .returned (.int .i64 n) ∧ ∃ p : Regrown, w'' = grow (redrawn W0 p.d) p.os) := fun d os => Calls.regrown_of (same_below (lengthB A n c hn _))
          refine wp_region_quiet_below (by kernel_rfl) (by kernel_rfl) ?_
          repeat (first | go_big_quiet_step ((first | with_reducible exact r1 _ _ | with_reducible exact r2 _ _ | with_reducible exact r3 _ _ | with_reducible exact r4 _ _ | with_reducible exact r5 _ _)))
          refine wpQuiet_nil ?_
          intro _ hw'
          obtain ⟨⟨dq, osq⟩, rfl⟩ := hw'
          go_wp2_with fail
          go_ret
          exact ⟨ret_bool (by rw [maskB, H1.out, H2.out, H3.out, H4.out]; rfl), hb.trans ((below_regrown W0 dq osq).mono hb.size)⟩

end Go.Proofs.YtaaioengebaebaaGreatDoor
