/- Facts: their claims, IsFact of both, the codes of both. -/
import Derived.Test.YtihhpmhigmegjaaGreatDoorRows
import Derived.Test.YtihhpmhigmegjaaGreatDoorL0
import Derived.Test.YtihhpmhigmegjaaGreatDoorM0
import Derived.WalkKit
import Derived.ProofKit
import Derived.OpenShut
import Derived.BigQuiet
import Derived.Outline
import Derived.WalkSpells
import Derived.WalkLawsBesides
import Derived.Deep.DeepCutAuto
import Derived.Test.YtihhpmhigmegjaaGreatDoorO4
namespace Go.Proofs.YtihhpmhigmegjaaGreatDoor
open Go.ChangeShapes Go.WideShapes Go.ChangeAt Go.RowKit

def fclm (s : ByteArray) (f : Fct) : Clm := ⟨s, f.kind, f.place, f.val_, f.year, f.year, 1⟩
/-- A fact is as described. -/
def fctB (f : Fct) : Bool := inB f.kind 0 1 && clmB (fclm ⟨#[97]⟩ f)
theorem fact_word : wordB ⟨#[102, 97, 99, 116]⟩ = wordB ⟨#[97]⟩ := by decide +kernel
theorem fclm_ok (f : Fct) : clmB (fclm ⟨#[102, 97, 99, 116]⟩ f) = clmB (fclm ⟨#[97]⟩ f) := by
  unfold clmB fclm
  dsimp only
  rw [fact_word]
/-- The code of claims and a fact. -/
def codeF (xs : List Clm) (f : Fct) : Int := if (areC xs && fctB f) = true then 0 else 1
set_option maxRecDepth 100000 in
theorem specFc_any (f : Fct) (w : World) : Calls Tryz.prog 66 #[f.val] w fun e w' => e = .returned (.agg #[.string ⟨#[102, 97, 99, 116]⟩, .int .i64 f.kind, .string f.place, .string f.val_, .int .i64 f.year, .int .i64 f.year, .int .i64 1]) ∧ Below w.heap.size w w' := by
  unfold Fct.val
  go_enter Tryz.func66, Tryz.ntmps66
  go_wp2
  refine bodyPost_ret (v := .agg #[.string ⟨#[102, 97, 99, 116]⟩, .int .i64 f.kind, .string f.place, .string f.val_, .int .i64 f.year, .int .i64 f.year, .int .i64 1]) (by simp [results, Tryz.results66, go_sem]) rfl ⟨rfl, ?_⟩
  (repeat (first | exact Below.refl _ _ | assumption | refine Below.drew ?_ | refine below_drewN' ?_ _ | refine Below.alloc ?_ (by (try simp); (try omega)) _ | refine Below.setCell ?_ (by (try simp); (try omega)) _))
set_option maxRecDepth 100000 in
theorem implFc_any (f : Fct) (w : World) : Calls Tryz.prog 64 #[f.val] w fun e w' => e = .returned (.agg #[.string ⟨#[97]⟩, .int .i64 f.kind, .string f.place, .string f.val_, .int .i64 f.year, .int .i64 f.year, .int .i64 1]) ∧ Below w.heap.size w w' := by
  unfold Fct.val
  go_enter Tryz.func64, Tryz.ntmps64
  go_wp2
  refine bodyPost_ret (v := .agg #[.string ⟨#[97]⟩, .int .i64 f.kind, .string f.place, .string f.val_, .int .i64 f.year, .int .i64 f.year, .int .i64 1]) (by simp [results, Tryz.results64, go_sem]) rfl ⟨rfl, ?_⟩
  (repeat (first | exact Below.refl _ _ | assumption | refine Below.drew ?_ | refine below_drewN' ?_ _ | refine Below.alloc ?_ (by (try simp); (try omega)) _ | refine Below.setCell ?_ (by (try simp); (try omega)) _))
set_option maxRecDepth 100000 in
theorem specFct_any (f : Fct) (hf : f.place.size ≤ 1048576 ∧ f.val_.size ≤ 1048576) (w : World) : Calls Tryz.prog 21 #[f.val] w fun e w' => e = .returned (.bool (fctB f)) ∧ Below w.heap.size w w' := by
  have HC := Lib.hid (specFc_any f)
  have HI := Lib.hid (specClm_any (fclm ⟨#[102, 97, 99, 116]⟩ f) ⟨show (⟨#[102, 97, 99, 116]⟩ : ByteArray).size ≤ 1048576 by decide, hf.1, hf.2⟩)
  have HW := Lib.hid (within_any f.kind 0 1)
  have HX := Lib.hid (show fctB f = (inB f.kind 0 1 && clmB (fclm ⟨#[102, 97, 99, 116]⟩ f)) by unfold fctB; first | rfl | rw [fclm_ok])
  have KN := Lib.hid (blks_one w 26 #[.int .i64 f.kind, .string f.place, .string f.val_, .int .i64 f.year])
  generalize fctB f = r at HX ⊢
  generalize clmB (fclm ⟨#[102, 97, 99, 116]⟩ f) = q at HX HI
  unfold fclm Clm.val at HI
  dsimp only at HI
  unfold Fct.val at HC ⊢
  rcases (show f.kind = 0 ∨ f.kind = 1 ∨ (f.kind ≠ 0 ∧ f.kind ≠ 1) by omega) with h | h | ⟨h0, h1⟩
  · have e0 : (f.kind == 0) = true := by simpa using h
    have HZ := Lib.hid (show inB f.kind 0 1 = true by rw [h]; rfl)
    rw [HZ.out] at HX HW
    clear h
    go_enter Tryz.func21, Tryz.ntmps21
    go_wp2_with fail
    generalize hW : w.alloc (.cells #[.int .i64 f.kind, .string f.place, .string f.val_, .int .i64 f.year] 26) = W
    obtain ⟨bk, bw, _⟩ := KN.out W hW.symm
    clear hW
    have B1 := Lib.hid bw
    obtain ⟨c0, c1, c2, c3⟩ := cells_4 bk
    clear bk bw
    go_wp2_with (first | (go_at_call 66; ((with_reducible refine (HC.out _).mono ?_); rintro e wn ⟨rfl, bn⟩; (have B1 := Lib.hid (B1.out.trans (bn.mono B1.out.size))); clear bn)) | (go_at_call 65; ((with_reducible refine (HI.out _).mono ?_); rintro e wn ⟨rfl, bn⟩; (have B1 := Lib.hid (B1.out.trans (bn.mono B1.out.size))); clear bn)) | fail)
    go_ret
    exact ⟨ret_bool (by rw [HX.out]; simp), B1.out⟩
  · have e0 : (f.kind == 0) = false := by rw [h]; rfl
    have e1 : (f.kind == 1) = true := by simpa using h
    have HZ := Lib.hid (show inB f.kind 0 1 = true by rw [h]; rfl)
    rw [HZ.out] at HX HW
    clear h
    go_enter Tryz.func21, Tryz.ntmps21
    go_wp2_with fail
    generalize hW : w.alloc (.cells #[.int .i64 f.kind, .string f.place, .string f.val_, .int .i64 f.year] 26) = W
    obtain ⟨bk, bw, _⟩ := KN.out W hW.symm
    clear hW
    have B1 := Lib.hid bw
    obtain ⟨c0, c1, c2, c3⟩ := cells_4 bk
    clear bk bw
    go_wp2_with (first | (go_at_call 66; ((with_reducible refine (HC.out _).mono ?_); rintro e wn ⟨rfl, bn⟩; (have B1 := Lib.hid (B1.out.trans (bn.mono B1.out.size))); clear bn)) | (go_at_call 65; ((with_reducible refine (HI.out _).mono ?_); rintro e wn ⟨rfl, bn⟩; (have B1 := Lib.hid (B1.out.trans (bn.mono B1.out.size))); clear bn)) | fail)
    go_ret
    exact ⟨ret_bool (by rw [HX.out]; simp), B1.out⟩
  · have e0 : (f.kind == 0) = false := by simpa using h0
    have e1 : (f.kind == 1) = false := by simpa using h1
    have HZ := Lib.hid (show inB f.kind 0 1 = false by unfold inB; rw [Bool.and_eq_false_iff, decide_eq_false_iff_not, decide_eq_false_iff_not]; omega)
    rw [HZ.out] at HX HW
    clear h0 h1
    go_enter Tryz.func21, Tryz.ntmps21
    go_wp2_with fail
    generalize hW : w.alloc (.cells #[.int .i64 f.kind, .string f.place, .string f.val_, .int .i64 f.year] 26) = W
    obtain ⟨bk, bw, _⟩ := KN.out W hW.symm
    clear hW
    have B1 := Lib.hid bw
    obtain ⟨c0, c1, c2, c3⟩ := cells_4 bk
    clear bk bw
    go_wp2_with (first | (go_at_call 66; ((with_reducible refine (HC.out _).mono ?_); rintro e wn ⟨rfl, bn⟩; (have B1 := Lib.hid (B1.out.trans (bn.mono B1.out.size))); clear bn)) | (go_at_call 65; ((with_reducible refine (HI.out _).mono ?_); rintro e wn ⟨rfl, bn⟩; (have B1 := Lib.hid (B1.out.trans (bn.mono B1.out.size))); clear bn)) | fail)
    go_ret
    exact ⟨ret_bool (by rw [HX.out]; simp), B1.out⟩
set_option maxRecDepth 100000 in
theorem implFct_any (f : Fct) (hf : f.place.size ≤ 1048576 ∧ f.val_.size ≤ 1048576) (w : World) : Calls Tryz.prog 20 #[f.val] w fun e w' => e = .returned (.bool (fctB f)) ∧ Below w.heap.size w w' := by
  have HC := Lib.hid (implFc_any f)
  have HI := Lib.hid (implClm_any (fclm ⟨#[97]⟩ f) ⟨show (⟨#[97]⟩ : ByteArray).size ≤ 1048576 by decide, hf.1, hf.2⟩)
  have HW := Lib.hid (within_any f.kind 0 1)
  have HX := Lib.hid (show fctB f = (inB f.kind 0 1 && clmB (fclm ⟨#[97]⟩ f)) by unfold fctB; first | rfl | rw [fclm_ok])
  have KN := Lib.hid (blks_one w 26 #[.int .i64 f.kind, .string f.place, .string f.val_, .int .i64 f.year])
  generalize fctB f = r at HX ⊢
  generalize clmB (fclm ⟨#[97]⟩ f) = q at HX HI
  unfold fclm Clm.val at HI
  dsimp only at HI
  unfold Fct.val at HC ⊢
  rcases (show f.kind = 0 ∨ f.kind = 1 ∨ (f.kind ≠ 0 ∧ f.kind ≠ 1) by omega) with h | h | ⟨h0, h1⟩
  · have e0 : (f.kind == 0) = true := by simpa using h
    have HZ := Lib.hid (show inB f.kind 0 1 = true by rw [h]; rfl)
    rw [HZ.out] at HX HW
    clear h
    go_enter Tryz.func20, Tryz.ntmps20
    go_wp2_with fail
    generalize hW : w.alloc (.cells #[.int .i64 f.kind, .string f.place, .string f.val_, .int .i64 f.year] 26) = W
    obtain ⟨bk, bw, _⟩ := KN.out W hW.symm
    clear hW
    have B1 := Lib.hid bw
    obtain ⟨c0, c1, c2, c3⟩ := cells_4 bk
    clear bk bw
    go_wp2_with (first | (go_at_call 64; ((with_reducible refine (HC.out _).mono ?_); rintro e wn ⟨rfl, bn⟩; (have B1 := Lib.hid (B1.out.trans (bn.mono B1.out.size))); clear bn)) | (go_at_call 63; ((with_reducible refine (HI.out _).mono ?_); rintro e wn ⟨rfl, bn⟩; (have B1 := Lib.hid (B1.out.trans (bn.mono B1.out.size))); clear bn)) | (go_at_call 62; ((with_reducible refine (HW.out _).mono ?_); rintro e wn ⟨rfl, rfl⟩)) | fail)
    go_ret
    exact ⟨ret_bool (by rw [HX.out]; simp), B1.out⟩
  · have e0 : (f.kind == 0) = false := by rw [h]; rfl
    have e1 : (f.kind == 1) = true := by simpa using h
    have HZ := Lib.hid (show inB f.kind 0 1 = true by rw [h]; rfl)
    rw [HZ.out] at HX HW
    clear h
    go_enter Tryz.func20, Tryz.ntmps20
    go_wp2_with fail
    generalize hW : w.alloc (.cells #[.int .i64 f.kind, .string f.place, .string f.val_, .int .i64 f.year] 26) = W
    obtain ⟨bk, bw, _⟩ := KN.out W hW.symm
    clear hW
    have B1 := Lib.hid bw
    obtain ⟨c0, c1, c2, c3⟩ := cells_4 bk
    clear bk bw
    go_wp2_with (first | (go_at_call 64; ((with_reducible refine (HC.out _).mono ?_); rintro e wn ⟨rfl, bn⟩; (have B1 := Lib.hid (B1.out.trans (bn.mono B1.out.size))); clear bn)) | (go_at_call 63; ((with_reducible refine (HI.out _).mono ?_); rintro e wn ⟨rfl, bn⟩; (have B1 := Lib.hid (B1.out.trans (bn.mono B1.out.size))); clear bn)) | (go_at_call 62; ((with_reducible refine (HW.out _).mono ?_); rintro e wn ⟨rfl, rfl⟩)) | fail)
    go_ret
    exact ⟨ret_bool (by rw [HX.out]; simp), B1.out⟩
  · have e0 : (f.kind == 0) = false := by simpa using h0
    have e1 : (f.kind == 1) = false := by simpa using h1
    have HZ := Lib.hid (show inB f.kind 0 1 = false by unfold inB; rw [Bool.and_eq_false_iff, decide_eq_false_iff_not, decide_eq_false_iff_not]; omega)
    rw [HZ.out] at HX HW
    clear h0 h1
    go_enter Tryz.func20, Tryz.ntmps20
    go_wp2_with fail
    generalize hW : w.alloc (.cells #[.int .i64 f.kind, .string f.place, .string f.val_, .int .i64 f.year] 26) = W
    obtain ⟨bk, bw, _⟩ := KN.out W hW.symm
    clear hW
    have B1 := Lib.hid bw
    obtain ⟨c0, c1, c2, c3⟩ := cells_4 bk
    clear bk bw
    go_wp2_with (first | (go_at_call 64; ((with_reducible refine (HC.out _).mono ?_); rintro e wn ⟨rfl, bn⟩; (have B1 := Lib.hid (B1.out.trans (bn.mono B1.out.size))); clear bn)) | (go_at_call 63; ((with_reducible refine (HI.out _).mono ?_); rintro e wn ⟨rfl, bn⟩; (have B1 := Lib.hid (B1.out.trans (bn.mono B1.out.size))); clear bn)) | (go_at_call 62; ((with_reducible refine (HW.out _).mono ?_); rintro e wn ⟨rfl, rfl⟩)) | fail)
    go_ret
    exact ⟨ret_bool (by rw [HX.out]; simp), B1.out⟩
theorem specCode_any (xs : List Clm) (f : Fct) (hs : ∀ b ∈ xs, b.src.size ≤ 1048576 ∧ b.place.size ≤ 1048576 ∧ b.val_.size ≤ 1048576) (hf : f.place.size ≤ 1048576 ∧ f.val_.size ≤ 1048576) (A : Option Addr) (c : Nat) (w : World) (h : HasClm w xs A) :
    Calls Tryz.prog 50 #[.slice A xs.length c, f.val] w fun e w' => e = .returned (.int .i64 (codeF xs f)) ∧ Below w.heap.size w w' := by
  have H := Lib.hid (fun W (hB : Below w.heap.size w W) => specAreC_any xs A c W (h.below hB) hs); clear h
  have HF := Lib.hid (specFct_any f hf)
  have HX := Lib.hid (show codeF xs f = if (areC xs && fctB f) = true then 0 else 1 from rfl)
  have KN := Lib.hid (blks_one w 26 #[.int .i64 f.kind, .string f.place, .string f.val_, .int .i64 f.year])
  unfold Fct.val at HF ⊢
  generalize codeF xs f = r at HX ⊢
  generalize areC xs = q1 at *
  generalize fctB f = q2 at *
  cases q1 <;> cases q2
  all_goals
    go_enter Tryz.func50, Tryz.ntmps50
    go_wp2_with fail
    generalize hW : w.alloc (.cells #[.int .i64 f.kind, .string f.place, .string f.val_, .int .i64 f.year] 26) = W
    obtain ⟨bk, bw, _⟩ := KN.out W hW.symm
    clear hW
    refine (H.out W bw).mono ?_; rintro e w1 ⟨rfl, bn⟩
    have B1 := Lib.hid (bw.trans (bn.mono bw.size))
    obtain ⟨c0, c1, c2, c3⟩ := cells_4 (bk.below bn bk.lt)
    clear bk bw bn
    go_wp2_with (first | (go_at_call 21; ((with_reducible refine (HF.out _).mono ?_); rintro e wn ⟨rfl, bn⟩; (have B1 := Lib.hid (B1.out.trans (bn.mono B1.out.size))); clear bn)) | fail)
    go_ret
    exact ⟨ret_int (by rw [HX.out]; rfl), B1.out⟩
theorem implCode_any (xs : List Clm) (f : Fct) (hs : ∀ b ∈ xs, b.src.size ≤ 1048576 ∧ b.place.size ≤ 1048576 ∧ b.val_.size ≤ 1048576) (hf : f.place.size ≤ 1048576 ∧ f.val_.size ≤ 1048576) (A : Option Addr) (c : Nat) (w : World) (h : HasClm w xs A) :
    Calls Tryz.prog 45 #[.slice A xs.length c, f.val] w fun e w' => e = .returned (.int .i64 (codeF xs f)) ∧ Below w.heap.size w w' := by
  have H := Lib.hid (fun W (hB : Below w.heap.size w W) => implAreC_any xs A c W (h.below hB) hs); clear h
  have HF := Lib.hid (implFct_any f hf)
  have HX := Lib.hid (show codeF xs f = if (areC xs && fctB f) = true then 0 else 1 from rfl)
  have KN := Lib.hid (blks_one w 26 #[.int .i64 f.kind, .string f.place, .string f.val_, .int .i64 f.year])
  unfold Fct.val at HF ⊢
  generalize codeF xs f = r at HX ⊢
  generalize areC xs = q1 at *
  generalize fctB f = q2 at *
  cases q1 <;> cases q2
  all_goals
    go_enter Tryz.func45, Tryz.ntmps45
    go_wp2_with fail
    generalize hW : w.alloc (.cells #[.int .i64 f.kind, .string f.place, .string f.val_, .int .i64 f.year] 26) = W
    obtain ⟨bk, bw, _⟩ := KN.out W hW.symm
    clear hW
    refine (H.out W bw).mono ?_; rintro e w1 ⟨rfl, bn⟩
    have B1 := Lib.hid (bw.trans (bn.mono bw.size))
    obtain ⟨c0, c1, c2, c3⟩ := cells_4 (bk.below bn bk.lt)
    clear bk bw bn
    go_wp2_with (first | (go_at_call 20; ((with_reducible refine (HF.out _).mono ?_); rintro e wn ⟨rfl, bn⟩; (have B1 := Lib.hid (B1.out.trans (bn.mono B1.out.size))); clear bn)) | fail)
    go_ret
    exact ⟨ret_int (by rw [HX.out]; rfl), B1.out⟩
end Go.Proofs.YtihhpmhigmegjaaGreatDoor
