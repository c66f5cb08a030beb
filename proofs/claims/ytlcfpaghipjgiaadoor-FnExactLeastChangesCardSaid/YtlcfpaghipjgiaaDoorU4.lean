/- The closure of LeastChanges: its end. -/
import Derived.Test.YtlcfpaghipjgiaaDoorRows
import Derived.Test.YtlcfpaghipjgiaaDoorL0
import Derived.Test.YtlcfpaghipjgiaaDoorM0
import Derived.WalkKit
import Derived.ProofKit
import Derived.OpenShut
import Derived.BigQuiet
import Derived.Outline
import Derived.WalkSpells
import Derived.WalkLawsBesides
import Derived.Deep.DeepCutAuto
import Derived.Test.YtlcfpaghipjgiaaDoorU3
namespace Go.Proofs.YtlcfpaghipjgiaaDoor
open Go.ChangeShapes Go.WideShapes Go.ChangeAt Go.RowKit Go.Sort

theorem leaf_keep {l count rule : Int} {o : Bool} {ys : List Bal} {D : Int → Prop} (hl : LeastOf l D) (h : carB ys rule = o) : LeastOf l (fun c => D c ∨ Cnt o rule ys [] count c) :=
  hl.congr fun c => ⟨.inl, fun hc => by rcases hc with hc | hc; exact hc; rw [Cnt] at hc; exact absurd h hc.1⟩
theorem leaf_new {l count rule : Int} {o : Bool} {ys : List Bal} {D : Int → Prop} (hl : LeastOf l D) (h0 : 0 ≤ count) (h' : carB ys rule = !o) (hc : l < 0 ∨ count < l) : LeastOf count (fun c => D c ∨ Cnt o rule ys [] count c) :=
  have h : carB ys rule ≠ o := by rw [h']; cases o <;> decide
  (hl.take h0 hc).congr fun c => by rw [Cnt]; exact ⟨fun hc => hc.imp id (fun e => ⟨h, e⟩), fun hc => hc.imp id (fun e => e.2)⟩
theorem leaf_old {l count rule : Int} {o : Bool} {ys : List Bal} {D : Int → Prop} (hl : LeastOf l D) (h' : carB ys rule = !o) (hc : ¬ (l < 0 ∨ count < l)) : LeastOf l (fun c => D c ∨ Cnt o rule ys [] count c) :=
  have h : carB ys rule ≠ o := by rw [h']; cases o <;> decide
  (hl.leave hc).congr fun c => by rw [Cnt]; exact ⟨fun hc => hc.imp id (fun e => ⟨h, e⟩), fun hc => hc.imp id (fun e => e.2)⟩
set_option maxRecDepth 100000 in
set_option maxHeartbeats 1000000 in
theorem leaf_any {B : Nat} {tK : TypeId} {xs ys : List Bal} {rule l : Int} {A OV : Option Addr} {c L O R M K cap : Nat} (D : Int → Prop) (hfx : Fits xs) (hfy : Fits ys) (I count : Int) (hI : I = xs.length) (h0 : 0 ≤ count) (h1 : count ≤ 10) (hl : LeastOf l D) (w : World) (h : LSt B tK xs rule A c L O R M K OV cap w l ys) :
    Calls Tryd.prog 60 #[.int .i64 I, .int .i64 count, .pointer (some ⟨L, 0, none⟩), .pointer (some ⟨O, 0, none⟩), .pointer (some ⟨R, 0, none⟩), .pointer (some ⟨M, 0, none⟩), .pointer (some ⟨K, 0, none⟩)] w fun e w' =>
      e = .returned (.tuple #[]) ∧ ∃ l', LSt B tK xs rule A c L O R M K OV cap w' l' ys ∧ LeastOf l' (fun c => D c ∨ Cnt (carB xs rule) rule ys [] count c) ∧ Below B w w' := by
  have cL := h.bL.cell 0
  have cO := h.bO.cell 0
  have cR := h.bR.cell 0
  have cM := h.bM.cell 0
  have fM := h.bM.frozen 0
  simp only [List.getElem?_toArray, List.getElem?_cons_zero] at cL cO cR cM
  have gL := cell_regrown cL
  have gO := cell_regrown cO
  have gR := cell_regrown cR
  have gM := cell_regrown cM
  have H := Lib.hid h; clear h
  have HL := Lib.hid hl; clear hl
  have hm := hfx.1
  have r1 : ∀ d os, Calls Tryd.prog 57 #[.slice OV xs.length cap, .int .i64 rule] (grow (redrawn w d) os) (fun e w'' => e = .returned (.bool (carB ys rule)) ∧ ∃ p : Regrown, w'' = grow (redrawn w p.d) p.os) := fun d os => Calls.regrown_of (by
    have h2 := H.out.below (below_regrown w d os)
    have := implCar_any ys rule hfy OV cap (grow (redrawn w d) os)
    rw [h2.len] at this
    exact this (Reads.of_own h2.own))
  have r2 : ∀ d os, Calls Tryd.prog 57 #[.slice A xs.length c, .int .i64 rule] (grow (redrawn w d) os) (fun e w'' => e = .returned (.bool (carB xs rule)) ∧ ∃ p : Regrown, w'' = grow (redrawn w p.d) p.os) := fun d os => Calls.regrown_of (by
    have h2 := H.out.below (below_regrown w d os)
    exact implCar_any xs rule hfx A c _ (h2.rd.more h2.hB))
  have HFx := Lib.hid hfx; have HFy := Lib.hid hfy; clear hfx hfy
  subst hI
  cases q1 : carB ys rule <;> cases q2 : carB xs rule
  all_goals
    have Q1 := Lib.hid q1; have Q2 := Lib.hid q2
    rw [q1] at r1; rw [q2] at r2
    clear q1 q2
    cases c1 : decide (l < 0) <;> cases c2 : decide (count < l)
  all_goals
    go_enter Tryd.func60, Tryd.ntmps60
    go_wp2_with fail
    refine wp_region_quiet_below (by kernel_rfl) (by kernel_rfl) ?_; (repeat (first | go_big_quiet_step ((first | with_reducible exact r1 _ _ | with_reducible exact r2 _ _)))); refine wpQuiet_nil ?_; intro _ hw'; obtain ⟨⟨dq, osq⟩, rfl⟩ := hw'
    have H2 := Lib.hid (H.out.below (below_regrown w dq osq))
    have B2 := Lib.hid ((below_regrown w dq osq).mono H.out.hB)
    have f2 := H2.out.bM.frozen 0
    have g2 := gM dq osq
    clear gM gL gO gR r1 r2 fM cM cL cO cR
    go_wp2_with fail
    refine bodyPost_ret (results_none rfl _ _ _) rfl ?_
    simp only [decide_eq_true_eq, decide_eq_false_iff_not] at c1 c2
    first
      | exact ⟨rfl, l, H2.out, leaf_keep HL.out Q1.out, B2.out⟩
      | exact ⟨rfl, count, H2.out.least count, leaf_new HL.out h0 Q1.out (.inl c1), B2.out.setCell (p := ⟨M, 0, none⟩) H.out.hM _⟩
      | exact ⟨rfl, count, H2.out.least count, leaf_new HL.out h0 Q1.out (.inr c2), B2.out.setCell (p := ⟨M, 0, none⟩) H.out.hM _⟩
      | exact ⟨rfl, l, H2.out, leaf_old HL.out Q1.out (fun h => h.elim c1 c2), B2.out⟩
      | fail
end Go.Proofs.YtlcfpaghipjgiaaDoor
