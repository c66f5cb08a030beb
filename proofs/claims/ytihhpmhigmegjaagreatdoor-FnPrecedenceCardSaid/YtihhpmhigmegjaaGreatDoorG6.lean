/- AreEntries of both. -/
import Derived.Test.YtihhpmhigmegjaaGreatDoorRows
import Derived.Test.YtihhpmhigmegjaaGreatDoorL0
import Derived.Test.YtihhpmhigmegjaaGreatDoorM0
import Derived.WalkKit
import Derived.ProofKit
import Derived.OpenShut
import Derived.BigQuiet
import Derived.Outline
import Derived.WalkSpells
import Derived.WalkLawsBesides
import Derived.Deep.DeepCutAuto
import Derived.Test.YtihhpmhigmegjaaGreatDoorG5
import Derived.Test.YtihhpmhigmegjaaGreatDoorFE3
namespace Go.Proofs.YtihhpmhigmegjaaGreatDoor
open Go.ChangeShapes Go.WideShapes Go.ChangeAt Go.RowKit

def areE (xs : List Ent) : Bool := xs.all entB && decide ((xs.length : Int) ≤ 12)
theorem all_take_e (xs : List Ent) (k : Nat) (h : k < xs.length) : (xs.take (k + 1)).all entB = ((xs.take k).all entB && entB xs[k]) := by
  rw [List.take_succ_eq_append_getElem h, List.all_append]; simp
theorem any_bad (xs : List Ent) : xs.any (fun b => !entB b) = !(xs.all entB) := by
  induction xs with
  | nil => rfl
  | cons x r ih => simp only [List.any_cons, List.all_cons, ih]; cases entB x <;> simp
set_option maxRecDepth 100000 in
theorem specAreE_any (xs : List Ent) (A : Option Addr) (c : Nat) (w : World) (h : HasEnt w xs A) (hs : ∀ b ∈ xs, b.text.size ≤ 1048576) :
    Calls Tryz.prog 92 #[.slice A xs.length c] w fun e w' => e = .returned (.bool (areE xs)) ∧ Below w.heap.size w w' := by
  have HR := Lib.hid h.1
  have hm := h.2.1
  have HZ := Lib.hid hs; clear hs h
  have HX := Lib.hid (show areE xs = (xs.all entB && decide ((xs.length : Int) ≤ 12)) from rfl)
  generalize areE xs = r at HX ⊢
  go_enter Tryz.func92, Tryz.ntmps92
  go_wp2_with fail
  go_loopw [3] (fun v3 wr => ∃ k : Nat, k ≤ xs.length ∧ Hid ((xs.take k).all entB = true) ∧ Hid (Below w.heap.size w wr) ∧ v3 = .int .i64 k) (fun i _ => xs.length - (intOf i).toNat)
  case atStart => exact ⟨0, by omega, by simp [Hid], Below.refl _ _, rfl⟩
  case round =>
    obtain ⟨k, hk, HA, BW, rfl⟩ := hrel
    by_cases hlt : k < xs.length
    · obtain ⟨ab, ao, rfl, hadb, hcell⟩ := (HR.out.below BW.out).2 (by omega)
      obtain ⟨e0, e1, e2, e3⟩ := enC_get xs k hlt
      have c0 := hcell _ _ e0
      have c1 := hcell _ _ e1
      have c2 := hcell _ _ e2
      have c3 := hcell _ _ e3
      rw [← Nat.add_assoc] at c1 c2 c3
      clear hcell e0 e1 e2 e3
      have HT := Lib.hid (all_take_e xs k hlt)
      have HW := Lib.hid (specEnt_any xs[k] (HZ.out _ (List.getElem_mem hlt)) wr)
      have HF : Hid (entB xs[k] = false → xs.all entB = false) := fun h => by
        have h1 := HT.out
        rw [h, Bool.and_false] at h1
        rw [← List.take_append_drop (k + 1) xs, List.all_append, h1, Bool.false_and]
      unfold Ent.val at HW
      generalize xs[k] = a at c0 c1 c2 c3 HT HW HF
      cases hb : entB a
      · have HXX := Lib.hid (show r = false by rw [HX.out, HF.out hb, Bool.false_and])
        rw [hb] at HW
        clear hb
        go_wp2_with fail
        refine HW.out.mono ?_; rintro e w1 ⟨rfl, b1⟩
        go_wp2_with fail
        go_ret
        exact ⟨ret_bool HXX.out.symm, BW.out.trans (b1.mono BW.out.size)⟩
      · have HXX := Lib.hid (show (xs.take (k + 1)).all entB = true by rw [HT.out, HA.out, hb]; rfl)
        rw [hb] at HW
        clear hb
        go_wp2_with fail
        refine HW.out.mono ?_; rintro e w1 ⟨rfl, b1⟩
        go_wp2_with fail
        go_roundw
        case rel => exact ⟨k + 1, by omega, HXX.out, BW.out.trans (b1.mono BW.out.size), by go_num⟩
        case measure => simp [intOf]; omega
    · obtain rfl : k = xs.length := by omega
      have HXX := Lib.hid (show r = decide ((xs.length : Int) ≤ 12) by have := HA.out; rw [List.take_length] at this; rw [HX.out, this, Bool.true_and])
      go_wp2_with fail
      go_ret
      exact ⟨ret_bool HXX.out.symm, BW.out⟩
theorem badE1_any (b : Ent) (hs : b.text.size ≤ 1048576) (w : World) : Calls Tryz.prog 98 #[b.val] w fun e w' => e = .returned (.bool (!entB b)) ∧ Below w.heap.size w w' := by
  have HE := Lib.hid (implEnt_any b hs)
  have KN := Lib.hid (blks_one w 45 #[.string b.text, .int .i64 b.x, .int .i64 b.y, .int .i64 b.since])
  unfold Ent.val at HE ⊢
  generalize entB b = r at *
  go_enter Tryz.func98, Tryz.ntmps98
  go_wp2_with fail
  generalize hW : w.alloc (.cells #[.string b.text, .int .i64 b.x, .int .i64 b.y, .int .i64 b.since] 45) = W
  obtain ⟨bk, bw, _⟩ := KN.out W hW.symm
  clear hW
  refine (HE.out W).mono ?_; rintro e w1 ⟨rfl, b1⟩
  go_wp2_with fail
  go_ret
  exact ⟨rfl, bw.trans (b1.mono bw.size)⟩
theorem implAreE_any (xs : List Ent) (A : Option Addr) (c : Nat) (w : World) (h : HasEnt w xs A) (hs : ∀ b ∈ xs, b.text.size ≤ 1048576) :
    Calls Tryz.prog 41 #[.slice A xs.length c] w fun e w' => e = .returned (.bool (areE xs)) ∧ Below w.heap.size w w' := by
  have hm := h.2.1
  have HC := Lib.hid (badEHas_any (fun b => !entB b) xs A c w h.1 h.2.1 (fun b hb W _ => badE1_any b (hs b hb) W))
  have HX := Lib.hid (show areE xs = (!(xs.any (fun b => !entB b)) && decide ((xs.length : Int) ≤ 12)) by rw [any_bad, Bool.not_not]; rfl)
  generalize areE xs = r at HX ⊢
  generalize xs.any (fun b => !entB b) = q at HX HC
  by_cases h12 : (xs.length : Int) ≤ 12
  · rw [decide_eq_true h12] at HX
    go_enter Tryz.func41, Tryz.ntmps41
    go_wp2_with fail
    refine HC.out.mono ?_; rintro e w1 ⟨rfl, b1⟩
    go_wp2_with fail
    go_ret
    exact ⟨ret_bool (by rw [HX.out]; simp), b1⟩
  · rw [decide_eq_false h12] at HX
    go_enter Tryz.func41, Tryz.ntmps41
    go_wp2_with fail
    go_ret
    exact ⟨ret_bool (by rw [HX.out]; simp), Below.refl _ _⟩
end Go.Proofs.YtihhpmhigmegjaaGreatDoor
