/- Merged: Facts: certain ones are possible, possible ones are told, and of consistent claims every told one is certain. Plain law. AreConsistent of the program; two lists that are alike; a number that a list lacks. -/
import Derived.Test.YtihhpmhigmegjaaGreatDoorRows
import Derived.Test.YtihhpmhigmegjaaGreatDoorL0
import Derived.Test.YtihhpmhigmegjaaGreatDoorM0
import Derived.WalkKit
import Derived.ProofKit
import Derived.OpenShut
import Derived.BigQuiet
import Derived.Outline
import Derived.WalkSpells
import Derived.WalkLawsBesides
import Derived.Deep.DeepCutAuto
import Derived.Test.YtihhpmhigmegjaaGreatDoorPC
import Derived.Test.YtihhpmhigmegjaaGreatDoorO7
import Derived.Test.YtihhpmhigmegjaaGreatDoorPA
import Derived.Test.YtihhpmhigmegjaaGreatDoorO3
import Derived.Lib.QuietBelow
import Derived.Deep.QuietTactic
namespace Go.Proofs.YtihhpmhigmegjaaGreatDoor
open Go.ChangeShapes Go.WideShapes Go.ChangeAt Go.RowKit Go.Sort

theorem wC_length (xs : List Clm) (p : Clm → Bool) : ∀ k, (wC xs p k).length = ((xs.take k).filter p).length
  | 0 => by simp [wC]
  | k + 1 => by
    have ih := wC_length xs p k
    rw [wC]
    cases hk : xs[k]? with
    | none =>
      rw [ih, List.take_of_length_le (by have := List.getElem?_eq_none_iff.1 hk; omega), List.take_of_length_le (by have := List.getElem?_eq_none_iff.1 hk; omega)]
    | some b =>
      obtain ⟨hlt, he⟩ := List.getElem?_eq_some_iff.1 hk
      rw [List.take_succ_eq_append_getElem hlt, List.filter_append, List.length_append, he]
      cases hp : p b <;> simp [hp, ih]
theorem which_length (xs : List Clm) (p : Clm → Bool) : (whichC xs p).length = (xs.filter p).length := by
  unfold whichC
  rw [wC_length, List.take_length]
theorem told_ex {xs : List Clm} {f : Fct} {I : List Nat} (h : told xs f I = true) : 0 < (whichC xs (fun c => telB c f)).length := by
  unfold told at h
  rw [decide_eq_true_eq, which_length] at h
  rw [which_length]
  obtain ⟨c, hc⟩ := List.exists_mem_of_length_pos h
  rw [List.mem_filter] at hc
  exact List.length_pos_of_mem (List.mem_filter.2 ⟨keep_mem I 0 xs c hc.1, hc.2⟩)
theorem allD_some (xs : List Clm) : ∃ I, I ∈ allD xs xs.length 0 [] := by
  have h := sweep_any xs (fun _ => true)
  have h2 := sweep_pos xs
  obtain ⟨I, hI⟩ := List.exists_mem_of_length_pos h2
  have h3 : (sweep xs (2 ^ xs.length)).any (fun _ => true) = true := List.any_eq_true.2 ⟨I, hI, rfl⟩
  rw [h, List.any_eq_true] at h3
  obtain ⟨J, hJ, _⟩ := h3
  exact ⟨J, hJ⟩
theorem cer_pos {xs : List Clm} {f : Fct} (h : cerV xs f = true) : posV xs f = true := by
  unfold cerV at h
  unfold posV
  rw [Bool.and_eq_true, Bool.not_eq_true'] at h
  rw [Bool.and_eq_true]
  refine ⟨h.1, ?_⟩
  obtain ⟨I, hI⟩ := allD_some xs
  rw [List.any_eq_true]
  refine ⟨I, hI, ?_⟩
  cases ht : told xs f I
  · have h2 := h.2
    rw [Bool.eq_false_iff] at h2
    exact absurd (List.any_eq_true.2 ⟨I, hI, by rw [ht]; rfl⟩) h2
  · rfl
theorem pos_tel {xs : List Clm} {f : Fct} (h : posV xs f = true) : 0 < (whichC xs (fun c => telB c f)).length := by
  unfold posV at h
  rw [Bool.and_eq_true, List.any_eq_true] at h
  obtain ⟨I, _, hI⟩ := h.2
  exact told_ex hI
theorem keep_nil : ∀ (k : Nat) (xs : List Clm), keepN [] k xs = xs
  | _, [] => rfl
  | k, c :: r => by rw [keepN, if_neg (by simp), keep_nil (k + 1) r]
theorem con_cer {xs : List Clm} {f : Fct} (hc : codeF xs f = 0) (h : conB xs = true) : cerV xs f = decide (0 < (whichC xs (fun c => telB c f)).length) := by
  have hr : repB xs [] = true := by unfold repB; rw [keep_nil]; exact h
  have hm : minB xs [] = true := by unfold minB; rw [hr]; rfl
  have ha : allD xs xs.length 0 [] = [[]] := by rw [allD_yes hr, if_pos hm]
  unfold cerV
  rw [ha, hc]
  simp [told, keep_nil]
/-- No claim both tells and denies a fact. -/
theorem tel_den {c : Clm} {f : Fct} (h : telB c f = true) : denB f c = false := by
  obtain ⟨az, ak, ap, av, al, ah, aw⟩ := c
  obtain ⟨fk, fp, fv, fy⟩ := f
  unfold telB at h
  simp only [Bool.and_eq_true, decide_eq_true_eq] at h
  obtain ⟨rfl, rfl, rfl, _⟩ := h
  have w1 : ∀ x z : Clm, x.kind = z.kind → woB x z = false := fun x z e => by
    unfold woB
    rw [e]
    by_cases h : z.kind = 1
    · rw [h]; simp
    · simp [h]
  unfold denB ctrB fclm
  dsimp only
  rw [w1 ⟨az, ak, ap, av, al, ah, aw⟩ ⟨⟨#[97]⟩, ak, ap, av, fy, fy, 1⟩ rfl, w1 ⟨⟨#[97]⟩, ak, ap, av, fy, fy, 1⟩ ⟨az, ak, ap, av, al, ah, aw⟩ rfl]
  simp
theorem row_apart {xs : List Clm} {f : Fct} {v : Int} (h1 : v ∈ whichC xs (fun c => telB c f)) (h2 : v ∈ whichC xs (denB f)) : False := by
  obtain ⟨i, e1, _, b, hb, ht⟩ := wC_in xs _ _ v h1
  obtain ⟨j, e2, _, b', hb', hd⟩ := wC_in xs _ _ v h2
  have : i = j := by omega
  subst this
  rw [hb] at hb'
  injection hb' with e
  subst e
  have ht' : telB b f = true := ht
  rw [tel_den ht'] at hd
  cases hd
end Go.Proofs.YtihhpmhigmegjaaGreatDoor

namespace Go.Proofs.YtihhpmhigmegjaaGreatDoor
open Go.ChangeShapes Go.WideShapes Go.ChangeAt Go.RowKit Go.Sort

set_option maxRecDepth 100000 in
theorem implACon_any (xs : List Clm) (hs : ∀ b ∈ xs, b.src.size ≤ 1048576 ∧ b.place.size ≤ 1048576 ∧ b.val_.size ≤ 1048576) (hm : xs.length ≤ 1048576) (A : Option Addr) (c : Nat) (hc : xs.length ≤ c) (w : World) (h : HasClm w xs A) :
    Calls Tryz.prog 22 #[.slice A xs.length c] w fun e w' => e = .returned (.tuple #[.bool (areC xs && conB xs), .int .i64 (if areC xs = true then 0 else 1)]) ∧ Below w.heap.size w w' := by
  have HA := Lib.hid (implAreC_any xs A c w h hs)
  have HB := Lib.hid (fun W (hB : Below w.heap.size w W) => implCon_any xs hm A c hc W (h.below hB))
  clear h hs
  generalize areC xs = q1 at *
  generalize conB xs = q2 at *
  cases q1
  · go_enter Tryz.func22, Tryz.ntmps22
    go_wp2_with fail
    refine HA.out.mono ?_; rintro e w1 ⟨rfl, b1⟩
    go_wp2_with fail
    go_ret2
    exact ⟨rfl, b1⟩
  · go_enter Tryz.func22, Tryz.ntmps22
    go_wp2_with fail
    refine HA.out.mono ?_; rintro e w1 ⟨rfl, b1⟩
    have HB1 := Lib.hid (HB.out w1 b1)
    have B1 := Lib.hid b1; clear b1
    go_wp2_with fail
    refine HB1.out.mono ?_; rintro e w2 ⟨rfl, b2⟩
    go_wp2_with fail
    go_ret2
    exact ⟨by simp, B1.out.trans (b2.mono B1.out.size)⟩
theorem inC_num (L : List Int) (k : Nat) (h : k < L.length) : (inC L)[k]? = some (.int .i64 L[k]) := by simp [inC, h]
set_option maxRecDepth 100000 in
theorem likeInts_same (L : List Int) (hm : L.length ≤ 1048576) (A A' : Option Addr) (c c' : Nat) (w : World) (hr : Reads w w.heap.size 1 A L.length (inC L)) (hr' : Reads w w.heap.size 1 A' L.length (inC L)) :
    Calls Tryz.prog 19 #[.slice A L.length c, .slice A' L.length c'] w fun e w' => e = .returned (.bool true) ∧ Below w.heap.size w w' := by
  have HR := Lib.hid hr; have HR' := Lib.hid hr'; clear hr hr'
  go_enter Tryz.func19, Tryz.ntmps19
  go_wp2_with fail
  go_loopw [5] (fun v5 wr => ∃ k : Nat, k ≤ L.length ∧ Hid (Below w.heap.size w wr) ∧ v5 = .int .i64 k) (fun i _ => L.length - (intOf i).toNat)
  case atStart => exact ⟨0, by omega, Below.refl _ _, rfl⟩
  case round =>
    obtain ⟨k, hk, BW, rfl⟩ := hrel
    by_cases hlt : k < L.length
    · obtain ⟨ab, ao, rfl, hadb, hcell⟩ := (HR.out.below BW.out).2 (by omega)
      obtain ⟨ab', ao', rfl, hadb', hcell'⟩ := (HR'.out.below BW.out).2 (by omega)
      have c0 := cell_regrown (hcell _ _ (inC_num L k hlt))
      have c1 := cell_regrown (hcell' _ _ (inC_num L k hlt))
      clear hcell hcell'
      generalize L[k] = x at c0 c1
      go_upto_region 6 with (fail)
      refine wp_region_quiet_below (by kernel_rfl) (by kernel_rfl) ?_; (repeat (first | go_big_quiet_step (fail))); refine wpQuiet_nil ?_; intro _ hw'; obtain ⟨⟨dq, osq⟩, rfl⟩ := hw'
      have B2 := Lib.hid (BW.out.trans ((below_regrown wr dq osq).mono BW.out.size))
      generalize grow (redrawn wr dq) osq = w2 at B2 ⊢
      clear c0 c1
      go_wp2_with fail
      go_roundw
      case rel => exact ⟨k + 1, by omega, B2.out, by go_num⟩
      case measure => simp [intOf]; omega
    · obtain rfl : k = L.length := by omega
      go_wp2_with fail
      go_ret
      exact ⟨rfl, BW.out⟩
set_option maxRecDepth 100000 in
theorem hasInt_no (L : List Int) (v : Int) (hv : ¬ v ∈ L) (hm : L.length ≤ 1048576) (A : Option Addr) (c : Nat) (w : World) (hr : Reads w w.heap.size 1 A L.length (inC L)) :
    Calls Tryz.prog 23 #[.slice A L.length c, .int .i64 v] w fun e w' => e = .returned (.bool false) ∧ Below w.heap.size w w' := by
  have HR := Lib.hid hr; have HV := Lib.hid hv; clear hr hv
  go_enter Tryz.func23, Tryz.ntmps23
  go_wp2_with fail
  go_loopw [5] (fun v5 wr => ∃ k : Nat, k ≤ L.length ∧ Hid (Below w.heap.size w wr) ∧ v5 = .int .i64 k) (fun i _ => L.length - (intOf i).toNat)
  case atStart => exact ⟨0, by omega, Below.refl _ _, rfl⟩
  case round =>
    obtain ⟨k, hk, BW, rfl⟩ := hrel
    by_cases hlt : k < L.length
    · obtain ⟨ab, ao, rfl, hadb, hcell⟩ := (HR.out.below BW.out).2 (by omega)
      have c0 := hcell _ _ (inC_num L k hlt)
      have hne : ¬ L[k] = v := fun e => HV.out (e ▸ List.getElem_mem hlt)
      clear hcell
      generalize L[k] = x at c0 hne
      go_wp2_with fail
      go_roundw
      case rel => exact ⟨k + 1, by omega, BW.out, by go_num⟩
      case measure => simp [intOf]; omega
    · obtain rfl : k = L.length := by omega
      go_wp2_with fail
      go_ret
      exact ⟨rfl, BW.out⟩
end Go.Proofs.YtihhpmhigmegjaaGreatDoor
