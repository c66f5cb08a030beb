/- The program's newFile and IsProcedure. -/
import Derived.Test.YteeonojcihcfiaaDoorRows
import Derived.Test.YteeonojcihcfiaaDoorK9GA
import Derived.WalkKit
import Derived.ProofKit
import Derived.OpenShut
import Derived.BigQuiet
import Derived.Outline
import Derived.WalkSpells
import Derived.WalkLawsBesides
import Derived.Deep.DeepCutAuto
import Derived.Test.YteeonojcihcfiaaDoorK9B3
import Derived.Test.YteeonojcihcfiaaDoorK9B4
import Derived.Lib.Hide
namespace Go.Proofs.YteeonojcihcfiaaDoor
open Go.ChangeShapes Go.WideShapes Go.ChangeAt Go.RowKit

/-- The program's run: k steps have been taken. -/
def runI (s : St) (k : Nat) : List Stp → Option St
  | [] => some s
  | x :: r => if (inB x.2 0 7 && allowB s k x) = true then runI (takeB s x) (k + 1) r else none
theorem fit0 : Fit st0 := ⟨by decide, by decide, by decide, by decide, by decide, by decide⟩
theorem fit_take {s : St} {k : Nat} {x : Stp} (h : Fit s) (ha : allowB s k x = true) : Fit (takeB s x) := by
  obtain ⟨h1, h2, h3, h4, h5, h6⟩ := h
  simp only [allowB, inB, Bool.and_eq_true, decide_eq_true_eq] at ha
  unfold takeB
  (repeat' split) <;> (constructor <;> dsimp only <;> omega)
def Inv (xs : List Stp) (s : St) (k : Nat) : Prop := k ≤ xs.length ∧ k ≤ 12 ∧ runI st0 0 xs = runI s k (xs.drop k) ∧ Fit s
theorem inv_yes {xs : List Stp} {s : St} {k : Nat} {x : Stp} (h : Inv xs s k) (hlt : k < xs.length) (hx : xs[k] = x) (hi : inB x.2 0 7 = true) (ha : allowB s k x = true) : Inv xs (takeB s x) (k + 1) := by
  obtain ⟨h1, h2, h3, h4⟩ := h
  have hd : xs.drop k = x :: xs.drop (k + 1) := by rw [← hx]; exact List.drop_eq_getElem_cons hlt
  refine ⟨by omega, ?_, ?_, fit_take h4 ha⟩
  · simp only [allowB, Bool.and_eq_true, decide_eq_true_eq] at ha; omega
  · rw [h3, hd, runI, if_pos (by rw [hi, ha]; rfl)]
theorem inv_no {xs : List Stp} {s : St} {k : Nat} {x : Stp} (h : Inv xs s k) (hlt : k < xs.length) (hx : xs[k] = x) (ha : (inB x.2 0 7 && allowB s k x) = false) : runI st0 0 xs = none := by
  obtain ⟨h1, h2, h3, h4⟩ := h
  have hd : xs.drop k = x :: xs.drop (k + 1) := by rw [← hx]; exact List.drop_eq_getElem_cons hlt
  rw [h3, hd, runI, if_neg (by rw [ha]; simp)]
theorem inv_end {xs : List Stp} {s : St} (h : Inv xs s xs.length) : runI st0 0 xs = some s ∧ Fit s := by
  obtain ⟨_, _, h3, h4⟩ := h
  exact ⟨by rw [h3]; simp [runI], h4⟩

/-- What a file in memory is. -/
def File (w : World) (g : Nat) (s : St) (ys : List Stp) (A : Option Addr) (n c : Nat) : Prop :=
  ys.length = n ∧ Blk w g 83 (fileC s (.slice A n c)) ∧ Reads w w.heap.size 2 A n (stC ys) ∧ (A = none → c = 0) ∧ w.ownsRow 0 41 2 (.slice A n c) n (stC ys)
def NF (w : World) (xs : List Stp) (e : Ending) (w' : World) : Prop := Below w.heap.size w w' ∧
  ((∃ s g A c, runI st0 0 xs = some s ∧ Fit s ∧ File w' g s xs A xs.length c ∧ e = .returned (.tuple #[.pointer (some ⟨g, 0, none⟩), .bool true])) ∨
   (runI st0 0 xs = none ∧ e = .returned (.tuple #[.pointer none, .bool false])))
theorem File.below {w w' : World} {g : Nat} {s : St} {ys : List Stp} {A : Option Addr} {n c : Nat} (h : File w g s ys A n c) (hb : Below w.heap.size w w') : File w' g s ys A n c :=
  ⟨h.1, h.2.1.below hb h.2.1.lt, (h.2.2.1.below hb).more hb.size, h.2.2.2.1, own_below h.2.2.2.2 hb⟩

theorem take_file (s : St) (day kind : Int) (g : Nat) (A : Option Addr) (n c : Nat) (ys : List Stp) (w : World) (hF : File w g s ys A n c) (hn : n ≤ 1048576) :
    Calls Tryd.prog 51 #[.pointer (some ⟨g, 0, none⟩), .agg #[.int .i64 day, .int .i64 kind]] w fun e w' =>
      ∃ g' A' c', e = .returned (.pointer (some ⟨g', 0, none⟩)) ∧ File w' g' (takeB s (day, kind)) (ys ++ [(day, kind)]) A' (n + 1) c' ∧ w.heap.size ≤ g' ∧ Below w.heap.size w w' := by
  obtain ⟨rfl, hB, hr, hA, _⟩ := hF
  refine (take_any s day kind g A c ys w hB hr hn hA).mono ?_
  rintro e w' ⟨g', v', he, hB', hown, hg, hb⟩
  obtain ⟨A', c', rfl, hc'⟩ := own_shape hown
  refine ⟨g', A', c', he, ⟨by simp, hB', Reads.of_own hown, ?_, own_mono hown (Nat.zero_le _)⟩, hg, hb⟩
  rintro rfl
  obtain ⟨_, _, h, _⟩ := hown.form (by omega)
  cases h

set_option maxRecDepth 100000 in
set_option maxHeartbeats 2000000 in
theorem newFile_any (xs : List Stp) (A : Option Addr) (c : Nat) (w : World) (hr : Reads w w.heap.size 2 A xs.length (stC xs)) (hm : xs.length ≤ 9223372036854775807) :
    Calls Tryd.prog 36 #[.slice A xs.length c] w (NF w xs) := by
  go_enter Tryd.func36, Tryd.ntmps36
  go_wp2
  go_loopw [4, 11] (fun v4 v11 wr => ∃ (k : Nat) (s : St) (g : Nat) (B : Option Addr) (d : Nat), Inv xs s k ∧ File wr g s (xs.take k) B k d ∧ Below w.heap.size w wr ∧ v4 = .pointer (some ⟨g, 0, none⟩) ∧ v11 = .int .i64 k)
    (fun _ i _ => xs.length - (intOf i).toNat)
  case atStart =>
    refine ⟨0, st0, w.heap.size, none, 0, ⟨Nat.zero_le _, by omega, rfl, fit0⟩, ⟨by simp, Blk.new _ _ _, by simpa [stC] using Reads.nil_, fun _ => rfl, World.ownsRow_nil _ _ _ _⟩, (Below.refl _ _).alloc (Nat.le_refl _) _, rfl, rfl⟩
  case round =>
    obtain ⟨k, s, g, B, d, hinv, hF, hb, rfl, rfl⟩ := hrel
    have hsz := hb.size
    have hfit := hinv.2.2.2
    have hk12 := hinv.2.1
    have hk := hinv.1
    by_cases hlt : k < xs.length
    · obtain ⟨ab, ao, rfl, hadb, hcell⟩ := (hr.below hb).2 (by omega)
      obtain ⟨e0, e1⟩ := stC_get xs k hlt
      have c0 := hcell _ _ e0
      have c1 := hcell _ _ e1
      rw [← Nat.add_assoc] at c1
      clear hcell e0 e1 hr
      generalize hx : xs[k] = x at *
      obtain ⟨day, kind⟩ := x
      have HX := Lib.hid hx; clear hx
      have HI := Lib.hid hinv; clear hinv
      have HF := Lib.hid hF; clear hF
      dsimp only at c0 c1
      cases hin : inB kind 0 7
      · have HN := Lib.hid (inv_no HI.out hlt HX.out (by dsimp only; rw [hin]; rfl))
        have HIN := Lib.hid hin; clear hin
        go_upto_region 9999 with (first | (go_at_call 49; refine (within_any _ _ _ _).mono ?_; rw [HIN.out]; rintro e w' ⟨rfl, rfl⟩) | ((with_reducible refine at_list ?_); (first | (refine gl_t _ (by exact rfl) (by exact rfl) (by exact rfl) (by exact rfl) (by intro hc hv K hK; (first | (refine lmove (by exact rfl) (by exact rfl) (by first | exact gs hc | exact gs hg | exact gs (by simp [hc]) | exact gs (by simp [hc, hg]) | exact rfl) ?_; exact hK) | (refine lwpick_and (by exact rfl) (by exact rfl) (by first | exact rfl | exact gs hc | exact gs hg | exact gs (by simp [hc]) | exact gs (by simp [hc, hg])) (by intro hb; first | exact rfl | exact gs hb | exact gs hc | exact gs hg | exact gs (by simp [hb, hc]) | exact gs (by simp [hb, hc, hg])) ?_; exact hK) | (refine lwpick_or (by exact rfl) (by exact rfl) (by first | exact rfl | exact gs hc | exact gs hg | exact gs (by simp [hc]) | exact gs (by simp [hc, hg])) (by intro hb; first | exact rfl | exact gs hb | exact gs hc | exact gs hg | exact gs (by simp [hb, hc]) | exact gs (by simp [hb, hc, hg])) ?_; exact hK) | (clear hc; (try clear hg); go_step; exact hK) | ((try have hc' := hc; simp at hc'); (try have hg' := hg; simp at hg'); go_step; exact hK))) ?_; (intro l' hl; simp only [List.set_cons_succ, List.set_cons_zero] at hl; subst hl)) | (refine gl_f _ (by exact rfl) (by exact rfl) (by exact rfl) (by exact rfl) (by intro hc hv K hK; (first | (refine lmove (by exact rfl) (by exact rfl) (by first | exact gs hc | exact gs hg | exact gs (by simp [hc]) | exact gs (by simp [hc, hg]) | exact rfl) ?_; exact hK) | (refine lwpick_and (by exact rfl) (by exact rfl) (by first | exact rfl | exact gs hc | exact gs hg | exact gs (by simp [hc]) | exact gs (by simp [hc, hg])) (by intro hb; first | exact rfl | exact gs hb | exact gs hc | exact gs hg | exact gs (by simp [hb, hc]) | exact gs (by simp [hb, hc, hg])) ?_; exact hK) | (refine lwpick_or (by exact rfl) (by exact rfl) (by first | exact rfl | exact gs hc | exact gs hg | exact gs (by simp [hc]) | exact gs (by simp [hc, hg])) (by intro hb; first | exact rfl | exact gs hb | exact gs hc | exact gs hg | exact gs (by simp [hb, hc]) | exact gs (by simp [hb, hc, hg])) ?_; exact hK) | (clear hc; (try clear hg); go_step; exact hK) | ((try have hc' := hc; simp at hc'); (try have hg' := hg; simp at hg'); go_step; exact hK))) ?_; (intro l' hl; simp only [List.set_cons_succ, List.set_cons_zero] at hl; subst hl)) | (refine gl_t2 _ (by exact rfl) (by exact rfl) (by exact rfl) (by exact rfl) (by intro hg hc hv hv2 K hK; (first | (refine lmove (by exact rfl) (by exact rfl) (by first | exact gs hc | exact gs hg | exact gs (by simp [hc]) | exact gs (by simp [hc, hg]) | exact rfl) ?_; exact hK) | (refine lwpick_and (by exact rfl) (by exact rfl) (by first | exact rfl | exact gs hc | exact gs hg | exact gs (by simp [hc]) | exact gs (by simp [hc, hg])) (by intro hb; first | exact rfl | exact gs hb | exact gs hc | exact gs hg | exact gs (by simp [hb, hc]) | exact gs (by simp [hb, hc, hg])) ?_; exact hK) | (refine lwpick_or (by exact rfl) (by exact rfl) (by first | exact rfl | exact gs hc | exact gs hg | exact gs (by simp [hc]) | exact gs (by simp [hc, hg])) (by intro hb; first | exact rfl | exact gs hb | exact gs hc | exact gs hg | exact gs (by simp [hb, hc]) | exact gs (by simp [hb, hc, hg])) ?_; exact hK) | (clear hc; (try clear hg); go_step; exact hK) | ((try have hc' := hc; simp at hc'); (try have hg' := hg; simp at hg'); go_step; exact hK))) ?_; (intro l' hl; simp only [List.set_cons_succ, List.set_cons_zero] at hl; subst hl)) | (refine gl_f2 _ (by exact rfl) (by exact rfl) (by exact rfl) (by exact rfl) (by intro hg hc hv hv2 K hK; (first | (refine lmove (by exact rfl) (by exact rfl) (by first | exact gs hc | exact gs hg | exact gs (by simp [hc]) | exact gs (by simp [hc, hg]) | exact rfl) ?_; exact hK) | (refine lwpick_and (by exact rfl) (by exact rfl) (by first | exact rfl | exact gs hc | exact gs hg | exact gs (by simp [hc]) | exact gs (by simp [hc, hg])) (by intro hb; first | exact rfl | exact gs hb | exact gs hc | exact gs hg | exact gs (by simp [hb, hc]) | exact gs (by simp [hb, hc, hg])) ?_; exact hK) | (refine lwpick_or (by exact rfl) (by exact rfl) (by first | exact rfl | exact gs hc | exact gs hg | exact gs (by simp [hc]) | exact gs (by simp [hc, hg])) (by intro hb; first | exact rfl | exact gs hb | exact gs hc | exact gs hg | exact gs (by simp [hb, hc]) | exact gs (by simp [hb, hc, hg])) ?_; exact hK) | (clear hc; (try clear hg); go_step; exact hK) | ((try have hc' := hc; simp at hc'); (try have hg' := hg; simp at hg'); go_step; exact hK))) ?_; (intro l' hl; simp only [List.set_cons_succ, List.set_cons_zero] at hl; subst hl)) | (refine lpick_and (by exact rfl) (by exact rfl) (by exact rfl) (by exact rfl) (by intro hb; first | exact rfl | exact gs hb) ?_; (intro l' hl; simp only [List.set_cons_succ, List.set_cons_zero] at hl; subst hl)) | (refine lpick_or (by exact rfl) (by exact rfl) (by exact rfl) (by exact rfl) (by intro hb; first | exact rfl | exact gs hb | exact gs (by simp [hb])) ?_; (intro l' hl; simp only [List.set_cons_succ, List.set_cons_zero] at hl; subst hl)))))
        go_ret2
        exact ⟨hb.alloc hsz _, .inr ⟨HN.out, rfl⟩⟩
      · have HIN := Lib.hid hin; clear hin
        cases hal : allowB s k (day, kind)
        · have HN := Lib.hid (inv_no HI.out hlt HX.out (by rw [HIN.out, hal]; rfl))
          have HAL := Lib.hid hal; clear hal
          go_upto_region 9999 with (first | (go_at_call 49; refine (within_any _ _ _ _).mono ?_; rw [HIN.out]; rintro e w' ⟨rfl, rfl⟩) | (go_at_call 50; refine (allows_any s hfit _ _ _ B k d _ (by exact HF.out.2.1.alloc _)).mono ?_; rw [HAL.out]; rintro e w1 ⟨rfl, hb1⟩) | ((with_reducible refine at_list ?_); (first | (refine gl_t _ (by exact rfl) (by exact rfl) (by exact rfl) (by exact rfl) (by intro hc hv K hK; (first | (refine lmove (by exact rfl) (by exact rfl) (by first | exact gs hc | exact gs hg | exact gs (by simp [hc]) | exact gs (by simp [hc, hg]) | exact rfl) ?_; exact hK) | (refine lwpick_and (by exact rfl) (by exact rfl) (by first | exact rfl | exact gs hc | exact gs hg | exact gs (by simp [hc]) | exact gs (by simp [hc, hg])) (by intro hb; first | exact rfl | exact gs hb | exact gs hc | exact gs hg | exact gs (by simp [hb, hc]) | exact gs (by simp [hb, hc, hg])) ?_; exact hK) | (refine lwpick_or (by exact rfl) (by exact rfl) (by first | exact rfl | exact gs hc | exact gs hg | exact gs (by simp [hc]) | exact gs (by simp [hc, hg])) (by intro hb; first | exact rfl | exact gs hb | exact gs hc | exact gs hg | exact gs (by simp [hb, hc]) | exact gs (by simp [hb, hc, hg])) ?_; exact hK) | (clear hc; (try clear hg); go_step; exact hK) | ((try have hc' := hc; simp at hc'); (try have hg' := hg; simp at hg'); go_step; exact hK))) ?_; (intro l' hl; simp only [List.set_cons_succ, List.set_cons_zero] at hl; subst hl)) | (refine gl_f _ (by exact rfl) (by exact rfl) (by exact rfl) (by exact rfl) (by intro hc hv K hK; (first | (refine lmove (by exact rfl) (by exact rfl) (by first | exact gs hc | exact gs hg | exact gs (by simp [hc]) | exact gs (by simp [hc, hg]) | exact rfl) ?_; exact hK) | (refine lwpick_and (by exact rfl) (by exact rfl) (by first | exact rfl | exact gs hc | exact gs hg | exact gs (by simp [hc]) | exact gs (by simp [hc, hg])) (by intro hb; first | exact rfl | exact gs hb | exact gs hc | exact gs hg | exact gs (by simp [hb, hc]) | exact gs (by simp [hb, hc, hg])) ?_; exact hK) | (refine lwpick_or (by exact rfl) (by exact rfl) (by first | exact rfl | exact gs hc | exact gs hg | exact gs (by simp [hc]) | exact gs (by simp [hc, hg])) (by intro hb; first | exact rfl | exact gs hb | exact gs hc | exact gs hg | exact gs (by simp [hb, hc]) | exact gs (by simp [hb, hc, hg])) ?_; exact hK) | (clear hc; (try clear hg); go_step; exact hK) | ((try have hc' := hc; simp at hc'); (try have hg' := hg; simp at hg'); go_step; exact hK))) ?_; (intro l' hl; simp only [List.set_cons_succ, List.set_cons_zero] at hl; subst hl)) | (refine gl_t2 _ (by exact rfl) (by exact rfl) (by exact rfl) (by exact rfl) (by intro hg hc hv hv2 K hK; (first | (refine lmove (by exact rfl) (by exact rfl) (by first | exact gs hc | exact gs hg | exact gs (by simp [hc]) | exact gs (by simp [hc, hg]) | exact rfl) ?_; exact hK) | (refine lwpick_and (by exact rfl) (by exact rfl) (by first | exact rfl | exact gs hc | exact gs hg | exact gs (by simp [hc]) | exact gs (by simp [hc, hg])) (by intro hb; first | exact rfl | exact gs hb | exact gs hc | exact gs hg | exact gs (by simp [hb, hc]) | exact gs (by simp [hb, hc, hg])) ?_; exact hK) | (refine lwpick_or (by exact rfl) (by exact rfl) (by first | exact rfl | exact gs hc | exact gs hg | exact gs (by simp [hc]) | exact gs (by simp [hc, hg])) (by intro hb; first | exact rfl | exact gs hb | exact gs hc | exact gs hg | exact gs (by simp [hb, hc]) | exact gs (by simp [hb, hc, hg])) ?_; exact hK) | (clear hc; (try clear hg); go_step; exact hK) | ((try have hc' := hc; simp at hc'); (try have hg' := hg; simp at hg'); go_step; exact hK))) ?_; (intro l' hl; simp only [List.set_cons_succ, List.set_cons_zero] at hl; subst hl)) | (refine gl_f2 _ (by exact rfl) (by exact rfl) (by exact rfl) (by exact rfl) (by intro hg hc hv hv2 K hK; (first | (refine lmove (by exact rfl) (by exact rfl) (by first | exact gs hc | exact gs hg | exact gs (by simp [hc]) | exact gs (by simp [hc, hg]) | exact rfl) ?_; exact hK) | (refine lwpick_and (by exact rfl) (by exact rfl) (by first | exact rfl | exact gs hc | exact gs hg | exact gs (by simp [hc]) | exact gs (by simp [hc, hg])) (by intro hb; first | exact rfl | exact gs hb | exact gs hc | exact gs hg | exact gs (by simp [hb, hc]) | exact gs (by simp [hb, hc, hg])) ?_; exact hK) | (refine lwpick_or (by exact rfl) (by exact rfl) (by first | exact rfl | exact gs hc | exact gs hg | exact gs (by simp [hc]) | exact gs (by simp [hc, hg])) (by intro hb; first | exact rfl | exact gs hb | exact gs hc | exact gs hg | exact gs (by simp [hb, hc]) | exact gs (by simp [hb, hc, hg])) ?_; exact hK) | (clear hc; (try clear hg); go_step; exact hK) | ((try have hc' := hc; simp at hc'); (try have hg' := hg; simp at hg'); go_step; exact hK))) ?_; (intro l' hl; simp only [List.set_cons_succ, List.set_cons_zero] at hl; subst hl)) | (refine lpick_and (by exact rfl) (by exact rfl) (by exact rfl) (by exact rfl) (by intro hb; first | exact rfl | exact gs hb) ?_; (intro l' hl; simp only [List.set_cons_succ, List.set_cons_zero] at hl; subst hl)) | (refine lpick_or (by exact rfl) (by exact rfl) (by exact rfl) (by exact rfl) (by intro hb; first | exact rfl | exact gs hb | exact gs (by simp [hb])) ?_; (intro l' hl; simp only [List.set_cons_succ, List.set_cons_zero] at hl; subst hl)))))
          go_ret2
          exact ⟨(hb.alloc hsz _).trans (hb1.mono (by simp; omega)), .inr ⟨HN.out, rfl⟩⟩
        · have HN := Lib.hid (inv_yes HI.out hlt HX.out HIN.out hal)
          have HAL := Lib.hid hal; clear hal
          go_upto_region 9999 with (first | (go_at_call 49; refine (within_any _ _ _ _).mono ?_; rw [HIN.out]; rintro e w' ⟨rfl, rfl⟩) | (go_at_call 50; refine (allows_any s hfit _ _ _ B k d _ (by exact HF.out.2.1.alloc _)).mono ?_; rw [HAL.out]; rintro e w1 ⟨rfl, hb1⟩; obtain ⟨q1, q2⟩ := bcell hb1) | (go_at_call 51; refine (take_file s _ _ _ B k d (xs.take k) _ (by exact (HF.out.below ((Below.refl _ _).alloc (Nat.le_refl _) _)).below hb1) (by omega)).mono ?_; rintro e w2 ⟨g', A', c', rfl, hF', hg', hb2⟩) | ((with_reducible refine at_list ?_); (first | (refine gl_t _ (by exact rfl) (by exact rfl) (by exact rfl) (by exact rfl) (by intro hc hv K hK; (first | (refine lmove (by exact rfl) (by exact rfl) (by first | exact gs hc | exact gs hg | exact gs (by simp [hc]) | exact gs (by simp [hc, hg]) | exact rfl) ?_; exact hK) | (refine lwpick_and (by exact rfl) (by exact rfl) (by first | exact rfl | exact gs hc | exact gs hg | exact gs (by simp [hc]) | exact gs (by simp [hc, hg])) (by intro hb; first | exact rfl | exact gs hb | exact gs hc | exact gs hg | exact gs (by simp [hb, hc]) | exact gs (by simp [hb, hc, hg])) ?_; exact hK) | (refine lwpick_or (by exact rfl) (by exact rfl) (by first | exact rfl | exact gs hc | exact gs hg | exact gs (by simp [hc]) | exact gs (by simp [hc, hg])) (by intro hb; first | exact rfl | exact gs hb | exact gs hc | exact gs hg | exact gs (by simp [hb, hc]) | exact gs (by simp [hb, hc, hg])) ?_; exact hK) | (clear hc; (try clear hg); go_step; exact hK) | ((try have hc' := hc; simp at hc'); (try have hg' := hg; simp at hg'); go_step; exact hK))) ?_; (intro l' hl; simp only [List.set_cons_succ, List.set_cons_zero] at hl; subst hl)) | (refine gl_f _ (by exact rfl) (by exact rfl) (by exact rfl) (by exact rfl) (by intro hc hv K hK; (first | (refine lmove (by exact rfl) (by exact rfl) (by first | exact gs hc | exact gs hg | exact gs (by simp [hc]) | exact gs (by simp [hc, hg]) | exact rfl) ?_; exact hK) | (refine lwpick_and (by exact rfl) (by exact rfl) (by first | exact rfl | exact gs hc | exact gs hg | exact gs (by simp [hc]) | exact gs (by simp [hc, hg])) (by intro hb; first | exact rfl | exact gs hb | exact gs hc | exact gs hg | exact gs (by simp [hb, hc]) | exact gs (by simp [hb, hc, hg])) ?_; exact hK) | (refine lwpick_or (by exact rfl) (by exact rfl) (by first | exact rfl | exact gs hc | exact gs hg | exact gs (by simp [hc]) | exact gs (by simp [hc, hg])) (by intro hb; first | exact rfl | exact gs hb | exact gs hc | exact gs hg | exact gs (by simp [hb, hc]) | exact gs (by simp [hb, hc, hg])) ?_; exact hK) | (clear hc; (try clear hg); go_step; exact hK) | ((try have hc' := hc; simp at hc'); (try have hg' := hg; simp at hg'); go_step; exact hK))) ?_; (intro l' hl; simp only [List.set_cons_succ, List.set_cons_zero] at hl; subst hl)) | (refine gl_t2 _ (by exact rfl) (by exact rfl) (by exact rfl) (by exact rfl) (by intro hg hc hv hv2 K hK; (first | (refine lmove (by exact rfl) (by exact rfl) (by first | exact gs hc | exact gs hg | exact gs (by simp [hc]) | exact gs (by simp [hc, hg]) | exact rfl) ?_; exact hK) | (refine lwpick_and (by exact rfl) (by exact rfl) (by first | exact rfl | exact gs hc | exact gs hg | exact gs (by simp [hc]) | exact gs (by simp [hc, hg])) (by intro hb; first | exact rfl | exact gs hb | exact gs hc | exact gs hg | exact gs (by simp [hb, hc]) | exact gs (by simp [hb, hc, hg])) ?_; exact hK) | (refine lwpick_or (by exact rfl) (by exact rfl) (by first | exact rfl | exact gs hc | exact gs hg | exact gs (by simp [hc]) | exact gs (by simp [hc, hg])) (by intro hb; first | exact rfl | exact gs hb | exact gs hc | exact gs hg | exact gs (by simp [hb, hc]) | exact gs (by simp [hb, hc, hg])) ?_; exact hK) | (clear hc; (try clear hg); go_step; exact hK) | ((try have hc' := hc; simp at hc'); (try have hg' := hg; simp at hg'); go_step; exact hK))) ?_; (intro l' hl; simp only [List.set_cons_succ, List.set_cons_zero] at hl; subst hl)) | (refine gl_f2 _ (by exact rfl) (by exact rfl) (by exact rfl) (by exact rfl) (by intro hg hc hv hv2 K hK; (first | (refine lmove (by exact rfl) (by exact rfl) (by first | exact gs hc | exact gs hg | exact gs (by simp [hc]) | exact gs (by simp [hc, hg]) | exact rfl) ?_; exact hK) | (refine lwpick_and (by exact rfl) (by exact rfl) (by first | exact rfl | exact gs hc | exact gs hg | exact gs (by simp [hc]) | exact gs (by simp [hc, hg])) (by intro hb; first | exact rfl | exact gs hb | exact gs hc | exact gs hg | exact gs (by simp [hb, hc]) | exact gs (by simp [hb, hc, hg])) ?_; exact hK) | (refine lwpick_or (by exact rfl) (by exact rfl) (by first | exact rfl | exact gs hc | exact gs hg | exact gs (by simp [hc]) | exact gs (by simp [hc, hg])) (by intro hb; first | exact rfl | exact gs hb | exact gs hc | exact gs hg | exact gs (by simp [hb, hc]) | exact gs (by simp [hb, hc, hg])) ?_; exact hK) | (clear hc; (try clear hg); go_step; exact hK) | ((try have hc' := hc; simp at hc'); (try have hg' := hg; simp at hg'); go_step; exact hK))) ?_; (intro l' hl; simp only [List.set_cons_succ, List.set_cons_zero] at hl; subst hl)) | (refine lpick_and (by exact rfl) (by exact rfl) (by exact rfl) (by exact rfl) (by intro hb; first | exact rfl | exact gs hb) ?_; (intro l' hl; simp only [List.set_cons_succ, List.set_cons_zero] at hl; subst hl)) | (refine lpick_or (by exact rfl) (by exact rfl) (by exact rfl) (by exact rfl) (by intro hb; first | exact rfl | exact gs hb | exact gs (by simp [hb])) ?_; (intro l' hl; simp only [List.set_cons_succ, List.set_cons_zero] at hl; subst hl)))))
          go_roundw
          case rel =>
            refine ⟨k + 1, _, g', A', c', HN, ?_, (hb.alloc hsz _).trans ((hb1.mono (by simp; omega)).trans (hb2.mono (by have := hb1.size; simp at this; omega))), rfl, by go_num⟩
            rw [List.take_succ_eq_append_getElem hlt, HX.out]
            exact hF'
          case measure => simp [intOf]; omega
    · obtain rfl : k = xs.length := by omega
      have HI := Lib.hid (inv_end hinv); clear hinv
      have HF := Lib.hid hF; clear hF
      go_wp2
      go_ret2
      exact ⟨hb, .inl ⟨s, g, B, d, HI.out.1, hfit, by have := HF.out; rwa [List.take_length] at this, rfl⟩⟩

theorem implIs_any (xs : List Stp) (A : Option Addr) (c : Nat) (w : World) (hr : Reads w w.heap.size 2 A xs.length (stC xs)) (hm : xs.length ≤ 9223372036854775807) :
    Calls Tryd.prog 19 #[.slice A xs.length c] w fun e w' => e = .returned (.bool (runI st0 0 xs).isSome) ∧ Below w.heap.size w w' := by
  go_enter Tryd.func19, Tryd.ntmps19
  go_wp2_with (go_at_call 36; refine (newFile_any xs _ _ _ hr hm).mono ?_; rintro e w1 ⟨hb1, hnf⟩; rcases hnf with ⟨s, g, B, d, hrun, _, hF, rfl⟩ | ⟨hrun, rfl⟩)
  all_goals
    go_wp2
    go_ret
    exact ⟨by rw [hrun]; rfl, hb1⟩
end Go.Proofs.YteeonojcihcfiaaDoor
