/- Sums of votes; CountVotes, IsCarried, HasQuorum, of the reference and of the program. -/
import Derived.Test.YtihhpmhigmegjaaDoorRows
import Derived.Test.YtihhpmhigmegjaaDoorL0
import Derived.Test.YtihhpmhigmegjaaDoorM0
import Derived.WalkKit
import Derived.ProofKit
import Derived.OpenShut
import Derived.BigQuiet
import Derived.Outline
import Derived.WalkSpells
import Derived.WalkLawsBesides
import Derived.Deep.DeepCutAuto
import Derived.Test.YtihhpmhigmegjaaDoorV2
import Derived.Lib.Hide
namespace Go.Proofs.YtihhpmhigmegjaaDoor
open Go.ChangeShapes Go.WideShapes Go.ChangeAt Go.RowKit

def partB (c : Int) (b : Bal) : Int := if b.choice = c then b.weight else 0
def sumB (xs : List Bal) (c : Int) : Int := (xs.map (partB c)).sum
theorem sum_snoc (xs : List Bal) (c : Int) (k : Nat) (h : k < xs.length) : sumB (xs.take (k + 1)) c = sumB (xs.take k) c + partB c xs[k] := by
  rw [List.take_succ_eq_append_getElem h, sumB, List.map_append, List.sum_append]; simp [sumB]
/-- Ballots whose weights are small. -/
def Fits (xs : List Bal) : Prop := xs.length ≤ 10 ∧ ∀ b ∈ xs, 1 ≤ b.weight ∧ b.weight ≤ 100
theorem sum_bd {xs : List Bal} (h : ∀ b ∈ xs, 1 ≤ b.weight ∧ b.weight ≤ 100) (c : Int) : 0 ≤ sumB xs c ∧ sumB xs c ≤ 100 * xs.length := by
  induction xs with
  | nil => simp [sumB]
  | cons b r ih =>
    have h1 := ih (fun x hx => h x (by simp [hx]))
    have h2 := h b (by simp)
    have e : sumB (b :: r) c = partB c b + sumB r c := by simp [sumB]
    rw [e]
    have h3 : 0 ≤ partB c b ∧ partB c b ≤ 100 := by unfold partB; split <;> omega
    simp only [List.length_cons]
    omega
theorem fits_sum {xs : List Bal} (h : Fits xs) (c : Int) : 0 ≤ sumB xs c ∧ sumB xs c ≤ 1000 := by
  have := sum_bd h.2 c
  have := h.1
  omega
theorem fits_of {xs : List Bal} (h : areB xs = true) : Fits xs ∧ ∀ b ∈ xs, balB b = true := by
  rw [areB, Bool.and_eq_true, decide_eq_true_eq] at h
  have key : ∀ b ∈ xs, balB b = true := fun b hb => by
    obtain ⟨k, hk, rfl⟩ := List.getElem_of_mem hb
    have := areTo_le (k := k + 1) hk h.1
    rw [areTo, Bool.and_eq_true, goodAt, List.getElem?_eq_getElem hk] at this
    have := this.2
    simp only [Bool.and_eq_true] at this
    exact this.1
  refine ⟨⟨by omega, fun b hb => ?_⟩, key⟩
  have := key b hb
  simp [balB, inB] at this
  omega

set_option maxRecDepth 100000 in
theorem specSum_any (xs : List Bal) (ch : Int) (hf : Fits xs) (A : Option Addr) (c : Nat) (w : World) (hr : Reads w w.heap.size 3 A xs.length (baC xs)) :
    Calls Tryd.prog 37 #[.slice A xs.length c, .int .i64 ch] w fun e w' => e = .returned (.int .i64 (sumB xs ch)) ∧ w = w' := by
  have HR := Lib.hid hr; clear hr
  have hm := hf.1
  have HF := Lib.hid hf; clear hf
  go_enter Tryd.func37, Tryd.ntmps37
  go_wp2_with fail
  go_loop [5, 6] (fun v5 v6 => ∃ k : Nat, k ≤ xs.length ∧ v5 = .int .i64 (sumB (xs.take k) ch) ∧ v6 = .int .i64 k) (fun _ i => xs.length - (intOf i).toNat)
  case atStart => exact ⟨0, by omega, rfl, rfl⟩
  case round =>
    obtain ⟨k, hk, rfl, rfl⟩ := hrel
    have hb := sum_bd (xs := xs.take k) (fun b hb => HF.out.2 b (List.mem_of_mem_take hb)) ch
    have hl : (xs.take k).length ≤ 10 := by rw [List.length_take]; omega
    by_cases hlt : k < xs.length
    · obtain ⟨ab, ao, rfl, hadb, hcell⟩ := HR.out.2 (by omega)
      obtain ⟨e0, e1, e2⟩ := baC_get xs k hlt
      have c1 := hcell _ _ e1
      have c2 := hcell _ _ e2
      rw [← Nat.add_assoc] at c1 c2
      clear hcell e0 e1 e2
      have hw := HF.out.2 xs[k] (List.getElem_mem hlt)
      have HS := Lib.hid (sum_snoc xs ch k hlt)
      generalize xs[k] = b at c1 c2 hw HS
      generalize sumB (xs.take k) ch = sm at hb HS
      by_cases hc : b.choice = ch
      · have HS2 := Lib.hid (show sumB (xs.take (k + 1)) ch = sm + b.weight by rw [HS.out, partB, if_pos hc])
        have hc' : (b.choice == ch) = true := by simpa using hc
        clear hc HS
        go_wp2_with fail
        go_round
        case rel => exact ⟨k + 1, by omega, by rw [HS2.out], by go_num⟩
        case measure => simp [intOf]; omega
      · have HS2 := Lib.hid (show sumB (xs.take (k + 1)) ch = sm by rw [HS.out, partB, if_neg hc]; simp)
        have hc' : (b.choice == ch) = false := by simpa using hc
        clear hc HS
        go_wp2_with fail
        go_round
        case rel => exact ⟨k + 1, by omega, by rw [HS2.out], by go_num⟩
        case measure => simp [intOf]; omega
    · obtain rfl : k = xs.length := by omega
      go_wp2_with fail
      go_ret
      exact ⟨ret_int (by simp), rfl⟩

set_option maxRecDepth 100000 in
theorem implSum_any (xs : List Bal) (ch : Int) (hf : Fits xs) (A : Option Addr) (c : Nat) (w : World) (hr : Reads w w.heap.size 3 A xs.length (baC xs)) :
    Calls Tryd.prog 35 #[.slice A xs.length c, .int .i64 ch] w fun e w' => e = .returned (.int .i64 (sumB xs ch)) ∧ Below w.heap.size w w' := by
  have HR := Lib.hid hr; clear hr
  have hm := hf.1
  have HF := Lib.hid hf; clear hf
  go_enter Tryd.func35, Tryd.ntmps35
  go_wp2_with fail
  go_loopw [5, 10] (fun v5 v10 wr => ∃ k : Nat, k ≤ xs.length ∧ Hid (Below w.heap.size w wr) ∧ v5 = .int .i64 (sumB (xs.take k) ch) ∧ v10 = .int .i64 k) (fun _ i _ => xs.length - (intOf i).toNat)
  case atStart => exact ⟨0, by omega, Below.refl _ _, rfl, rfl⟩
  case round =>
    obtain ⟨k, hk, BW, rfl, rfl⟩ := hrel
    have hb := sum_bd (xs := xs.take k) (fun b hb => HF.out.2 b (List.mem_of_mem_take hb)) ch
    have hl : (xs.take k).length ≤ 10 := by rw [List.length_take]; omega
    by_cases hlt : k < xs.length
    · obtain ⟨ab, ao, rfl, hadb, hcell⟩ := (HR.out.below BW.out).2 (by omega)
      obtain ⟨e0, e1, e2⟩ := baC_get xs k hlt
      have c0 := hcell _ _ e0
      have c1 := hcell _ _ e1
      have c2 := hcell _ _ e2
      rw [← Nat.add_assoc] at c1 c2
      clear hcell e0 e1 e2
      have hw := HF.out.2 xs[k] (List.getElem_mem hlt)
      have HS := Lib.hid (sum_snoc xs ch k hlt)
      generalize xs[k] = b at c0 c1 c2 hw HS
      generalize sumB (xs.take k) ch = sm at hb HS
      by_cases hc : b.choice = ch
      · have HS2 := Lib.hid (show sumB (xs.take (k + 1)) ch = sm + b.weight by rw [HS.out, partB, if_pos hc])
        have hc' : (b.choice == ch) = true := by simpa using hc
        clear hc HS
        go_wp2_with fail
        go_roundw
        case rel => exact ⟨k + 1, by omega, BW.out.alloc BW.out.size _, by rw [HS2.out], by go_num⟩
        case measure => simp [intOf]; omega
      · have HS2 := Lib.hid (show sumB (xs.take (k + 1)) ch = sm by rw [HS.out, partB, if_neg hc]; simp)
        have hc' : (b.choice == ch) = false := by simpa using hc
        clear hc HS
        go_wp2_with fail
        go_roundw
        case rel => exact ⟨k + 1, by omega, BW.out.alloc BW.out.size _, by rw [HS2.out], by go_num⟩
        case measure => simp [intOf]; omega
    · obtain rfl : k = xs.length := by omega
      go_wp2_with fail
      go_ret
      exact ⟨ret_int (by simp), BW.out⟩

/-- What CountVotes gives. -/
def countT (xs : List Bal) : Array Value := if areB xs = true then #[.int .i64 (sumB xs 1), .int .i64 (sumB xs (-1)), .int .i64 (sumB xs 0), .int .i64 0] else #[.int .i64 0, .int .i64 0, .int .i64 0, .int .i64 1]
theorem countT_no {xs : List Bal} (h : areB xs = false) : countT xs = #[.int .i64 0, .int .i64 0, .int .i64 0, .int .i64 1] := by simp [countT, h]
theorem countT_yes {xs : List Bal} (h : areB xs = true) : countT xs = #[.int .i64 (sumB xs 1), .int .i64 (sumB xs (-1)), .int .i64 (sumB xs 0), .int .i64 0] := by simp [countT, h]
/-- The ballots that a walk needs: they lie in memory, and their names are not too long. -/
def HasBal (w : World) (xs : List Bal) (A : Option Addr) : Prop := Reads w w.heap.size 3 A xs.length (baC xs) ∧ xs.length ≤ 9223372036854775807 ∧ ∀ b ∈ xs, b.name.size ≤ 9223372036854775807
theorem HasBal.below {w w' : World} {xs : List Bal} {A : Option Addr} (h : HasBal w xs A) (hb : Below w.heap.size w w') : HasBal w' xs A := ⟨(h.1.below hb).more hb.size, h.2⟩

theorem specCount_any (xs : List Bal) (A : Option Addr) (c : Nat) (w : World) (h : HasBal w xs A) :
    Calls Tryd.prog 10 #[.slice A xs.length c] w fun e w' => e = .returned (.tuple (countT xs)) ∧ Below w.heap.size w w' := by
  have H := Lib.hid h; clear h
  cases ha : areB xs
  · have HT := Lib.hid (countT_no ha)
    have HA := Lib.hid ha; clear ha
    go_enter Tryd.func10, Tryd.ntmps10
    go_wp2_with fail
    refine (specAre_any xs _ _ _ H.out.1 H.out.2.1 H.out.2.2).mono ?_; rw [HA.out]; rintro e w1 ⟨rfl, b1⟩
    go_wp2_with fail
    refine bodyPost_ret (results_tmp4 rfl _ _ _) rfl ⟨?_, b1⟩
    rw [HT.out]; rfl
  · have HT := Lib.hid (countT_yes ha)
    have HF := Lib.hid (fits_of ha).1
    have HA := Lib.hid ha; clear ha
    go_enter Tryd.func10, Tryd.ntmps10
    go_wp2_with fail
    refine (specAre_any xs _ _ _ H.out.1 H.out.2.1 H.out.2.2).mono ?_; rw [HA.out]; rintro e w1 ⟨rfl, b1⟩
    have H1 := Lib.hid (H.out.below b1)
    go_wp2_with fail
    refine (specSum_any xs _ HF.out _ _ _ H1.out.1).mono ?_; rintro e w' ⟨rfl, rfl⟩
    go_wp2_with fail
    refine (specSum_any xs _ HF.out _ _ _ H1.out.1).mono ?_; rintro e w' ⟨rfl, rfl⟩
    go_wp2_with fail
    refine (specSum_any xs _ HF.out _ _ _ H1.out.1).mono ?_; rintro e w' ⟨rfl, rfl⟩
    go_wp2_with fail
    refine bodyPost_ret (results_tmp4 rfl _ _ _) rfl ⟨?_, b1⟩
    rw [HT.out]; rfl
theorem implCount_any (xs : List Bal) (A : Option Addr) (c : Nat) (w : World) (h : HasBal w xs A) :
    Calls Tryd.prog 9 #[.slice A xs.length c] w fun e w' => e = .returned (.tuple (countT xs)) ∧ Below w.heap.size w w' := by
  have H := Lib.hid h; clear h
  cases ha : areB xs
  · have HT := Lib.hid (countT_no ha)
    have HA := Lib.hid ha; clear ha
    go_enter Tryd.func9, Tryd.ntmps9
    go_wp2_with fail
    refine (implAre_any xs _ _ _ H.out.1 H.out.2.1 H.out.2.2).mono ?_; rw [HA.out]; rintro e w1 ⟨rfl, b1⟩
    go_wp2_with fail
    refine bodyPost_ret (results_tmp4 rfl _ _ _) rfl ⟨?_, b1⟩
    rw [HT.out]; rfl
  · have HT := Lib.hid (countT_yes ha)
    have HF := Lib.hid (fits_of ha).1
    have HA := Lib.hid ha; clear ha
    go_enter Tryd.func9, Tryd.ntmps9
    go_wp2_with fail
    refine (implAre_any xs _ _ _ H.out.1 H.out.2.1 H.out.2.2).mono ?_; rw [HA.out]; rintro e w1 ⟨rfl, b1⟩
    have H1 := Lib.hid (H.out.below b1)
    have B1 := Lib.hid b1; clear b1
    go_wp2_with fail
    refine (implSum_any xs _ HF.out _ _ _ H1.out.1).mono ?_; rintro e w2 ⟨rfl, b2⟩
    have H2 := Lib.hid (H1.out.below b2)
    have B2 := Lib.hid (B1.out.trans (b2.mono B1.out.size)); clear b2
    go_wp2_with fail
    refine (implSum_any xs _ HF.out _ _ _ H2.out.1).mono ?_; rintro e w3 ⟨rfl, b3⟩
    have H3 := Lib.hid (H2.out.below b3)
    have B3 := Lib.hid (B2.out.trans (b3.mono B2.out.size)); clear b3
    go_wp2_with fail
    refine (implSum_any xs _ HF.out _ _ _ H3.out.1).mono ?_; rintro e w4 ⟨rfl, b4⟩
    go_wp2_with fail
    refine bodyPost_ret (results_tmp4 rfl _ _ _) rfl ⟨?_, B3.out.trans (b4.mono B3.out.size)⟩
    rw [HT.out]; rfl

/-- Whether a vote is carried. -/
def carB (xs : List Bal) (rule : Int) : Bool :=
  if rule = 0 then decide (sumB xs (-1) < sumB xs 1)
  else if rule = 1 then decide (0 < sumB xs 1) && decide (2 * sumB xs (-1) ≤ sumB xs 1)
  else decide (0 < sumB xs 1) && (sumB xs (-1) == 0)
theorem carB_eq (xs : List Bal) (rule : Int) : carB xs rule = if rule = 0 then decide (sumB xs (-1) < sumB xs 1)
  else if rule = 1 then decide (0 < sumB xs 1) && decide (2 * sumB xs (-1) ≤ sumB xs 1)
  else decide (0 < sumB xs 1) && (sumB xs (-1) == 0) := rfl
set_option maxRecDepth 100000 in
theorem specCar_any (xs : List Bal) (rule : Int) (hf : Fits xs) (A : Option Addr) (c : Nat) (w : World) (hr : Reads w w.heap.size 3 A xs.length (baC xs)) :
    Calls Tryd.prog 34 #[.slice A xs.length c, .int .i64 rule] w fun e w' => e = .returned (.bool (carB xs rule)) ∧ w = w' := by
  have HR := Lib.hid hr; clear hr
  have h1 := fits_sum hf 1
  have h2 := fits_sum hf (-1)
  have HF := Lib.hid hf; clear hf
  have HC := Lib.hid (carB_eq xs rule)
  have S1 := Lib.hid (specSum_any xs 1 HF.out A c w HR.out)
  have S2 := Lib.hid (specSum_any xs (-1) HF.out A c w HR.out)
  generalize carB xs rule = cb at HC ⊢
  generalize sumB xs 1 = f at h1 HC S1
  generalize sumB xs (-1) = g at h2 HC S2
  go_enter Tryd.func34, Tryd.ntmps34
  go_wp2_with fail
  refine S1.out.mono ?_; rintro e w' ⟨rfl, rfl⟩
  go_wp2_with fail
  refine S2.out.mono ?_; rintro e w' ⟨rfl, rfl⟩
  go_upto_region 9999 with ((with_reducible refine at_list ?_); (first | (refine gl_t _ (by exact rfl) (by exact rfl) (by exact rfl) (by exact rfl) (by intro hc hv K hK; (first | (refine lmove (by exact rfl) (by exact rfl) (by first | exact gs hc | exact gs hg | exact gs (by simp [hc]) | exact gs (by simp [hc, hg]) | exact rfl) ?_; exact hK) | (refine lwpick_and (by exact rfl) (by exact rfl) (by first | exact rfl | exact gs hc | exact gs hg | exact gs (by simp [hc]) | exact gs (by simp [hc, hg])) (by intro hb; first | exact rfl | exact gs hb | exact gs hc | exact gs hg | exact gs (by simp [hb, hc]) | exact gs (by simp [hb, hc, hg])) ?_; exact hK) | (refine lwpick_or (by exact rfl) (by exact rfl) (by first | exact rfl | exact gs hc | exact gs hg | exact gs (by simp [hc]) | exact gs (by simp [hc, hg])) (by intro hb; first | exact rfl | exact gs hb | exact gs hc | exact gs hg | exact gs (by simp [hb, hc]) | exact gs (by simp [hb, hc, hg])) ?_; exact hK) | (clear hc; (try clear hg); go_step; exact hK) | ((try have hc' := hc; simp at hc'); (try have hg' := hg; simp at hg'); go_step; exact hK))) ?_; (intro l' hl; simp only [List.set_cons_succ, List.set_cons_zero] at hl; subst hl)) | (refine gl_f _ (by exact rfl) (by exact rfl) (by exact rfl) (by exact rfl) (by intro hc hv K hK; (first | (refine lmove (by exact rfl) (by exact rfl) (by first | exact gs hc | exact gs hg | exact gs (by simp [hc]) | exact gs (by simp [hc, hg]) | exact rfl) ?_; exact hK) | (refine lwpick_and (by exact rfl) (by exact rfl) (by first | exact rfl | exact gs hc | exact gs hg | exact gs (by simp [hc]) | exact gs (by simp [hc, hg])) (by intro hb; first | exact rfl | exact gs hb | exact gs hc | exact gs hg | exact gs (by simp [hb, hc]) | exact gs (by simp [hb, hc, hg])) ?_; exact hK) | (refine lwpick_or (by exact rfl) (by exact rfl) (by first | exact rfl | exact gs hc | exact gs hg | exact gs (by simp [hc]) | exact gs (by simp [hc, hg])) (by intro hb; first | exact rfl | exact gs hb | exact gs hc | exact gs hg | exact gs (by simp [hb, hc]) | exact gs (by simp [hb, hc, hg])) ?_; exact hK) | (clear hc; (try clear hg); go_step; exact hK) | ((try have hc' := hc; simp at hc'); (try have hg' := hg; simp at hg'); go_step; exact hK))) ?_; (intro l' hl; simp only [List.set_cons_succ, List.set_cons_zero] at hl; subst hl)) | (refine gl_t2 _ (by exact rfl) (by exact rfl) (by exact rfl) (by exact rfl) (by intro hg hc hv hv2 K hK; (first | (refine lmove (by exact rfl) (by exact rfl) (by first | exact gs hc | exact gs hg | exact gs (by simp [hc]) | exact gs (by simp [hc, hg]) | exact rfl) ?_; exact hK) | (refine lwpick_and (by exact rfl) (by exact rfl) (by first | exact rfl | exact gs hc | exact gs hg | exact gs (by simp [hc]) | exact gs (by simp [hc, hg])) (by intro hb; first | exact rfl | exact gs hb | exact gs hc | exact gs hg | exact gs (by simp [hb, hc]) | exact gs (by simp [hb, hc, hg])) ?_; exact hK) | (refine lwpick_or (by exact rfl) (by exact rfl) (by first | exact rfl | exact gs hc | exact gs hg | exact gs (by simp [hc]) | exact gs (by simp [hc, hg])) (by intro hb; first | exact rfl | exact gs hb | exact gs hc | exact gs hg | exact gs (by simp [hb, hc]) | exact gs (by simp [hb, hc, hg])) ?_; exact hK) | (clear hc; (try clear hg); go_step; exact hK) | ((try have hc' := hc; simp at hc'); (try have hg' := hg; simp at hg'); go_step; exact hK))) ?_; (intro l' hl; simp only [List.set_cons_succ, List.set_cons_zero] at hl; subst hl)) | (refine gl_f2 _ (by exact rfl) (by exact rfl) (by exact rfl) (by exact rfl) (by intro hg hc hv hv2 K hK; (first | (refine lmove (by exact rfl) (by exact rfl) (by first | exact gs hc | exact gs hg | exact gs (by simp [hc]) | exact gs (by simp [hc, hg]) | exact rfl) ?_; exact hK) | (refine lwpick_and (by exact rfl) (by exact rfl) (by first | exact rfl | exact gs hc | exact gs hg | exact gs (by simp [hc]) | exact gs (by simp [hc, hg])) (by intro hb; first | exact rfl | exact gs hb | exact gs hc | exact gs hg | exact gs (by simp [hb, hc]) | exact gs (by simp [hb, hc, hg])) ?_; exact hK) | (refine lwpick_or (by exact rfl) (by exact rfl) (by first | exact rfl | exact gs hc | exact gs hg | exact gs (by simp [hc]) | exact gs (by simp [hc, hg])) (by intro hb; first | exact rfl | exact gs hb | exact gs hc | exact gs hg | exact gs (by simp [hb, hc]) | exact gs (by simp [hb, hc, hg])) ?_; exact hK) | (clear hc; (try clear hg); go_step; exact hK) | ((try have hc' := hc; simp at hc'); (try have hg' := hg; simp at hg'); go_step; exact hK))) ?_; (intro l' hl; simp only [List.set_cons_succ, List.set_cons_zero] at hl; subst hl)) | (refine lpick_and (by exact rfl) (by exact rfl) (by exact rfl) (by exact rfl) (by intro hb; first | exact rfl | exact gs hb) ?_; (intro l' hl; simp only [List.set_cons_succ, List.set_cons_zero] at hl; subst hl)) | (refine lpick_or (by exact rfl) (by exact rfl) (by exact rfl) (by exact rfl) (by intro hb; first | exact rfl | exact gs hb | exact gs (by simp [hb])) ?_; (intro l' hl; simp only [List.set_cons_succ, List.set_cons_zero] at hl; subst hl))))
  all_goals
    go_ret
    refine ⟨ret_bool ?_, rfl⟩
    rw [HC.out]
    simp only [beq_iff_eq, beq_eq_false_iff_ne, ne_eq] at *
    simp [*]
set_option maxRecDepth 100000 in
theorem implCar_any (xs : List Bal) (rule : Int) (hf : Fits xs) (A : Option Addr) (c : Nat) (w : World) (hr : Reads w w.heap.size 3 A xs.length (baC xs)) :
    Calls Tryd.prog 32 #[.slice A xs.length c, .int .i64 rule] w fun e w' => e = .returned (.bool (carB xs rule)) ∧ Below w.heap.size w w' := by
  have HR := Lib.hid hr; clear hr
  have h1 := fits_sum hf 1
  have h2 := fits_sum hf (-1)
  have HF := Lib.hid hf; clear hf
  have HC := Lib.hid (carB_eq xs rule)
  have S1 := Lib.hid (implSum_any xs 1 HF.out A c w HR.out)
  have S2 := Lib.hid (fun W (h : Below w.heap.size w W) => implSum_any xs (-1) HF.out A c W ((HR.out.below h).more h.size))
  generalize carB xs rule = cb at HC ⊢
  generalize sumB xs 1 = f at h1 HC S1
  generalize sumB xs (-1) = g at h2 HC S2
  go_enter Tryd.func32, Tryd.ntmps32
  go_wp2_with fail
  refine S1.out.mono ?_; rintro e w1 ⟨rfl, b1⟩
  have B1 := Lib.hid b1; clear b1
  go_wp2_with fail
  refine (S2.out _ B1.out).mono ?_; rintro e w2 ⟨rfl, b2⟩
  have B2 := Lib.hid (B1.out.trans (b2.mono B1.out.size)); clear b2
  go_upto_region 9999 with ((with_reducible refine at_list ?_); (first | (refine gl_t _ (by exact rfl) (by exact rfl) (by exact rfl) (by exact rfl) (by intro hc hv K hK; (first | (refine lmove (by exact rfl) (by exact rfl) (by first | exact gs hc | exact gs hg | exact gs (by simp [hc]) | exact gs (by simp [hc, hg]) | exact rfl) ?_; exact hK) | (refine lwpick_and (by exact rfl) (by exact rfl) (by first | exact rfl | exact gs hc | exact gs hg | exact gs (by simp [hc]) | exact gs (by simp [hc, hg])) (by intro hb; first | exact rfl | exact gs hb | exact gs hc | exact gs hg | exact gs (by simp [hb, hc]) | exact gs (by simp [hb, hc, hg])) ?_; exact hK) | (refine lwpick_or (by exact rfl) (by exact rfl) (by first | exact rfl | exact gs hc | exact gs hg | exact gs (by simp [hc]) | exact gs (by simp [hc, hg])) (by intro hb; first | exact rfl | exact gs hb | exact gs hc | exact gs hg | exact gs (by simp [hb, hc]) | exact gs (by simp [hb, hc, hg])) ?_; exact hK) | (clear hc; (try clear hg); go_step; exact hK) | ((try have hc' := hc; simp at hc'); (try have hg' := hg; simp at hg'); go_step; exact hK))) ?_; (intro l' hl; simp only [List.set_cons_succ, List.set_cons_zero] at hl; subst hl)) | (refine gl_f _ (by exact rfl) (by exact rfl) (by exact rfl) (by exact rfl) (by intro hc hv K hK; (first | (refine lmove (by exact rfl) (by exact rfl) (by first | exact gs hc | exact gs hg | exact gs (by simp [hc]) | exact gs (by simp [hc, hg]) | exact rfl) ?_; exact hK) | (refine lwpick_and (by exact rfl) (by exact rfl) (by first | exact rfl | exact gs hc | exact gs hg | exact gs (by simp [hc]) | exact gs (by simp [hc, hg])) (by intro hb; first | exact rfl | exact gs hb | exact gs hc | exact gs hg | exact gs (by simp [hb, hc]) | exact gs (by simp [hb, hc, hg])) ?_; exact hK) | (refine lwpick_or (by exact rfl) (by exact rfl) (by first | exact rfl | exact gs hc | exact gs hg | exact gs (by simp [hc]) | exact gs (by simp [hc, hg])) (by intro hb; first | exact rfl | exact gs hb | exact gs hc | exact gs hg | exact gs (by simp [hb, hc]) | exact gs (by simp [hb, hc, hg])) ?_; exact hK) | (clear hc; (try clear hg); go_step; exact hK) | ((try have hc' := hc; simp at hc'); (try have hg' := hg; simp at hg'); go_step; exact hK))) ?_; (intro l' hl; simp only [List.set_cons_succ, List.set_cons_zero] at hl; subst hl)) | (refine gl_t2 _ (by exact rfl) (by exact rfl) (by exact rfl) (by exact rfl) (by intro hg hc hv hv2 K hK; (first | (refine lmove (by exact rfl) (by exact rfl) (by first | exact gs hc | exact gs hg | exact gs (by simp [hc]) | exact gs (by simp [hc, hg]) | exact rfl) ?_; exact hK) | (refine lwpick_and (by exact rfl) (by exact rfl) (by first | exact rfl | exact gs hc | exact gs hg | exact gs (by simp [hc]) | exact gs (by simp [hc, hg])) (by intro hb; first | exact rfl | exact gs hb | exact gs hc | exact gs hg | exact gs (by simp [hb, hc]) | exact gs (by simp [hb, hc, hg])) ?_; exact hK) | (refine lwpick_or (by exact rfl) (by exact rfl) (by first | exact rfl | exact gs hc | exact gs hg | exact gs (by simp [hc]) | exact gs (by simp [hc, hg])) (by intro hb; first | exact rfl | exact gs hb | exact gs hc | exact gs hg | exact gs (by simp [hb, hc]) | exact gs (by simp [hb, hc, hg])) ?_; exact hK) | (clear hc; (try clear hg); go_step; exact hK) | ((try have hc' := hc; simp at hc'); (try have hg' := hg; simp at hg'); go_step; exact hK))) ?_; (intro l' hl; simp only [List.set_cons_succ, List.set_cons_zero] at hl; subst hl)) | (refine gl_f2 _ (by exact rfl) (by exact rfl) (by exact rfl) (by exact rfl) (by intro hg hc hv hv2 K hK; (first | (refine lmove (by exact rfl) (by exact rfl) (by first | exact gs hc | exact gs hg | exact gs (by simp [hc]) | exact gs (by simp [hc, hg]) | exact rfl) ?_; exact hK) | (refine lwpick_and (by exact rfl) (by exact rfl) (by first | exact rfl | exact gs hc | exact gs hg | exact gs (by simp [hc]) | exact gs (by simp [hc, hg])) (by intro hb; first | exact rfl | exact gs hb | exact gs hc | exact gs hg | exact gs (by simp [hb, hc]) | exact gs (by simp [hb, hc, hg])) ?_; exact hK) | (refine lwpick_or (by exact rfl) (by exact rfl) (by first | exact rfl | exact gs hc | exact gs hg | exact gs (by simp [hc]) | exact gs (by simp [hc, hg])) (by intro hb; first | exact rfl | exact gs hb | exact gs hc | exact gs hg | exact gs (by simp [hb, hc]) | exact gs (by simp [hb, hc, hg])) ?_; exact hK) | (clear hc; (try clear hg); go_step; exact hK) | ((try have hc' := hc; simp at hc'); (try have hg' := hg; simp at hg'); go_step; exact hK))) ?_; (intro l' hl; simp only [List.set_cons_succ, List.set_cons_zero] at hl; subst hl)) | (refine lpick_and (by exact rfl) (by exact rfl) (by exact rfl) (by exact rfl) (by intro hb; first | exact rfl | exact gs hb) ?_; (intro l' hl; simp only [List.set_cons_succ, List.set_cons_zero] at hl; subst hl)) | (refine lpick_or (by exact rfl) (by exact rfl) (by exact rfl) (by exact rfl) (by intro hb; first | exact rfl | exact gs hb | exact gs (by simp [hb])) ?_; (intro l' hl; simp only [List.set_cons_succ, List.set_cons_zero] at hl; subst hl))))
  all_goals
    go_ret
    refine ⟨ret_bool ?_, B2.out⟩
    rw [HC.out]
    simp only [beq_iff_eq, beq_eq_false_iff_ne, ne_eq] at *
    simp [*]

def vcodeB (xs : List Bal) (rule : Int) : Int := if areB xs = true then (if inB rule 0 2 = true then 0 else 2) else 1
theorem specCode_any (xs : List Bal) (rule : Int) (A : Option Addr) (c : Nat) (w : World) (h : HasBal w xs A) :
    Calls Tryd.prog 33 #[.slice A xs.length c, .int .i64 rule] w fun e w' => e = .returned (.int .i64 (vcodeB xs rule)) ∧ Below w.heap.size w w' := by
  have H := Lib.hid h; clear h
  cases ha : areB xs <;> cases hi : inB rule 0 2
  all_goals
    have HT := Lib.hid (show vcodeB xs rule = _ by rw [vcodeB, ha, hi])
    have HA := Lib.hid ha; clear ha
    have HI := Lib.hid hi; clear hi
    go_enter Tryd.func33, Tryd.ntmps33
    go_wp2_with fail
    refine (specAre_any xs _ _ _ H.out.1 H.out.2.1 H.out.2.2).mono ?_; rw [HA.out]; rintro e w1 ⟨rfl, b1⟩
    go_wp2_with (go_at_call 46; refine (specIn_any _ _ _ _).mono ?_; rw [HI.out]; rintro e w' ⟨rfl, rfl⟩)
    go_ret
    exact ⟨ret_int (by rw [HT.out]; rfl), b1⟩
theorem implCode_any (xs : List Bal) (rule : Int) (A : Option Addr) (c : Nat) (w : World) (h : HasBal w xs A) :
    Calls Tryd.prog 31 #[.slice A xs.length c, .int .i64 rule] w fun e w' => e = .returned (.int .i64 (vcodeB xs rule)) ∧ Below w.heap.size w w' := by
  have H := Lib.hid h; clear h
  cases ha : areB xs <;> cases hi : inB rule 0 2
  all_goals
    have HT := Lib.hid (show vcodeB xs rule = _ by rw [vcodeB, ha, hi])
    have HA := Lib.hid ha; clear ha
    have HI := Lib.hid hi; clear hi
    go_enter Tryd.func31, Tryd.ntmps31
    go_wp2_with fail
    refine (implAre_any xs _ _ _ H.out.1 H.out.2.1 H.out.2.2).mono ?_; rw [HA.out]; rintro e w1 ⟨rfl, b1⟩
    go_wp2_with (go_at_call 45; refine (within_any _ _ _ _).mono ?_; rw [HI.out]; rintro e w' ⟨rfl, rfl⟩)
    go_ret
    exact ⟨ret_int (by rw [HT.out]; rfl), b1⟩
theorem vcode_zero {xs : List Bal} {rule : Int} (h : vcodeB xs rule = 0) : areB xs = true ∧ inB rule 0 2 = true := by
  unfold vcodeB at h
  split at h
  · split at h
    · exact ⟨‹_›, ‹_›⟩
    · cases h
  · cases h
def carT (xs : List Bal) (rule : Int) : Array Value := if vcodeB xs rule = 0 then #[.bool (carB xs rule), .int .i64 0] else #[.bool false, .int .i64 (vcodeB xs rule)]
theorem specIsCar_any (xs : List Bal) (rule : Int) (A : Option Addr) (c : Nat) (w : World) (h : HasBal w xs A) :
    Calls Tryd.prog 8 #[.slice A xs.length c, .int .i64 rule] w fun e w' => e = .returned (.tuple (carT xs rule)) ∧ Below w.heap.size w w' := by
  have H := Lib.hid h; clear h
  by_cases hc : vcodeB xs rule = 0
  · have HT := Lib.hid (show carT xs rule = _ by rw [carT, if_pos hc])
    have HF := Lib.hid (fits_of (vcode_zero hc).1).1
    have HC := Lib.hid hc; clear hc
    go_enter Tryd.func8, Tryd.ntmps8
    go_wp2_with fail
    refine (specCode_any xs _ _ _ _ H.out).mono ?_; rw [HC.out]; rintro e w1 ⟨rfl, b1⟩
    have H1 := Lib.hid (H.out.below b1)
    go_wp2_with fail
    refine (specCar_any xs _ HF.out _ _ _ H1.out.1).mono ?_; rintro e w' ⟨rfl, rfl⟩
    go_wp2_with fail
    go_ret2
    exact ⟨by rw [HT.out]; rfl, b1⟩
  · have HT := Lib.hid (show carT xs rule = _ by rw [carT, if_neg hc])
    have hne : (vcodeB xs rule != 0) = true := by rw [bne_iff_ne]; exact hc
    clear hc
    go_enter Tryd.func8, Tryd.ntmps8
    go_wp2_with fail
    refine (specCode_any xs _ _ _ _ H.out).mono ?_; rintro e w1 ⟨rfl, b1⟩
    go_wp2_with fail
    go_ret2
    exact ⟨by rw [HT.out]; rfl, b1⟩
theorem implIsCar_any (xs : List Bal) (rule : Int) (A : Option Addr) (c : Nat) (w : World) (h : HasBal w xs A) :
    Calls Tryd.prog 7 #[.slice A xs.length c, .int .i64 rule] w fun e w' => e = .returned (.tuple (carT xs rule)) ∧ Below w.heap.size w w' := by
  have H := Lib.hid h; clear h
  by_cases hc : vcodeB xs rule = 0
  · have HT := Lib.hid (show carT xs rule = _ by rw [carT, if_pos hc])
    have HF := Lib.hid (fits_of (vcode_zero hc).1).1
    have HC := Lib.hid hc; clear hc
    go_enter Tryd.func7, Tryd.ntmps7
    go_wp2_with fail
    refine (implCode_any xs _ _ _ _ H.out).mono ?_; rw [HC.out]; rintro e w1 ⟨rfl, b1⟩
    have H1 := Lib.hid (H.out.below b1)
    go_wp2_with fail
    refine (implCar_any xs _ HF.out _ _ _ H1.out.1).mono ?_; rintro e w2 ⟨rfl, b2⟩
    go_wp2_with fail
    go_ret2
    exact ⟨by rw [HT.out]; rfl, b1.trans (b2.mono b1.size)⟩
  · have HT := Lib.hid (show carT xs rule = _ by rw [carT, if_neg hc])
    have hne : (vcodeB xs rule != 0) = true := by rw [bne_iff_ne]; exact hc
    clear hc
    go_enter Tryd.func7, Tryd.ntmps7
    go_wp2_with fail
    refine (implCode_any xs _ _ _ _ H.out).mono ?_; rintro e w1 ⟨rfl, b1⟩
    go_wp2_with fail
    go_ret2
    exact ⟨by rw [HT.out]; rfl, b1⟩
end Go.Proofs.YtihhpmhigmegjaaDoor
