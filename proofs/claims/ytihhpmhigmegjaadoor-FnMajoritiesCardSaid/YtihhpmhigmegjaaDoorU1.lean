/- l27Turns and LeastChanges of the reference. -/
import Derived.Test.YtihhpmhigmegjaaDoorRows
import Derived.Test.YtihhpmhigmegjaaDoorL0
import Derived.Test.YtihhpmhigmegjaaDoorM0
import Derived.WalkKit
import Derived.ProofKit
import Derived.OpenShut
import Derived.BigQuiet
import Derived.Outline
import Derived.WalkSpells
import Derived.WalkLawsBesides
import Derived.Deep.DeepCutAuto
import Derived.Test.YtihhpmhigmegjaaDoorU0
namespace Go.Proofs.YtihhpmhigmegjaaDoor
open Go.ChangeShapes Go.WideShapes Go.ChangeAt Go.RowKit

theorem with_split {xs : List Bal} {k : Nat} (h : k < xs.length) (e : Int) : withB xs k e = (xs.take k ++ [xs[k].withC e]) ++ xs.drop (k + 1) := by
  unfold withB
  rw [List.modify_eq_take_cons_drop h]
  simp [Bal.withC]
theorem take_with {xs : List Bal} {k : Nat} (h : k < xs.length) (e : Int) : (withB xs k e).take (k + 1) = xs.take k ++ [xs[k].withC e] := by
  rw [with_split h, List.take_left' (by simp; omega)]
theorem drop_with {xs : List Bal} {k : Nat} (h : k < xs.length) (e : Int) : (withB xs k e).drop (k + 1) = xs.drop (k + 1) := by
  rw [with_split h, List.drop_left' (by simp; omega)]
theorem try_step {xs : List Bal} {k : Nat} (h : k < xs.length) (e : Int) (f : List Bal → List Bal → Bool) :
    tryS e f (xs.take k) (xs.drop k) = ((xs[k].choice != e && f ((withB xs k e).take (k + 1)) ((withB xs k e).drop (k + 1))) || tryS e f (xs.take (k + 1)) (xs.drop (k + 1))) := by
  rw [List.drop_eq_getElem_cons h, tryS, take_with h, drop_with h, List.take_succ_eq_append_getElem h]

set_option maxRecDepth 100000 in
set_option maxHeartbeats 2000000 in
theorem turns_any (rule : Int) (tgt : Bool) (n : Nat) : ∀ (N : Int) (_ : N = n) (_ : n ≤ 10) (xs : List Bal) (_ : Fits xs) (fr : Nat) (F : Int) (_ : F = fr) (_ : fr ≤ xs.length) (A : Option Addr) (c : Nat) (w : World) (_ : Reads w w.heap.size 3 A xs.length (baC xs)),
    Calls Tryd.prog 49 #[.slice A xs.length c, .int .i64 rule, .int .i64 F, .int .i64 N, .bool tgt] w fun e w' => e = .returned (.bool (turnS rule tgt n (xs.take fr) (xs.drop fr))) ∧ Below w.heap.size w w' := by
  induction n with
  | zero =>
    intro N hN _ xs hf fr F hF hfr A c w hr
    have HT := Lib.hid (show turnS rule tgt 0 (xs.take fr) (xs.drop fr) = (carB xs rule == tgt) by rw [turnS, List.take_append_drop])
    have HR := Lib.hid hr; clear hr
    have HF := Lib.hid hf; clear hf
    obtain rfl : N = 0 := hN
    cases hq : carB xs rule <;> cases tgt
    all_goals
      have HQ := Lib.hid hq; clear hq
      go_enter Tryd.func49, Tryd.ntmps49
      go_wp2_with fail
      refine (specCar_any xs rule HF.out A c w HR.out).mono ?_; rw [HQ.out]; rintro e w' ⟨rfl, rfl⟩
      go_wp2_with fail
      go_ret
      exact ⟨ret_bool (by rw [HT.out, HQ.out]; rfl), Below.refl _ _⟩
  | succ n ih =>
    intro N hN hn xs hf fr F hF hfr A c w hr
    have IH := Lib.hid (fun N h => ih N h (by omega))
    clear ih
    have HT := Lib.hid (show turnS rule tgt (n + 1) (xs.take fr) (xs.drop fr) = ((carB xs rule == tgt) || tryS (extC tgt) (turnS rule tgt n) (xs.take fr) (xs.drop fr)) by rw [turnS, List.take_append_drop])
    have hm := hf.1
    have HR := Lib.hid hr; clear hr
    have HF := Lib.hid hf; clear hf
    have hN0 : (N == 0) = false := by simp; omega
    have hN1 : IntKind.i64.wrap (N - 1) = N - 1 := IntWalk.i64_in _ (by omega)
    have HN := Lib.hid hN; clear hN
    cases hq : carB xs rule <;> cases tgt
    all_goals have HQ := Lib.hid hq; clear hq
    all_goals try (
      go_enter Tryd.func49, Tryd.ntmps49
      go_wp2_with fail
      refine (specCar_any xs rule HF.out A c w HR.out).mono ?_; rw [HQ.out]; rintro e w' ⟨rfl, rfl⟩
      go_wp2_with fail
      go_ret
      exact ⟨ret_bool (by rw [HT.out, HQ.out]; rfl), Below.refl _ _⟩)
    · have HT2 := Lib.hid (show turnS rule true (n + 1) (xs.take fr) (xs.drop fr) = tryS 1 (turnS rule true n) (xs.take fr) (xs.drop fr) by rw [HT.out, HQ.out]; rfl)
      have HTS := Lib.hid (fun k (h : k < xs.length) => try_step h 1 (turnS rule true n))
      clear HT
      go_enter Tryd.func49, Tryd.ntmps49
      go_wp2_with fail
      refine (specCar_any xs rule HF.out A c w HR.out).mono ?_; rw [HQ.out]; rintro e w' ⟨rfl, rfl⟩
      go_wp2_with fail
      subst hF
      go_loopw [12] (fun v12 wr => ∃ k : Nat, fr ≤ k ∧ k ≤ xs.length ∧ Hid (turnS rule true (n + 1) (xs.take fr) (xs.drop fr) = tryS 1 (turnS rule true n) (xs.take k) (xs.drop k)) ∧ Hid (Below w.heap.size w wr) ∧ v12 = .int .i64 k) (fun i _ => xs.length - (intOf i).toNat)
      case atStart => exact ⟨fr, Nat.le_refl _, hfr, HT2.out, Below.refl _ _, rfl⟩
      case round =>
        obtain ⟨k, hk0, hk, HK, BW, rfl⟩ := hrel
        by_cases hlt : k < xs.length
        · have R := Lib.hid ((HR.out.below BW.out).more BW.out.size)
          obtain ⟨ab, ao, rfl, hadb, hcell⟩ := R.out.2 (by omega)
          have c1 := hcell _ _ (baC_get xs k hlt).2.1
          rw [← Nat.add_assoc] at c1
          have HS := Lib.hid (HTS.out k hlt)
          clear hcell
          generalize xs[k].choice = b at c1 HS
          have hk1 : IntKind.i64.wrap ((k : Int) + 1) = (k : Int) + 1 := IntWalk.i64_in _ (by omega)
          by_cases hc : b = 1
          · have hc1 : (b != 1) = false := by simp [hc]
            have HS2 := Lib.hid (HS.out.trans (by rw [hc1, Bool.false_and, Bool.false_or]))
            clear hc
            go_wp2_with fail
            go_roundw
            case rel => exact ⟨k + 1, by omega, by omega, HK.out.trans HS2.out, BW.out, by go_num⟩
            case measure => simp [intOf]; omega
          · have hc1 : (b != 1) = true := by simp [hc]
            have HS2 := Lib.hid (HS.out.trans (by rw [hc1, Bool.true_and]))
            clear hc
            cases ht : turnS rule true n ((withB xs k 1).take (k + 1)) ((withB xs k 1).drop (k + 1))
            all_goals
              have HX := Lib.hid ht; clear ht
              go_wp2_with fail
              refine (with_bal xs HF.out k hlt 1 (some ⟨ab, ao, none⟩) c wr R.out).mono ?_; rintro e w1 ⟨A2, c2, rfl, own2, b2⟩
              have B2 := Lib.hid (BW.out.trans (b2.mono BW.out.size))
              have DI := fun F hF N hN => IH.out N hN (withB xs k 1) (fits_with HF.out k 1) (k + 1) F hF (by rw [withB_len]; omega) A2 c2 w1
              rw [withB_len, HX.out] at DI
              have D2 := Lib.hid (fun F hF N hN => DI F hF N hN (Reads.of_own own2))
              clear DI own2 b2
              go_wp2_with fail
              with_reducible refine (D2.out _ (by omega) _ (by have := HN.out; omega)).mono ?_
              rintro e w2 ⟨rfl, b3⟩
              have B3 := Lib.hid (B2.out.trans (b3.mono B2.out.size)); clear b3
              go_wp2_with fail
            · go_roundw
              case rel => exact ⟨k + 1, by omega, by omega, HK.out.trans (HS2.out.trans (by rw [HX.out, Bool.false_or])), B3.out, by go_num⟩
              case measure => simp [intOf]; omega
            · go_ret
              exact ⟨ret_bool (HK.out.trans (HS2.out.trans (by rw [HX.out, Bool.true_or]))).symm, B3.out⟩
        · obtain rfl : k = xs.length := by omega
          go_wp2_with fail
          go_ret
          exact ⟨ret_bool (HK.out.trans (by rw [List.drop_length, tryS])).symm, BW.out⟩
    · have HT2 := Lib.hid (show turnS rule false (n + 1) (xs.take fr) (xs.drop fr) = tryS (-1) (turnS rule false n) (xs.take fr) (xs.drop fr) by rw [HT.out, HQ.out]; rfl)
      have HTS := Lib.hid (fun k (h : k < xs.length) => try_step h (-1) (turnS rule false n))
      clear HT
      go_enter Tryd.func49, Tryd.ntmps49
      go_wp2_with fail
      refine (specCar_any xs rule HF.out A c w HR.out).mono ?_; rw [HQ.out]; rintro e w' ⟨rfl, rfl⟩
      go_wp2_with fail
      subst hF
      go_loopw [12] (fun v12 wr => ∃ k : Nat, fr ≤ k ∧ k ≤ xs.length ∧ Hid (turnS rule false (n + 1) (xs.take fr) (xs.drop fr) = tryS (-1) (turnS rule false n) (xs.take k) (xs.drop k)) ∧ Hid (Below w.heap.size w wr) ∧ v12 = .int .i64 k) (fun i _ => xs.length - (intOf i).toNat)
      case atStart => exact ⟨fr, Nat.le_refl _, hfr, HT2.out, Below.refl _ _, rfl⟩
      case round =>
        obtain ⟨k, hk0, hk, HK, BW, rfl⟩ := hrel
        by_cases hlt : k < xs.length
        · have R := Lib.hid ((HR.out.below BW.out).more BW.out.size)
          obtain ⟨ab, ao, rfl, hadb, hcell⟩ := R.out.2 (by omega)
          have c1 := hcell _ _ (baC_get xs k hlt).2.1
          rw [← Nat.add_assoc] at c1
          have HS := Lib.hid (HTS.out k hlt)
          clear hcell
          generalize xs[k].choice = b at c1 HS
          have hk1 : IntKind.i64.wrap ((k : Int) + 1) = (k : Int) + 1 := IntWalk.i64_in _ (by omega)
          by_cases hc : b = (-1)
          · have hc1 : (b != (-1)) = false := by simp [hc]
            have HS2 := Lib.hid (HS.out.trans (by rw [hc1, Bool.false_and, Bool.false_or]))
            clear hc
            go_wp2_with fail
            go_roundw
            case rel => exact ⟨k + 1, by omega, by omega, HK.out.trans HS2.out, BW.out, by go_num⟩
            case measure => simp [intOf]; omega
          · have hc1 : (b != (-1)) = true := by simp [hc]
            have HS2 := Lib.hid (HS.out.trans (by rw [hc1, Bool.true_and]))
            clear hc
            cases ht : turnS rule false n ((withB xs k (-1)).take (k + 1)) ((withB xs k (-1)).drop (k + 1))
            all_goals
              have HX := Lib.hid ht; clear ht
              go_wp2_with fail
              refine (with_bal xs HF.out k hlt (-1) (some ⟨ab, ao, none⟩) c wr R.out).mono ?_; rintro e w1 ⟨A2, c2, rfl, own2, b2⟩
              have B2 := Lib.hid (BW.out.trans (b2.mono BW.out.size))
              have DI := fun F hF N hN => IH.out N hN (withB xs k (-1)) (fits_with HF.out k (-1)) (k + 1) F hF (by rw [withB_len]; omega) A2 c2 w1
              rw [withB_len, HX.out] at DI
              have D2 := Lib.hid (fun F hF N hN => DI F hF N hN (Reads.of_own own2))
              clear DI own2 b2
              go_wp2_with fail
              with_reducible refine (D2.out _ (by omega) _ (by have := HN.out; omega)).mono ?_
              rintro e w2 ⟨rfl, b3⟩
              have B3 := Lib.hid (B2.out.trans (b3.mono B2.out.size)); clear b3
              go_wp2_with fail
            · go_roundw
              case rel => exact ⟨k + 1, by omega, by omega, HK.out.trans (HS2.out.trans (by rw [HX.out, Bool.false_or])), B3.out, by go_num⟩
              case measure => simp [intOf]; omega
            · go_ret
              exact ⟨ret_bool (HK.out.trans (HS2.out.trans (by rw [HX.out, Bool.true_or]))).symm, B3.out⟩
        · obtain rfl : k = xs.length := by omega
          go_wp2_with fail
          go_ret
          exact ⟨ret_bool (HK.out.trans (by rw [List.drop_length, tryS])).symm, BW.out⟩

end Go.Proofs.YtihhpmhigmegjaaDoor
