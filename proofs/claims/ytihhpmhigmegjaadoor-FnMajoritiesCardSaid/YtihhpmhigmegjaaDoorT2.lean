/- isPivotal of the program. -/
import Derived.Test.YtihhpmhigmegjaaDoorRows
import Derived.Test.YtihhpmhigmegjaaDoorL0
import Derived.Test.YtihhpmhigmegjaaDoorM0
import Derived.WalkKit
import Derived.ProofKit
import Derived.OpenShut
import Derived.BigQuiet
import Derived.Outline
import Derived.WalkSpells
import Derived.WalkLawsBesides
import Derived.Deep.DeepCutAuto
import Derived.Test.YtihhpmhigmegjaaDoorT1
namespace Go.Proofs.YtihhpmhigmegjaaDoor
open Go.ChangeShapes Go.WideShapes Go.ChangeAt Go.RowKit

/-- Whether the ballot i can change the outcome. -/
def pivB (xs : List Bal) (rule : Int) (i : Nat) : Bool := (carB (withB xs i 1) rule != carB xs rule) || (carB (withB xs i (-1)) rule != carB xs rule) || (carB (withB xs i 0) rule != carB xs rule)
theorem piv_of {xs : List Bal} {rule : Int} {i : Nat} {ch : Int} (h1 : -1 ≤ ch) (h2 : ch ≤ 1) (h : (carB (withB xs i ch) rule != carB xs rule) = true) : pivB xs rule i = true := by
  unfold pivB
  rcases (by omega : ch = -1 ∨ ch = 0 ∨ ch = 1) with rfl | rfl | rfl <;> simp [h]
theorem piv_not {xs : List Bal} {rule : Int} {i : Nat} (h : ∀ ch : Int, -1 ≤ ch → ch < 2 → (carB (withB xs i ch) rule != carB xs rule) = false) : pivB xs rule i = false := by
  unfold pivB
  rw [h 1 (by omega) (by omega), h (-1) (by omega) (by omega), h 0 (by omega) (by omega)]
  rfl

set_option maxRecDepth 100000 in
theorem piv_any (xs : List Bal) (rule : Int) (i : Nat) (hi : i < xs.length) (hf : Fits xs) (A : Option Addr) (c : Nat) (w : World) (hr : Reads w w.heap.size 3 A xs.length (baC xs)) :
    Calls Tryd.prog 50 #[.slice A xs.length c, .int .i64 i, .int .i64 rule] w fun e w' => e = .returned (.bool (pivB xs rule i)) ∧ Below w.heap.size w w' := by
  have hm := hf.1
  obtain ⟨ab, ao, rfl, _, _⟩ := hr.2 (by omega)
  have HR := Lib.hid hr; clear hr
  have HF := Lib.hid hf; clear hf
  go_enter Tryd.func50, Tryd.ntmps50
  go_wp2_with fail
  refine (clone_bal (some ⟨ab, ao, none⟩) xs.length c (baC xs) w HR.out (baC_one xs) (by omega) (fun h => by cases h)).mono ?_; rintro e w1 ⟨v, rfl, hown, b1⟩
  obtain ⟨g, cap, rfl, hbg, hgl⟩ := hown.form (by omega)
  have HO := Lib.hid hown; have B1 := Lib.hid b1; clear hown b1
  go_wp2_with fail
  go_loopw [8] (fun v8 wr => ∃ (ch : Int) (ys : List Bal), -1 ≤ ch ∧ ch ≤ 2 ∧ ys.length = xs.length ∧ Hid (∀ a, withB ys i a = withB xs i a) ∧ Hid (wr.ownsRow w.heap.size 32 3 (.slice (some ⟨g, 0, none⟩) xs.length cap) xs.length (baC ys)) ∧ Hid (Below w.heap.size w wr) ∧ Hid (∀ a : Int, -1 ≤ a → a < ch → (carB (withB xs i a) rule != carB xs rule) = false) ∧ v8 = .int .i64 ch) (fun v _ => (2 - intOf v).toNat)
  case atStart => exact ⟨-1, xs, by omega, by omega, rfl, fun _ => rfl, HO.out, B1.out, fun a h1 h2 => by omega, rfl⟩
  case round =>
    obtain ⟨ch, ys, h1, h2, hl, HY, HW, BW, HA, rfl⟩ := hrel
    by_cases hlt : ch ≤ 1
    · have q0 := HW.out.cellAt (i * 3 + 1) (by omega)
      rw [List.getElem?_eq_getElem (by rw [baC_len]; omega)] at q0
      have f0 := HW.out.frozenAt (i * 3 + 1)
      have s1 := HW.out.stored (i * 3 + 1) (.int .i64 ch)
      rw [← baC_with ys i ch (by omega), HY.out] at s1
      have HS := Lib.hid s1.1
      generalize (baC ys)[i * 3 + 1]'(by rw [baC_len]; omega) = u0 at q0
      clear s1
      go_wp2_with fail
      have BS := Lib.hid (BW.out.setCell (p := ⟨g, i * 3 + 1, none⟩) hbg (.int .i64 ch))
      generalize wr.setCell ⟨g, i * 3 + 1, none⟩ (.int .i64 ch) = W0 at HS BS
      have HF2 := Lib.hid (fits_with HF.out i ch)
      have hl2 := withB_len xs i ch
      cases hb1 : carB (withB xs i ch) rule <;> cases hb2 : carB xs rule
      all_goals
        have HQ := Lib.hid (show (carB (withB xs i ch) rule != carB xs rule) = _ by rw [hb1, hb2])
        have HB1 := Lib.hid hb1; have HB2 := Lib.hid hb2
        clear hb1 hb2
        have R0 := Reads.of_own HS.out
        have C0 := implCar_any (withB xs i ch) rule HF2.out (some ⟨g, 0, none⟩) cap W0
        rw [hl2, HB1.out] at C0
        refine (C0 R0).mono ?_; rintro e w2 ⟨rfl, b2⟩
        have B2 := Lib.hid (BS.out.trans (b2.mono BS.out.size)); have HS2 := Lib.hid (own_below HS.out b2)
        clear b2 R0 C0
        go_wp2_with fail
        refine (implCar_any xs rule HF.out (some ⟨ab, ao, none⟩) c w2 ((HR.out.below B2.out).more B2.out.size)).mono ?_; rw [HB2.out]; rintro e w3 ⟨rfl, b3⟩
        have B3 := Lib.hid (B2.out.trans (b3.mono B2.out.size)); have HS3 := Lib.hid (own_below HS2.out b3)
        clear b3
        go_wp2_with fail
      · go_roundw
        case rel => exact ⟨ch + 1, withB xs i ch, by omega, by omega, hl2, fun a => withB_twice xs i ch a, HS3.out, B3.out, fun a ha hb => by
            by_cases hac : a = ch
            · subst hac; exact HQ.out
            · exact HA.out a ha (by omega), by go_num⟩
        case measure => simp [intOf]; omega
      · have HE := Lib.hid (piv_of h1 hlt HQ.out)
        go_ret
        exact ⟨ret_bool HE.out.symm, B3.out⟩
      · have HE := Lib.hid (piv_of h1 hlt HQ.out)
        go_ret
        exact ⟨ret_bool HE.out.symm, B3.out⟩
      · go_roundw
        case rel => exact ⟨ch + 1, withB xs i ch, by omega, by omega, hl2, fun a => withB_twice xs i ch a, HS3.out, B3.out, fun a ha hb => by
            by_cases hac : a = ch
            · subst hac; exact HQ.out
            · exact HA.out a ha (by omega), by go_num⟩
        case measure => simp [intOf]; omega
    · obtain rfl : ch = 2 := by omega
      have HE := Lib.hid (piv_not HA.out)
      go_wp2_with fail
      go_ret
      exact ⟨ret_bool HE.out.symm, BW.out⟩
end Go.Proofs.YtihhpmhigmegjaaDoor
