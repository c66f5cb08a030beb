/- Codes of places, of the reference: l26Word, l28Direction, l28Code. -/
import Derived.Test.YtnbpbidflacoiaaDoorRows
import Derived.Test.YtnbpbidflacoiaaDoorL0
import Derived.Test.YtnbpbidflacoiaaDoorM0
import Derived.WalkKit
import Derived.ProofKit
import Derived.OpenShut
import Derived.BigQuiet
import Derived.Outline
import Derived.WalkSpells
import Derived.WalkLawsBesides
import Derived.Deep.DeepCutAuto
import Derived.Test.YtnbpbidflacoiaaDoorW2
import Derived.Test.YtnbpbidflacoiaaDoorI6
import Derived.Lib.Hide
namespace Go.Proofs.YtnbpbidflacoiaaDoor
open Go.ChangeShapes Go.WideShapes Go.ChangeAt Go.RowKit

/-- The words of the directions. -/
def dirsL : List ByteArray := [⟨#[110, 111, 114, 116, 104]⟩, ⟨#[110, 111, 114, 116, 104, 101, 97, 115, 116]⟩, ⟨#[101, 97, 115, 116]⟩, ⟨#[115, 111, 117, 116, 104, 101, 97, 115, 116]⟩, ⟨#[115, 111, 117, 116, 104]⟩, ⟨#[115, 111, 117, 116, 104, 119, 101, 115, 116]⟩, ⟨#[119, 101, 115, 116]⟩, ⟨#[110, 111, 114, 116, 104, 119, 101, 115, 116]⟩]
theorem dirs_len : dirsL.length = 8 := rfl
/-- The words of descriptions. -/
def ownW : List ByteArray := [⟨#[97, 116]⟩, ⟨#[110, 101, 97, 114]⟩, ⟨#[111, 102]⟩, ⟨#[98, 101, 116, 119, 101, 101, 110]⟩, ⟨#[97, 110, 100]⟩, ⟨#[109, 105, 108, 101]⟩, ⟨#[109, 105, 108, 101, 115]⟩, ⟨#[108, 101, 97, 103, 117, 101]⟩, ⟨#[108, 101, 97, 103, 117, 101, 115]⟩]
def codeW (s : ByteArray) : Bool := !(decide (0 ≤ ixS s ownW)) && (wordB s && !(decide (0 ≤ ixS s dirsL)))
theorem word_any (k : Nat) (hk : k < 8) (w : World) :
    Calls Tryd.prog 80 #[.int .i64 k] w fun e w' => e = .returned (.string (dirsL[k]'(by rw [dirs_len]; exact hk))) ∧ Below w.heap.size w w' := by
  have hk8 : k = 0 ∨ k = 1 ∨ k = 2 ∨ k = 3 ∨ k = 4 ∨ k = 5 ∨ k = 6 ∨ k = 7 := by omega
  rcases hk8 with rfl | rfl | rfl | rfl | rfl | rfl | rfl | rfl
  all_goals
    go_enter Tryd.func80, Tryd.ntmps80
    go_wp2
    go_ret
    exact ⟨rfl, by (repeat (first | exact Below.refl _ _ | assumption | refine Below.drew ?_ | refine below_drewN' ?_ _ | refine Below.alloc ?_ (by (try simp); (try omega)) _ | refine Below.setCell ?_ (by (try simp); (try omega)) _))⟩
set_option maxRecDepth 100000 in
theorem direction_any (s : ByteArray) (hs : s.size ≤ 9223372036854775807) (w : World) :
    Calls Tryd.prog 67 #[.string s] w fun e w' => e = .returned (.int .i64 (ixS s dirsL)) ∧ Below w.heap.size w w' := by
  have H0 := Lib.hid (ixT_zero s dirsL)
  go_enter Tryd.func67, Tryd.ntmps67
  go_wp2_with fail
  go_loopw [3] (fun v3 wr => ∃ k : Nat, k ≤ 8 ∧ Hid (ixS s dirsL = ixT s dirsL k) ∧ Hid (Below w.heap.size w wr) ∧ v3 = .int .i64 k) (fun i _ => 8 - (intOf i).toNat)
  case atStart => exact ⟨0, by omega, H0.out.symm, Below.refl _ _, rfl⟩
  case round =>
    obtain ⟨k, hk, HK, BW, rfl⟩ := hrel
    by_cases hlt : k < 8
    · have hlt' : k < dirsL.length := hlt
      have WK := Lib.hid (word_any k hlt)
      have HF := Lib.hid (fun h => ixT_hit (x := s) hlt' h)
      have HN := Lib.hid (fun h => ixT_miss (x := s) hlt' h)
      generalize dirsL[k] = u at WK HF HN
      go_wp2_with fail
      refine (WK.out wr).mono ?_; rintro e w1 ⟨rfl, b1⟩
      have B1 := Lib.hid (BW.out.trans (b1.mono BW.out.size)); clear b1
      have e := str_eq u s
      by_cases hu : u = s
      · have HD := Lib.hid (HK.out.trans (HF.out hu.symm))
        rw [decide_eq_true hu] at e
        clear hu
        go_wp2_with fail
        go_ret
        exact ⟨ret_int HD.out.symm, B1.out⟩
      · have HD := Lib.hid (HK.out.trans (HN.out (fun h => hu h.symm)))
        rw [decide_eq_false hu] at e
        clear hu
        go_wp2_with fail
        go_roundw
        case rel => exact ⟨k + 1, by omega, HD.out, B1.out, by go_num⟩
        case measure => simp [intOf]; omega
    · obtain rfl : k = 8 := by omega
      have HX := Lib.hid (HK.out.trans (ixT_end (x := s) (L := dirsL)))
      go_wp2_with fail
      go_ret
      exact ⟨ret_int HX.out.symm, BW.out⟩
theorem code_own {s : ByteArray} (h : s ∈ ownW) : codeW s = false := by simp [codeW, (ixS_mem s ownW).2 h]
theorem code_not {s : ByteArray} (h : s ∉ ownW) : codeW s = (wordB s && !(decide (0 ≤ ixS s dirsL))) := by
  rw [codeW, decide_eq_false (fun h1 => h ((ixS_mem s ownW).1 h1))]; rfl
theorem nine : ∀ (b0 b1 b2 b3 b4 b5 b6 b7 b8 : Bool), (b0 = true) ∨ (b0 = false ∧ b1 = true) ∨ (b0 = false ∧ b1 = false ∧ b2 = true) ∨ (b0 = false ∧ b1 = false ∧ b2 = false ∧ b3 = true) ∨ (b0 = false ∧ b1 = false ∧ b2 = false ∧ b3 = false ∧ b4 = true) ∨ (b0 = false ∧ b1 = false ∧ b2 = false ∧ b3 = false ∧ b4 = false ∧ b5 = true) ∨ (b0 = false ∧ b1 = false ∧ b2 = false ∧ b3 = false ∧ b4 = false ∧ b5 = false ∧ b6 = true) ∨ (b0 = false ∧ b1 = false ∧ b2 = false ∧ b3 = false ∧ b4 = false ∧ b5 = false ∧ b6 = false ∧ b7 = true) ∨ (b0 = false ∧ b1 = false ∧ b2 = false ∧ b3 = false ∧ b4 = false ∧ b5 = false ∧ b6 = false ∧ b7 = false ∧ b8 = true) ∨ (b0 = false ∧ b1 = false ∧ b2 = false ∧ b3 = false ∧ b4 = false ∧ b5 = false ∧ b6 = false ∧ b7 = false ∧ b8 = false) := by
  intro b0 b1 b2 b3 b4 b5 b6 b7 b8
  cases b0 <;> simp
  cases b1 <;> simp
  cases b2 <;> simp
  cases b3 <;> simp
  cases b4 <;> simp
  cases b5 <;> simp
  cases b6 <;> simp
  cases b7 <;> simp
set_option maxRecDepth 100000 in
set_option maxHeartbeats 1000000 in
theorem specCodeW_any (s : ByteArray) (hs : s.size ≤ 9223372036854775807) (w : World) :
    Calls Tryd.prog 46 #[.string s] w fun e w' => e = .returned (.bool (codeW s)) ∧ Below w.heap.size w w' := by
  have HWd := Lib.hid (specWord_any s w hs)
  have HDr := Lib.hid (direction_any s hs w)
  have HO := Lib.hid (fun h => code_own (s := s) h)
  have HNo := Lib.hid (fun h => code_not (s := s) h)
  generalize codeW s = cw at HO HNo
  generalize ixS s dirsL = ix at HNo HDr
  have e0 := str_lit s [97, 116]
  have e1 := str_lit s [110, 101, 97, 114]
  have e2 := str_lit s [111, 102]
  have e3 := str_lit s [98, 101, 116, 119, 101, 101, 110]
  have e4 := str_lit s [97, 110, 100]
  have e5 := str_lit s [109, 105, 108, 101]
  have e6 := str_lit s [109, 105, 108, 101, 115]
  have e7 := str_lit s [108, 101, 97, 103, 117, 101]
  have e8 := str_lit s [108, 101, 97, 103, 117, 101, 115]
  have HMO := Lib.hid (show s ∈ ownW ↔ (s.toList == [97, 116]) = true ∨ (s.toList == [110, 101, 97, 114]) = true ∨ (s.toList == [111, 102]) = true ∨ (s.toList == [98, 101, 116, 119, 101, 101, 110]) = true ∨ (s.toList == [97, 110, 100]) = true ∨ (s.toList == [109, 105, 108, 101]) = true ∨ (s.toList == [109, 105, 108, 101, 115]) = true ∨ (s.toList == [108, 101, 97, 103, 117, 101]) = true ∨ (s.toList == [108, 101, 97, 103, 117, 101, 115]) = true by
    rw [e0, e1, e2, e3, e4, e5, e6, e7, e8]; simp only [ownW, List.mem_cons, List.not_mem_nil, or_false, decide_eq_true_eq])
  clear e0 e1 e2 e3 e4 e5 e6 e7 e8
  rcases nine (s.toList == [97, 116]) (s.toList == [110, 101, 97, 114]) (s.toList == [111, 102]) (s.toList == [98, 101, 116, 119, 101, 101, 110]) (s.toList == [97, 110, 100]) (s.toList == [109, 105, 108, 101]) (s.toList == [109, 105, 108, 101, 115]) (s.toList == [108, 101, 97, 103, 117, 101]) (s.toList == [108, 101, 97, 103, 117, 101, 115]) with h0 | ⟨h0, h1⟩ | ⟨h0, h1, h2⟩ | ⟨h0, h1, h2, h3⟩ | ⟨h0, h1, h2, h3, h4⟩ | ⟨h0, h1, h2, h3, h4, h5⟩ | ⟨h0, h1, h2, h3, h4, h5, h6⟩ | ⟨h0, h1, h2, h3, h4, h5, h6, h7⟩ | ⟨h0, h1, h2, h3, h4, h5, h6, h7, h8⟩ | ⟨h0, h1, h2, h3, h4, h5, h6, h7, h8⟩
  · have HX := Lib.hid (HO.out (HMO.out.2 (.inl h0)))
    go_enter Tryd.func46, Tryd.ntmps46
    go_wp2_with fail
    go_ret
    exact ⟨ret_bool HX.out.symm, Below.refl _ _⟩
  · have HX := Lib.hid (HO.out (HMO.out.2 (.inr (.inl h1))))
    go_enter Tryd.func46, Tryd.ntmps46
    go_wp2_with fail
    go_ret
    exact ⟨ret_bool HX.out.symm, Below.refl _ _⟩
  · have HX := Lib.hid (HO.out (HMO.out.2 (.inr (.inr (.inl h2)))))
    go_enter Tryd.func46, Tryd.ntmps46
    go_wp2_with fail
    go_ret
    exact ⟨ret_bool HX.out.symm, Below.refl _ _⟩
  · have HX := Lib.hid (HO.out (HMO.out.2 (.inr (.inr (.inr (.inl h3))))))
    go_enter Tryd.func46, Tryd.ntmps46
    go_wp2_with fail
    go_ret
    exact ⟨ret_bool HX.out.symm, Below.refl _ _⟩
  · have HX := Lib.hid (HO.out (HMO.out.2 (.inr (.inr (.inr (.inr (.inl h4)))))))
    go_enter Tryd.func46, Tryd.ntmps46
    go_wp2_with fail
    go_ret
    exact ⟨ret_bool HX.out.symm, Below.refl _ _⟩
  · have HX := Lib.hid (HO.out (HMO.out.2 (.inr (.inr (.inr (.inr (.inr (.inl h5))))))))
    go_enter Tryd.func46, Tryd.ntmps46
    go_wp2_with fail
    go_ret
    exact ⟨ret_bool HX.out.symm, Below.refl _ _⟩
  · have HX := Lib.hid (HO.out (HMO.out.2 (.inr (.inr (.inr (.inr (.inr (.inr (.inl h6)))))))))
    go_enter Tryd.func46, Tryd.ntmps46
    go_wp2_with fail
    go_ret
    exact ⟨ret_bool HX.out.symm, Below.refl _ _⟩
  · have HX := Lib.hid (HO.out (HMO.out.2 (.inr (.inr (.inr (.inr (.inr (.inr (.inr (.inl h7))))))))))
    go_enter Tryd.func46, Tryd.ntmps46
    go_wp2_with fail
    go_ret
    exact ⟨ret_bool HX.out.symm, Below.refl _ _⟩
  · have HX := Lib.hid (HO.out (HMO.out.2 (.inr (.inr (.inr (.inr (.inr (.inr (.inr (.inr (h8)))))))))))
    go_enter Tryd.func46, Tryd.ntmps46
    go_wp2_with fail
    go_ret
    exact ⟨ret_bool HX.out.symm, Below.refl _ _⟩
  · have HX := Lib.hid (HNo.out (fun hm => by have := HMO.out.1 hm; simp only [h0, h1, h2, h3, h4, h5, h6, h7, h8, Bool.false_eq_true, or_self] at this))
    cases hw : wordB s
    all_goals
      have HW := Lib.hid hw; clear hw
      rw [HW.out] at HX HWd
      by_cases hi : ix < 0
    all_goals
      go_enter Tryd.func46, Tryd.ntmps46
      go_wp2_with fail
      refine HWd.out.mono ?_; rintro e w' ⟨rfl, rfl⟩
      go_wp2_with fail
    · go_ret
      exact ⟨ret_bool (by rw [HX.out]; rfl), Below.refl _ _⟩
    · go_ret
      exact ⟨ret_bool (by rw [HX.out]; rfl), Below.refl _ _⟩
    · refine HDr.out.mono ?_; rintro e w1 ⟨rfl, b1⟩
      go_wp2_with fail
      go_ret
      exact ⟨ret_bool (by rw [HX.out]; simp [hi]), b1⟩
    · refine HDr.out.mono ?_; rintro e w1 ⟨rfl, b1⟩
      go_wp2_with fail
      go_ret
      exact ⟨ret_bool (by rw [HX.out]; simp [hi]), b1⟩
end Go.Proofs.YtnbpbidflacoiaaDoor
