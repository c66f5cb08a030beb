/- cmp.Compare over int and int64, cmp.Or over int, slices.Compare over int64. -/
import Derived.Test.YtihhpmhigmegjaaGreatDoorRows
import Derived.Test.YtihhpmhigmegjaaGreatDoorL0
import Derived.Test.YtihhpmhigmegjaaGreatDoorM0
import Derived.WalkKit
import Derived.ProofKit
import Derived.OpenShut
import Derived.BigQuiet
import Derived.Outline
import Derived.WalkSpells
import Derived.WalkLawsBesides
import Derived.Deep.DeepCutAuto
import Derived.Test.YtihhpmhigmegjaaGreatDoorI0
namespace Go.Proofs.YtihhpmhigmegjaaGreatDoor
open Go.ChangeShapes Go.WideShapes Go.ChangeAt Go.RowKit

def cmpI (a b : Int) : Int := if a < b then -1 else if b < a then 1 else 0
theorem cmpI_bd (a b : Int) : -1 ≤ cmpI a b ∧ cmpI a b ≤ 1 := by unfold cmpI; split; omega; split <;> omega
set_option maxRecDepth 100000 in
theorem compare64_any (a b : Int) (w : World) : Calls Tryz.prog 137 #[.int .i64 a, .int .i64 b] w fun e w' => e = .returned (.int .i64 (cmpI a b)) ∧ w = w' := by
  have nan : ∀ x w, Calls Tryz.prog 170 #[.int .i64 x] w fun e w' => e = .returned (.bool false) ∧ w = w' := by
    intro x w
    go_enter Tryz.func170, Tryz.ntmps170
    go_wp2_with fail
    go_ret
    exact ⟨rfl, rfl⟩
  have HN := Lib.hid nan; clear nan
  have HC := Lib.hid (show cmpI a b = (if a < b then -1 else if b < a then 1 else 0) from rfl)
  generalize cmpI a b = r at HC
  by_cases h1 : a < b
  · have HC2 := Lib.hid (HC.out.trans (by rw [if_pos h1]))
    go_enter Tryz.func137, Tryz.ntmps137
    go_wp2_with (go_at_call 170; refine (HN.out _ _).mono ?_; rintro e w' ⟨rfl, rfl⟩)
    go_ret
    exact ⟨ret_int HC2.out.symm, rfl⟩
  · by_cases h2 : b < a
    · have HC2 := Lib.hid (HC.out.trans (by rw [if_neg h1, if_pos h2]))
      go_enter Tryz.func137, Tryz.ntmps137
      go_wp2_with (go_at_call 170; refine (HN.out _ _).mono ?_; rintro e w' ⟨rfl, rfl⟩)
      go_ret
      exact ⟨ret_int HC2.out.symm, rfl⟩
    · have HC2 := Lib.hid (HC.out.trans (by rw [if_neg h1, if_neg h2]))
      go_enter Tryz.func137, Tryz.ntmps137
      go_wp2_with (go_at_call 170; refine (HN.out _ _).mono ?_; rintro e w' ⟨rfl, rfl⟩)
      go_ret
      exact ⟨ret_int HC2.out.symm, rfl⟩
/-- The first number that is not 0. -/
def orI : List Int → Int
  | [] => 0
  | x :: r => if x = 0 then orI r else x
set_option maxRecDepth 100000 in
theorem or_any (L : List Int) (hm : L.length ≤ 9223372036854775807) (A : Option Addr) (c : Nat) (w : World) (hr : Reads w w.heap.size 1 A L.length (inC L)) :
    Calls Tryz.prog 136 #[.slice A L.length c] w fun e w' => e = .returned (.int .i64 (orI L)) ∧ w = w' := by
  have HR := Lib.hid hr; clear hr
  go_enter Tryz.func136, Tryz.ntmps136
  go_wp2_with fail
  go_loop [8] (fun v8 => ∃ k : Nat, k ≤ L.length ∧ Hid (orI L = orI (L.drop k)) ∧ v8 = .int .i64 k) (fun i => L.length - (intOf i).toNat)
  case atStart => exact ⟨0, by omega, rfl, rfl⟩
  case round =>
    obtain ⟨k, hk, HK, rfl⟩ := hrel
    by_cases hlt : k < L.length
    · obtain ⟨ab, ao, rfl, hadb, hcell⟩ := HR.out.2 (by omega)
      have c0 := hcell _ _ (inC_get L k hlt)
      clear hcell
      have HD := Lib.hid (show orI (L.drop k) = if L[k] = 0 then orI (L.drop (k + 1)) else L[k] by rw [List.drop_eq_getElem_cons hlt]; rfl)
      generalize L[k] = a at c0 HD
      by_cases he : a = 0
      · rw [if_pos he] at HD
        have hc : (a != 0) = false := by simpa using he
        clear he
        go_wp2_with fail
        go_round
        case rel => exact ⟨k + 1, by omega, HK.out.trans HD.out, by go_num⟩
        case measure => simp [intOf]; omega
      · rw [if_neg he] at HD
        have hc : (a != 0) = true := by simpa using he
        clear he
        go_wp2_with fail
        go_ret
        exact ⟨ret_int (HK.out.trans HD.out).symm, rfl⟩
    · obtain rfl : k = L.length := by omega
      have HX := Lib.hid (show orI L = 0 by rw [HK.out, List.drop_length]; rfl)
      go_wp2_with fail
      go_ret
      exact ⟨ret_int HX.out.symm, rfl⟩
end Go.Proofs.YtihhpmhigmegjaaGreatDoor
