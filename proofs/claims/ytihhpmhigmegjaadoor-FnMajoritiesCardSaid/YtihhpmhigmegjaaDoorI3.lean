/- slices.Compare over int64. -/
import Derived.Test.YtihhpmhigmegjaaDoorRows
import Derived.Test.YtihhpmhigmegjaaDoorL0
import Derived.Test.YtihhpmhigmegjaaDoorM0
import Derived.WalkKit
import Derived.ProofKit
import Derived.OpenShut
import Derived.BigQuiet
import Derived.Outline
import Derived.WalkSpells
import Derived.WalkLawsBesides
import Derived.Deep.DeepCutAuto
import Derived.Test.YtihhpmhigmegjaaDoorI2
namespace Go.Proofs.YtihhpmhigmegjaaDoor
open Go.ChangeShapes Go.WideShapes Go.ChangeAt Go.RowKit
def cmpL : List Int → List Int → Int
  | [], [] => 0
  | [], _ :: _ => -1
  | _ :: _, [] => 1
  | a :: I, b :: J => if cmpI a b = 0 then cmpL I J else cmpI a b
set_option maxRecDepth 100000 in
theorem compareL_any (I J : List Int) (hI : I.length ≤ 9223372036854775807) (hJ : J.length ≤ 9223372036854775807) (A A' : Option Addr) (c c' : Nat) (w : World) (hr : Reads w w.heap.size 1 A I.length (inC I)) (hr' : Reads w w.heap.size 1 A' J.length (inC J)) :
    Calls Tryd.prog 55 #[.slice A I.length c, .slice A' J.length c'] w fun e w' => e = .returned (.int .i64 (cmpL I J)) ∧ w = w' := by
  have HR := Lib.hid hr; clear hr
  have HR' := Lib.hid hr'; clear hr'
  go_enter Tryd.func55, Tryd.ntmps55
  go_wp2_with fail
  go_loop [11] (fun v11 => ∃ k : Nat, k ≤ I.length ∧ k ≤ J.length ∧ Hid (cmpL I J = cmpL (I.drop k) (J.drop k)) ∧ v11 = .int .i64 k) (fun i => I.length - (intOf i).toNat)
  case atStart => exact ⟨0, by omega, by omega, rfl, rfl⟩
  case round =>
    obtain ⟨k, hk, hk', HK, rfl⟩ := hrel
    by_cases hlt : k < I.length
    · obtain ⟨ab, ao, rfl, hadb, hcell⟩ := HR.out.2 (by omega)
      have c0 := hcell _ _ (inC_get I k hlt)
      clear hcell
      by_cases hlt' : k < J.length
      · obtain ⟨ab', ao', rfl, hadb', hcell'⟩ := HR'.out.2 (by omega)
        have c1 := hcell' _ _ (inC_get J k hlt')
        clear hcell'
        have HD := Lib.hid (show cmpL (I.drop k) (J.drop k) = if cmpI I[k] J[k] = 0 then cmpL (I.drop (k + 1)) (J.drop (k + 1)) else cmpI I[k] J[k] by rw [List.drop_eq_getElem_cons hlt, List.drop_eq_getElem_cons hlt']; rfl)
        generalize I[k] = a at c0 HD
        generalize J[k] = b at c1 HD
        have HC := Lib.hid (compare64_any a b w)
        generalize cmpI a b = r at HC HD
        by_cases he : r = 0
        · rw [if_pos he] at HD
          have hc : (r != 0) = false := by simpa using he
          clear he
          go_wp2_with fail
          refine HC.out.mono ?_; rintro e w' ⟨rfl, rfl⟩
          go_wp2_with fail
          go_round
          case rel => exact ⟨k + 1, by omega, by omega, HK.out.trans HD.out, by go_num⟩
          case measure => simp [intOf]; omega
        · rw [if_neg he] at HD
          have hc : (r != 0) = true := by simpa using he
          clear he
          go_wp2_with fail
          refine HC.out.mono ?_; rintro e w' ⟨rfl, rfl⟩
          go_wp2_with fail
          go_ret
          exact ⟨ret_int (HK.out.trans HD.out).symm, rfl⟩
      · obtain rfl : k = J.length := by omega
        have HX := Lib.hid (show cmpL I J = 1 by rw [HK.out, List.drop_eq_getElem_cons hlt, List.drop_length]; rfl)
        generalize I[J.length] = a at c0
        go_wp2_with fail
        go_ret
        exact ⟨ret_int HX.out.symm, rfl⟩
    · obtain rfl : k = I.length := by omega
      by_cases hlt' : I.length < J.length
      · have HX := Lib.hid (show cmpL I J = -1 by rw [HK.out, List.drop_length, List.drop_eq_getElem_cons hlt']; rfl)
        go_wp2_with fail
        go_ret
        exact ⟨ret_int HX.out.symm, rfl⟩
      · have HX := Lib.hid (show cmpL I J = 0 by rw [HK.out, List.drop_length, List.drop_eq_nil_of_le (by omega)]; rfl)
        go_wp2_with fail
        go_ret
        exact ⟨ret_int HX.out.symm, rfl⟩
end Go.Proofs.YtihhpmhigmegjaaDoor
