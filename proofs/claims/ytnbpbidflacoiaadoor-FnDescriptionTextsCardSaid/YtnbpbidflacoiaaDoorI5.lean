/- slices.Index and slices.Contains over strings. -/
import Derived.Test.YtnbpbidflacoiaaDoorRows
import Derived.Test.YtnbpbidflacoiaaDoorL0
import Derived.Test.YtnbpbidflacoiaaDoorM0
import Derived.WalkKit
import Derived.ProofKit
import Derived.OpenShut
import Derived.BigQuiet
import Derived.Outline
import Derived.WalkSpells
import Derived.WalkLawsBesides
import Derived.Deep.DeepCutAuto
import Derived.Test.YtnbpbidflacoiaaDoorI6
namespace Go.Proofs.YtnbpbidflacoiaaDoor
open Go.ChangeShapes Go.WideShapes Go.ChangeAt Go.RowKit

set_option maxRecDepth 100000 in
theorem indexS_any (L : List ByteArray) (x : ByteArray) (hm : L.length ≤ 9223372036854775807) (A : Option Addr) (c : Nat) (w : World) (hr : Reads w w.heap.size 1 A L.length (txC L)) :
    Calls Tryd.prog 77 #[.slice A L.length c, .string x] w fun e w' => e = .returned (.int .i64 (ixS x L)) ∧ w = w' := by
  have HR := Lib.hid hr; clear hr
  have H0 := Lib.hid (ixT_zero x L)
  go_enter Tryd.func77, Tryd.ntmps77
  go_wp2_with fail
  go_loop [8] (fun v8 => ∃ k : Nat, k ≤ L.length ∧ Hid (ixS x L = ixT x L k) ∧ v8 = .int .i64 k) (fun i => L.length - (intOf i).toNat)
  case atStart => exact ⟨0, by omega, H0.out.symm, rfl⟩
  case round =>
    obtain ⟨k, hk, HK, rfl⟩ := hrel
    by_cases hlt : k < L.length
    · obtain ⟨ab, ao, rfl, hadb, hcell⟩ := HR.out.2 (by omega)
      have c0 := hcell _ _ (txC_get L k hlt)
      clear hcell
      by_cases he : x = L[k]
      · have HX := Lib.hid (HK.out.trans (ixT_hit hlt he))
        have hc := str_eq x L[k]
        rw [decide_eq_true he] at hc
        clear he
        generalize L[k] = a at c0 hc
        go_wp2_with fail
        go_ret
        exact ⟨ret_int HX.out.symm, rfl⟩
      · have HX := Lib.hid (HK.out.trans (ixT_miss hlt he))
        have hc := str_eq x L[k]
        rw [decide_eq_false he] at hc
        clear he
        generalize L[k] = a at c0 hc
        go_wp2_with fail
        go_round
        case rel => exact ⟨k + 1, by omega, HX.out, by go_num⟩
        case measure => simp [intOf]; omega
    · obtain rfl : k = L.length := by omega
      have HX := Lib.hid (HK.out.trans ixT_end)
      go_wp2_with fail
      go_ret
      exact ⟨ret_int HX.out.symm, rfl⟩
theorem containsS_any (L : List ByteArray) (x : ByteArray) (hm : L.length ≤ 9223372036854775807) (A : Option Addr) (c : Nat) (w : World) (hr : Reads w w.heap.size 1 A L.length (txC L)) :
    Calls Tryd.prog 47 #[.slice A L.length c, .string x] w fun e w' => e = .returned (.bool (decide (0 ≤ ixS x L))) ∧ w = w' := by
  have HC := Lib.hid (indexS_any L x hm A c w hr)
  generalize ixS x L = i at HC ⊢
  go_enter Tryd.func47, Tryd.ntmps47
  go_wp2_with fail
  refine HC.out.mono ?_; rintro e w' ⟨rfl, rfl⟩
  go_wp2_with fail
  go_ret
  exact ⟨rfl, rfl⟩
end Go.Proofs.YtnbpbidflacoiaaDoor
