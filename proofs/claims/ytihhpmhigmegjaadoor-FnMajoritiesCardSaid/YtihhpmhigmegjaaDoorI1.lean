/- slices.Index and slices.Contains over int64. -/
import Derived.Test.YtihhpmhigmegjaaDoorRows
import Derived.Test.YtihhpmhigmegjaaDoorL0
import Derived.Test.YtihhpmhigmegjaaDoorM0
import Derived.WalkKit
import Derived.ProofKit
import Derived.OpenShut
import Derived.BigQuiet
import Derived.Outline
import Derived.WalkSpells
import Derived.WalkLawsBesides
import Derived.Deep.DeepCutAuto
import Derived.Test.YtihhpmhigmegjaaDoorI0
namespace Go.Proofs.YtihhpmhigmegjaaDoor
open Go.ChangeShapes Go.WideShapes Go.ChangeAt Go.RowKit

/-- The first index of a number; -1 if it is not there. -/
def ixI (x : Int) : List Int → Int
  | [] => -1
  | a :: r => if x = a then 0 else if ixI x r < 0 then -1 else ixI x r + 1
theorem ixI_ge (x : Int) : ∀ L, -1 ≤ ixI x L
  | [] => by simp [ixI]
  | a :: r => by have := ixI_ge x r; rw [ixI]; split; omega; split <;> omega
theorem ixI_mem (x : Int) : ∀ L, (0 ≤ ixI x L) ↔ x ∈ L
  | [] => by simp [ixI]
  | a :: r => by
    have := ixI_mem x r
    rw [ixI, List.mem_cons]
    by_cases h : x = a
    · simp [h]
    · rw [if_neg h]
      by_cases hx : x ∈ r
      · have h0 := this.2 hx
        rw [if_neg (by omega)]; simp [hx]; omega
      · have h0 : ¬ (0 ≤ ixI x r) := fun h => hx (this.1 h)
        rw [if_pos (by omega)]; simp [h, hx]
/-- What is left of the search. -/
def ixAt (x : Int) (L : List Int) (k : Nat) : Int := if ixI x (L.drop k) < 0 then -1 else ixI x (L.drop k) + k
theorem ixAt_zero (x : Int) (L : List Int) : ixAt x L 0 = ixI x L := by
  have := ixI_ge x L
  unfold ixAt; simp; omega
theorem ixAt_hit {x : Int} {L : List Int} {k : Nat} (h : k < L.length) (e : x = L[k]) : ixAt x L k = k := by
  unfold ixAt; rw [List.drop_eq_getElem_cons h, ixI, if_pos e]; simp
theorem ixAt_miss {x : Int} {L : List Int} {k : Nat} (h : k < L.length) (e : x ≠ L[k]) : ixAt x L k = ixAt x L (k + 1) := by
  unfold ixAt; rw [List.drop_eq_getElem_cons h, ixI, if_neg e]
  have := ixI_ge x (L.drop (k + 1))
  by_cases h0 : ixI x (L.drop (k + 1)) < 0
  · simp [h0]
  · rw [if_neg h0, if_neg (by omega), if_neg h0]; push_cast; omega
theorem ixAt_end {x : Int} {L : List Int} : ixAt x L L.length = -1 := by unfold ixAt; rw [List.drop_length]; rfl
set_option maxRecDepth 100000 in
theorem indexI_any (L : List Int) (x : Int) (hm : L.length ≤ 9223372036854775807) (A : Option Addr) (c : Nat) (w : World) (hr : Reads w w.heap.size 1 A L.length (inC L)) :
    Calls Tryd.prog 73 #[.slice A L.length c, .int .i64 x] w fun e w' => e = .returned (.int .i64 (ixI x L)) ∧ w = w' := by
  have HR := Lib.hid hr; clear hr
  have H0 := Lib.hid (ixAt_zero x L)
  go_enter Tryd.func73, Tryd.ntmps73
  go_wp2_with fail
  go_loop [8] (fun v8 => ∃ k : Nat, k ≤ L.length ∧ Hid (ixI x L = ixAt x L k) ∧ v8 = .int .i64 k) (fun i => L.length - (intOf i).toNat)
  case atStart => exact ⟨0, by omega, H0.out.symm, rfl⟩
  case round =>
    obtain ⟨k, hk, HK, rfl⟩ := hrel
    by_cases hlt : k < L.length
    · obtain ⟨ab, ao, rfl, hadb, hcell⟩ := HR.out.2 (by omega)
      have c0 := hcell _ _ (inC_get L k hlt)
      clear hcell
      by_cases he : x = L[k]
      · have HX := Lib.hid (HK.out.trans (ixAt_hit hlt he))
        have hc : (x == L[k]) = true := by simpa using he
        clear he
        generalize L[k] = a at c0 hc
        go_wp2_with fail
        go_ret
        exact ⟨ret_int HX.out.symm, rfl⟩
      · have HX := Lib.hid (HK.out.trans (ixAt_miss hlt he))
        have hc : (x == L[k]) = false := by simpa using he
        clear he
        generalize L[k] = a at c0 hc
        go_wp2_with fail
        go_round
        case rel => exact ⟨k + 1, by omega, HX.out, by go_num⟩
        case measure => simp [intOf]; omega
    · obtain rfl : k = L.length := by omega
      have HX := Lib.hid (HK.out.trans ixAt_end)
      go_wp2_with fail
      go_ret
      exact ⟨ret_int HX.out.symm, rfl⟩
theorem containsI_any (L : List Int) (x : Int) (hm : L.length ≤ 9223372036854775807) (A : Option Addr) (c : Nat) (w : World) (hr : Reads w w.heap.size 1 A L.length (inC L)) :
    Calls Tryd.prog 66 #[.slice A L.length c, .int .i64 x] w fun e w' => e = .returned (.bool (decide (x ∈ L))) ∧ w = w' := by
  have HX := Lib.hid (show decide (0 ≤ ixI x L) = decide (x ∈ L) from by rw [decide_eq_decide]; exact ixI_mem x L)
  have HC := Lib.hid (indexI_any L x hm A c w hr)
  generalize ixI x L = i at HX HC
  go_enter Tryd.func66, Tryd.ntmps66
  go_wp2_with fail
  refine HC.out.mono ?_; rintro e w' ⟨rfl, rfl⟩
  go_wp2_with fail
  go_ret
  exact ⟨ret_bool HX.out, rfl⟩
end Go.Proofs.YtihhpmhigmegjaaDoor
