/- slices.ContainsFunc over a list of these, at a closure. -/
import Derived.Test.YtaaioengebaebaaGreatDoorRows
import Derived.Test.YtaaioengebaebaaGreatDoorK8GA
import Derived.WalkKit
import Derived.ProofKit
import Derived.OpenShut
import Derived.BigQuiet
import Derived.Outline
import Derived.WalkSpells
import Derived.WalkLawsBesides
import Derived.Deep.DeepCutAuto
import Derived.Test.YtaaioengebaebaaGreatDoorK8FD0
import Derived.Lib.Hide
namespace Go.Proofs.YtaaioengebaebaaGreatDoor
open Go.ChangeShapes Go.WideShapes Go.ChangeAt Go.RowKit

set_option maxRecDepth 100000 in
theorem badDIdx_any (p : Dsc → Bool) (xs : List Dsc) (A : Option Addr) (c : Nat) (w : World) (hr : Reads w w.heap.size 6 A xs.length (dsC xs)) (hm : xs.length ≤ 9223372036854775807)
    (hp : ∀ b ∈ xs, ∀ W, Below w.heap.size w W → Calls Tryz.prog 82 #[b.val] W fun e w' => e = .returned (.bool (p b)) ∧ Below W.heap.size W w') :
    Calls Tryz.prog 112 #[.slice A xs.length c, .func (.func 82) #[] #[]] w fun e w' => ∃ i : Int, e = .returned (.int .i64 i) ∧ decide (0 ≤ i) = xs.any p ∧ Below w.heap.size w w' := by
  have HR := Lib.hid hr; clear hr
  have HP := Lib.hid hp; clear hp
  go_enter Tryz.func112, Tryz.ntmps112
  go_wp2_with fail
  go_loopw [8] (fun v8 wr => ∃ k : Nat, k ≤ xs.length ∧ Hid ((xs.take k).any p = false) ∧ Hid (Below w.heap.size w wr) ∧ v8 = .int .i64 k) (fun i _ => xs.length - (intOf i).toNat)
  case atStart => exact ⟨0, by omega, by simp [Hid], Below.refl _ _, rfl⟩
  case round =>
    obtain ⟨k, hk, HT, BW, rfl⟩ := hrel
    by_cases hlt : k < xs.length
    · obtain ⟨ab, ao, rfl, hadb, hcell⟩ := (HR.out.below BW.out).2 (by omega)
      obtain ⟨e0, e1, e2, e3, e4, e5⟩ := dsC_get xs k hlt
      have c0 := hcell _ _ e0
      have c1 := hcell _ _ e1
      have c2 := hcell _ _ e2
      have c3 := hcell _ _ e3
      have c4 := hcell _ _ e4
      have c5 := hcell _ _ e5
      rw [← Nat.add_assoc] at c1 c2 c3 c4 c5
      clear hcell e0 e1 e2 e3 e4 e5
      have HC := Lib.hid (HP.out xs[k] (List.getElem_mem hlt) wr BW.out)
      have HS := Lib.hid (show (xs.take (k + 1)).any p = ((xs.take k).any p || p xs[k]) by rw [List.take_succ_eq_append_getElem hlt, List.any_append]; simp)
      have HY := Lib.hid (show p xs[k] = true → xs.any p = true from fun h => List.any_eq_true.2 ⟨_, List.getElem_mem hlt, h⟩)
      unfold Dsc.val at HC
      generalize xs[k] = b at c0 c1 c2 c3 c4 c5 HC HS HY
      cases hb : p b
      · rw [hb] at HC HS
        have HN := Lib.hid (show (xs.take (k + 1)).any p = false by rw [HS.out, HT.out]; rfl)
        clear hb
        go_wp2_with fail
        refine HC.out.mono ?_; rintro e w1 ⟨rfl, b1⟩
        go_wp2_with fail
        go_roundw
        case rel => exact ⟨k + 1, by omega, HN.out, BW.out.trans (b1.mono BW.out.size), by go_num⟩
        case measure => simp [intOf]; omega
      · rw [hb] at HC
        have HN := Lib.hid (HY.out hb)
        clear hb
        go_wp2_with fail
        refine HC.out.mono ?_; rintro e w1 ⟨rfl, b1⟩
        go_wp2_with fail
        go_ret
        exact ⟨k, rfl, by rw [HN.out]; simp, BW.out.trans (b1.mono BW.out.size)⟩
    · obtain rfl : k = xs.length := by omega
      have HN := Lib.hid (show xs.any p = false by have := HT.out; rwa [List.take_length] at this)
      go_wp2_with fail
      go_ret
      exact ⟨-1, rfl, by rw [HN.out]; rfl, BW.out⟩
theorem badDHas_any (p : Dsc → Bool) (xs : List Dsc) (A : Option Addr) (c : Nat) (w : World) (hr : Reads w w.heap.size 6 A xs.length (dsC xs)) (hm : xs.length ≤ 9223372036854775807)
    (hp : ∀ b ∈ xs, ∀ W, Below w.heap.size w W → Calls Tryz.prog 82 #[b.val] W fun e w' => e = .returned (.bool (p b)) ∧ Below W.heap.size W w') :
    Calls Tryz.prog 81 #[.slice A xs.length c, .func (.func 82) #[] #[]] w fun e w' => e = .returned (.bool (xs.any p)) ∧ Below w.heap.size w w' := by
  have HC := Lib.hid (badDIdx_any p xs A c w hr hm hp); clear hr hp
  generalize xs.any p = r at HC ⊢
  go_enter Tryz.func81, Tryz.ntmps81
  go_wp2_with fail
  refine HC.out.mono ?_; rintro e w1 ⟨i, rfl, hi, b1⟩
  have HI := Lib.hid hi; clear hi
  go_wp2_with fail
  go_ret
  exact ⟨ret_bool HI.out, b1⟩
end Go.Proofs.YtaaioengebaebaaGreatDoor
