/- The sum of the weights of some claims, by both. -/
import Derived.Test.YtihhpmhigmegjaaGreatDoorRows
import Derived.Test.YtihhpmhigmegjaaGreatDoorL0
import Derived.Test.YtihhpmhigmegjaaGreatDoorM0
import Derived.WalkKit
import Derived.ProofKit
import Derived.OpenShut
import Derived.BigQuiet
import Derived.Outline
import Derived.WalkSpells
import Derived.WalkLawsBesides
import Derived.Deep.DeepCutAuto
import Derived.Test.YtihhpmhigmegjaaGreatDoorO7
namespace Go.Proofs.YtihhpmhigmegjaaGreatDoor
open Go.ChangeShapes Go.WideShapes Go.ChangeAt Go.RowKit Go.Sort

def wtAt (xs : List Clm) (v : Int) : Int := match xs[v.toNat]? with
  | some b => b.weight
  | none => 0
def wtS (xs : List Clm) (L : List Int) : Nat → Int
  | 0 => 0
  | k + 1 => wtS xs L k + match L[k]? with
    | some v => wtAt xs v
    | none => 0
theorem wt_bd {xs : List Clm} (hw : ∀ c ∈ xs, clmB c = true) (v : Int) : 0 ≤ wtAt xs v ∧ wtAt xs v ≤ 100 := by
  unfold wtAt
  split
  · rename_i b hb
    have := hw b (List.mem_of_getElem? hb)
    unfold clmB inB at this
    simp only [Bool.and_eq_true, decide_eq_true_eq] at this
    omega
  · omega
theorem wtS_bd {xs : List Clm} (hw : ∀ c ∈ xs, clmB c = true) (L : List Int) : ∀ k, 0 ≤ wtS xs L k ∧ wtS xs L k ≤ 100 * k
  | 0 => by simp [wtS]
  | k + 1 => by
    have h1 := wtS_bd hw L k
    rw [wtS]
    split
    · rename_i v _
      have := wt_bd hw v
      push_cast; omega
    · push_cast; omega
theorem wtS_at {xs : List Clm} {L : List Int} {k : Nat} (h : k < L.length) : wtS xs L (k + 1) = wtS xs L k + wtAt xs L[k] := by
  rw [wtS, List.getElem?_eq_getElem h]
set_option maxRecDepth 100000 in
theorem specWt_any (xs : List Clm) (hw : ∀ c ∈ xs, clmB c = true) (L : List Int) (hL : ∀ v ∈ L, ∃ i : Nat, v = (i : Int) ∧ i < xs.length) (hl : L.length ≤ 1048576) (hxl : xs.length ≤ 9223372036854775807) (A A' : Option Addr) (c c' : Nat) (w : World) (h : Reads w w.heap.size 7 A xs.length (clC xs)) (h' : Reads w w.heap.size 1 A' L.length (inC L)) :
    Calls Tryz.prog 58 #[.slice A xs.length c, .slice A' L.length c'] w fun e w' => e = .returned (.int .i64 (wtS xs L L.length)) ∧ w = w' := by
  have H := Lib.hid h; have H' := Lib.hid h'; clear h h'
  have HW := Lib.hid hw; clear hw
  have HL := Lib.hid hL; clear hL
  go_enter Tryz.func58, Tryz.ntmps58
  go_wp2_with fail
  go_loop [5, 6] (fun v5 v6 => ∃ (k : Nat) (t : Int), k ≤ L.length ∧ 0 ≤ t ∧ t ≤ 100 * k ∧ Hid (wtS xs L k = t) ∧ v5 = .int .i64 t ∧ v6 = .int .i64 k) (fun _ i => L.length - (intOf i).toNat)
  case atStart => exact ⟨0, 0, by omega, by omega, by omega, rfl, rfl, rfl⟩
  case round =>
    obtain ⟨k, t, hk, ht0, ht1, HT, rfl, rfl⟩ := hrel
    by_cases hlt : k < L.length
    · obtain ⟨ib, io, rfl, hib, hic⟩ := H'.out.2 (by omega)
      have d0 := hic _ _ (inC_get L k hlt)
      have HS := Lib.hid (wtS_at (xs := xs) hlt)
      obtain ⟨i, hi, hilt⟩ := HL.out _ (List.getElem_mem hlt)
      have HB := Lib.hid (wt_bd HW.out L[k])
      generalize L[k] = v at d0 HS HB hi
      subst hi
      obtain ⟨ab, ao, rfl, hab, hac⟩ := H.out.2 (by omega)
      obtain ⟨_, _, _, _, _, _, e6⟩ := clC_get xs i hilt
      have c6 := hac _ _ e6
      rw [← Nat.add_assoc] at c6
      have HX := Lib.hid (show wtAt xs (i : Int) = xs[i].weight by unfold wtAt; rw [show ((i : Int)).toNat = i from rfl, List.getElem?_eq_getElem hilt])
      have hb := HB.out
      rw [HX.out] at hb HS
      generalize xs[i].weight = y at c6 hb HS
      clear hic hac e6 HX HB
      obtain ⟨hb1, hb2⟩ := hb
      go_wp2_with fail
      go_round
      case rel => exact ⟨k + 1, t + y, by omega, by omega, by omega, HS.out.trans (by rw [HT.out]), rfl, by go_num⟩
      case measure => simp [intOf]; omega
    · obtain rfl : k = L.length := by omega
      go_wp2_with fail
      go_ret
      exact ⟨ret_int HT.out.symm, rfl⟩
set_option maxRecDepth 100000 in
theorem implWt_any (xs : List Clm) (hw : ∀ c ∈ xs, clmB c = true) (L : List Int) (hL : ∀ v ∈ L, ∃ i : Nat, v = (i : Int) ∧ i < xs.length) (hl : L.length ≤ 1048576) (hxl : xs.length ≤ 9223372036854775807) (A A' : Option Addr) (c c' : Nat) (w : World) (h : Reads w w.heap.size 7 A xs.length (clC xs)) (h' : Reads w w.heap.size 1 A' L.length (inC L)) :
    Calls Tryz.prog 57 #[.slice A xs.length c, .slice A' L.length c'] w fun e w' => e = .returned (.int .i64 (wtS xs L L.length)) ∧ w = w' := by
  have H := Lib.hid h; have H' := Lib.hid h'; clear h h'
  have HW := Lib.hid hw; clear hw
  have HL := Lib.hid hL; clear hL
  go_enter Tryz.func57, Tryz.ntmps57
  go_wp2_with fail
  go_loop [5, 10] (fun v5 v6 => ∃ (k : Nat) (t : Int), k ≤ L.length ∧ 0 ≤ t ∧ t ≤ 100 * k ∧ Hid (wtS xs L k = t) ∧ v5 = .int .i64 t ∧ v6 = .int .i64 k) (fun _ i => L.length - (intOf i).toNat)
  case atStart => exact ⟨0, 0, by omega, by omega, by omega, rfl, rfl, rfl⟩
  case round =>
    obtain ⟨k, t, hk, ht0, ht1, HT, rfl, rfl⟩ := hrel
    by_cases hlt : k < L.length
    · obtain ⟨ib, io, rfl, hib, hic⟩ := H'.out.2 (by omega)
      have d0 := hic _ _ (inC_get L k hlt)
      have HS := Lib.hid (wtS_at (xs := xs) hlt)
      obtain ⟨i, hi, hilt⟩ := HL.out _ (List.getElem_mem hlt)
      have HB := Lib.hid (wt_bd HW.out L[k])
      generalize L[k] = v at d0 HS HB hi
      subst hi
      obtain ⟨ab, ao, rfl, hab, hac⟩ := H.out.2 (by omega)
      obtain ⟨_, _, _, _, _, _, e6⟩ := clC_get xs i hilt
      have c6 := hac _ _ e6
      rw [← Nat.add_assoc] at c6
      have HX := Lib.hid (show wtAt xs (i : Int) = xs[i].weight by unfold wtAt; rw [show ((i : Int)).toNat = i from rfl, List.getElem?_eq_getElem hilt])
      have hb := HB.out
      rw [HX.out] at hb HS
      generalize xs[i].weight = y at c6 hb HS
      clear hic hac e6 HX HB
      obtain ⟨hb1, hb2⟩ := hb
      go_wp2_with fail
      go_round
      case rel => exact ⟨k + 1, t + y, by omega, by omega, by omega, HS.out.trans (by rw [HT.out]), rfl, by go_num⟩
      case measure => simp [intOf]; omega
    · obtain rfl : k = L.length := by omega
      go_wp2_with fail
      go_ret
      exact ⟨ret_int HT.out.symm, rfl⟩
end Go.Proofs.YtihhpmhigmegjaaGreatDoor
