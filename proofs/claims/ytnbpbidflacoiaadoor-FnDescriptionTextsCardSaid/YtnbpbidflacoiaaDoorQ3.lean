/- Units of the reference; IsDescription of both. -/
import Derived.Test.YtnbpbidflacoiaaDoorRows
import Derived.Test.YtnbpbidflacoiaaDoorL0
import Derived.Test.YtnbpbidflacoiaaDoorM0
import Derived.WalkKit
import Derived.ProofKit
import Derived.OpenShut
import Derived.BigQuiet
import Derived.Outline
import Derived.WalkSpells
import Derived.WalkLawsBesides
import Derived.Deep.DeepCutAuto
import Derived.Test.YtnbpbidflacoiaaDoorQ0
import Derived.Test.YtnbpbidflacoiaaDoorQ2
import Derived.Lib.Hide
namespace Go.Proofs.YtnbpbidflacoiaaDoor
open Go.ChangeShapes Go.WideShapes Go.ChangeAt Go.RowKit

theorem unit1 (u : ByteArray) : unitD u 1 = if u = ⟨#[109, 105, 108, 101]⟩ then 4 else if u = ⟨#[108, 101, 97, 103, 117, 101]⟩ then 12 else 0 := by simp [unitD]
theorem unitN {u : ByteArray} {c : Int} (hc : c ≠ 1) : unitD u c = if u = ⟨#[109, 105, 108, 101, 115]⟩ then 4 else if u = ⟨#[108, 101, 97, 103, 117, 101, 115]⟩ then 12 else 0 := by rw [unitD, if_neg hc]
theorem last_list (u : ByteArray) (h : u.size - 1 < u.size) : u.toList = (u.extract 0 (u.size - 1)).toList ++ [u[u.size - 1]] := by
  have hl : u.data.toList.length = u.size := rfl
  have e1 : u.toList = u.data.toList := ByteArray.toList_eq u
  have e2 : (u.extract 0 (u.size - 1)).toList = u.data.toList.take (u.size - 1) := by
    rw [ByteArray.toList_eq, ByteArray.data_extract]
    simp [List.dropLast_eq_take]
  rw [e1, e2]
  have e3 := List.take_append_drop (u.size - 1) u.data.toList
  rw [List.drop_eq_getElem_cons (by omega), List.drop_eq_nil_of_le (by omega)] at e3
  exact e3.symm
theorem last_eq (u : ByteArray) (h : u.size - 1 < u.size) (l : List UInt8) : (u = ⟨(l ++ [115]).toArray⟩) ↔ ((u.extract 0 (u.size - 1)).toList == l) = true ∧ ((u[u.size - 1].toNat : Int) != 115) = false := by
  have e := last_list u h
  have e0 : (⟨(l ++ [115]).toArray⟩ : ByteArray).toList = l ++ [115] := by rw [ByteArray.toList_eq]
  constructor
  · intro hu
    have e' := ((congrArg ByteArray.toList hu).trans e0).symm.trans e
    have := List.append_inj' e' rfl
    refine ⟨by simp [← this.1], ?_⟩
    have h2 := this.2
    simp only [List.cons.injEq, and_true] at h2
    rw [← h2]; rfl
  · rintro ⟨h1, h2⟩
    apply str_inj
    rw [e, e0]
    have h3 : u[u.size - 1].toNat = 115 := by simp at h2; omega
    have h4 : u[u.size - 1] = 115 := UInt8.toNat.inj h3
    rw [h4, show (u.extract 0 (u.size - 1)).toList = l by simpa using h1]
theorem unit_last {u : ByteArray} {c : Int} (hc : c ≠ 1) (h : u.size - 1 < u.size) : unitD u c = if ((u[u.size - 1].toNat : Int) != 115) = true then 0 else if ((u.extract 0 (u.size - 1)).toList == [109, 105, 108, 101]) = true then 4 else if ((u.extract 0 (u.size - 1)).toList == [108, 101, 97, 103, 117, 101]) = true then 12 else 0 := by
  have a1 := last_eq u h [109, 105, 108, 101]
  have a2 := last_eq u h [108, 101, 97, 103, 117, 101]
  simp only [List.cons_append, List.nil_append] at a1 a2
  rw [unitN hc]
  simp only [a1, a2]
  cases ((u[u.size - 1].toNat : Int) != 115) <;> simp
set_option maxRecDepth 100000 in
theorem specUnit_any (u : ByteArray) (hu : u.size ≤ 9223372036854775807) (c : Int) (w : World) :
    Calls Tryd.prog 50 #[.string u, .int .i64 c] w fun e w' => e = .returned (.int .i64 (unitD u c)) ∧ w = w' := by
  by_cases hc : c = 1
  · subst hc
    have e1 := str_lit u [109, 105, 108, 101]
    have e2 := str_lit u [108, 101, 97, 103, 117, 101]
    have HU := Lib.hid (unit1 u)
    by_cases h1 : u = ⟨#[109, 105, 108, 101]⟩
    · rw [if_pos h1] at HU
      rw [decide_eq_true h1] at e1
      clear h1 e2
      go_enter Tryd.func50, Tryd.ntmps50
      go_wp2_with fail
      go_ret
      exact ⟨ret_int (by rw [HU.out]), rfl⟩
    · rw [if_neg h1] at HU
      rw [decide_eq_false h1] at e1
      by_cases h2 : u = ⟨#[108, 101, 97, 103, 117, 101]⟩
      · rw [if_pos h2] at HU
        rw [decide_eq_true h2] at e2
        clear h1 h2
        go_enter Tryd.func50, Tryd.ntmps50
        go_wp2_with fail
        go_ret
        exact ⟨ret_int (by rw [HU.out]), rfl⟩
      · rw [if_neg h2] at HU
        rw [decide_eq_false h2] at e2
        clear h1 h2
        go_enter Tryd.func50, Tryd.ntmps50
        go_wp2_with fail
        go_ret
        exact ⟨ret_int (by rw [HU.out]), rfl⟩
  · have HU := Lib.hid (unitN (u := u) hc)
    have hc1 : (c != 1) = true := by simpa using hc
    by_cases h0 : u.size = 0
    · have HU2 := Lib.hid (show unitD u c = 0 by
        rw [HU.out, if_neg (fun h => by rw [h] at h0; cases h0), if_neg (fun h => by rw [h] at h0; cases h0)])
      go_enter Tryd.func50, Tryd.ntmps50
      go_wp2_with fail
      go_ret
      exact ⟨ret_int (by rw [HU2.out]), rfl⟩
    · have hi : u.size - 1 < u.size := by omega
      have HL := Lib.hid (unit_last hc hi)
      go_enter Tryd.func50, Tryd.ntmps50
      go_wp2_with fail
      all_goals
        go_ret
        exact ⟨ret_int (by rw [HL.out]; (repeat' split) <;> first | rfl | simp_all), rfl⟩
end Go.Proofs.YtnbpbidflacoiaaDoor
