/- A text read as a number: l01Value of the reference. -/
import Derived.Test.YtnbpbidflacoiaaDoorRows
import Derived.Test.YtnbpbidflacoiaaDoorL0
import Derived.Test.YtnbpbidflacoiaaDoorM0
import Derived.WalkKit
import Derived.ProofKit
import Derived.OpenShut
import Derived.BigQuiet
import Derived.Outline
import Derived.WalkSpells
import Derived.WalkLawsBesides
import Derived.Deep.DeepCutAuto
import Derived.Test.YtnbpbidflacoiaaDoorDN5
namespace Go.Proofs.YtnbpbidflacoiaaDoor
open Go.ChangeShapes Go.WideShapes Go.ChangeAt Go.RowKit

theorem decFrom_none (l : List UInt8) : ∀ (k acc n : Nat) (b : UInt8), Lib.decFrom acc (l.take k) = some n → l[k]? = some b → Lib.digitVal b = none → Lib.decFrom acc l = none := by
  induction l with
  | nil => intro k acc n b _ hb; simp at hb
  | cons a t ih =>
    intro k acc n b h hb hd
    cases k with
    | zero =>
      simp only [List.getElem?_cons_zero, Option.some.injEq] at hb
      subst hb
      simp [Lib.decFrom, hd]
    | succ k =>
      simp only [List.take_succ_cons, Lib.decFrom] at h ⊢
      cases hq : Lib.digitVal a with
      | none => rfl
      | some d =>
        rw [hq] at h
        exact ih k _ n b h (by simpa using hb) hd
theorem valV_short {s : ByteArray} (h : ¬ (1 ≤ s.size ∧ s.size ≤ 13)) : valV s = (0, false) := by rw [valV, if_neg h]
theorem valV_bad {s : ByteArray} (h : Lib.decFrom 0 s.data.toList = none) : valV s = (0, false) := by
  rw [valV]
  split
  · rw [h]
  · rfl
theorem valV_num {s : ByteArray} {n : Nat} (hs : 1 ≤ s.size ∧ s.size ≤ 13) (h : Lib.decFrom 0 s.data.toList = some n) : valV s = ((n : Int), decide (decN n = s)) := by
  rw [valV, if_pos hs, h]
theorem digitVal_no {c : UInt8} (h : c.toNat < 48 ∨ 57 < c.toNat) : Lib.digitVal c = none := by rw [Lib.digitVal, if_neg (by omega)]
theorem digitVal_yes {c : UInt8} (h : ¬ c.toNat < 48) (h' : ¬ 57 < c.toNat) : Lib.digitVal c = some (c.toNat - 48) := by rw [Lib.digitVal, if_pos (by omega)]
set_option maxRecDepth 100000 in
set_option maxHeartbeats 1000000 in
theorem specVal_any (s : ByteArray) (hs : s.size ≤ 9223372036854775807) (w : World) :
    Calls Tryd.prog 66 #[.string s] w fun e w' => e = .returned (.tuple #[.int .i64 (valV s).1, .bool (valV s).2]) ∧ Below w.heap.size w w' := by
  by_cases hl : 1 ≤ s.size ∧ s.size ≤ 13
  rotate_left
  · rw [valV_short hl]
    by_cases h1 : (s.size : Int) < 1
    · clear hl
      go_enter Tryd.func66, Tryd.ntmps66
      go_wp2_with fail
      go_ret2
      exact ⟨rfl, Below.refl _ _⟩
    · have h2 : (13 : Int) < (s.size : Int) := by omega
      clear hl
      go_enter Tryd.func66, Tryd.ntmps66
      go_wp2_with fail
      go_ret2
      exact ⟨rfl, Below.refl _ _⟩
  obtain ⟨hl1, hl2⟩ := hl
  have n1 : ¬ (s.size : Int) < 1 := by omega
  have n2 : ¬ (13 : Int) < (s.size : Int) := by omega
  have HB := Lib.hid (fun h => valV_bad (s := s) h)
  have HV := Lib.hid (fun n h => valV_num (s := s) (n := n) ⟨hl1, hl2⟩ h)
  generalize valV s = r at HB HV ⊢
  go_enter Tryd.func66, Tryd.ntmps66
  go_wp2_with fail
  go_loop [4, 5] (fun v4 v5 => ∃ k m : Nat, k ≤ s.size ∧ Hid (Lib.decFrom 0 (s.data.toList.take k) = some m) ∧ Hid (m < 10 ^ k) ∧ v4 = .int .i64 (m : Int) ∧ v5 = .int .i64 (k : Int)) (fun _ i => s.size - (intOf i).toNat)
  case atStart => exact ⟨0, 0, by omega, by simp [Hid, Lib.decFrom], by simp [Hid], rfl, rfl⟩
  case round =>
    obtain ⟨k, m, hk, HD, HM, rfl, rfl⟩ := hrel
    have hm13 : m < 10000000000000 := by
      have h1 := HM.out
      have h2 : 10 ^ k ≤ 10 ^ 13 := Nat.pow_le_pow_right (by decide) (by omega)
      have h3 : (10 : Nat) ^ 13 = 10000000000000 := by decide
      omega
    by_cases hlt : k < s.size
    · have hl : k < s.data.toList.length := by simpa using hlt
      have hnx : s.data.toList[k]? = some s[k] := by rw [List.getElem?_eq_getElem hl]; simp; rfl
      have HX := Lib.hid hnx; clear hnx
      have hc : s[k].toNat < 256 := s[k].toNat_lt
      by_cases h1 : s[k].toNat < 48
      · have HR := Lib.hid (HB.out (decFrom_none _ k 0 m s[k] HD.out HX.out (digitVal_no (.inl h1))))
        go_wp2_with fail
        go_ret2
        exact ⟨by rw [HR.out]; rfl, Below.refl _ _⟩
      · by_cases h2 : 57 < s[k].toNat
        · have HR := Lib.hid (HB.out (decFrom_none _ k 0 m s[k] HD.out HX.out (digitVal_no (.inr h2))))
          go_wp2_with fail
          go_ret2
          exact ⟨by rw [HR.out]; rfl, Below.refl _ _⟩
        · have HD1 := Lib.hid (Lib.decFrom_take _ k 0 m s[k] _ HD.out HX.out (digitVal_yes h1 h2))
          have HM1 := Lib.hid (show m * 10 + (s[k].toNat - 48) < 10 ^ (k + 1) by have := HM.out; rw [Nat.pow_succ]; omega)
          have e1 : IntKind.i64.wrap (10 * (m : Int)) = 10 * (m : Int) := IntWalk.i64_in _ (by omega)
          have e2 : IntKind.u8.wrap ((s[k].toNat : Int) - 48) = (s[k].toNat : Int) - 48 := by rw [IntKind.wrap]; simp [IntKind.bits]; omega
          have e3 : IntKind.i64.wrap ((s[k].toNat : Int) - 48) = (s[k].toNat : Int) - 48 := IntWalk.i64_in _ (by omega)
          have e4 : IntKind.i64.wrap (10 * (m : Int) + ((s[k].toNat : Int) - 48)) = 10 * (m : Int) + ((s[k].toNat : Int) - 48) := IntWalk.i64_in _ (by omega)
          clear HD HM
          go_wp2_with fail
          go_round
          case rel => exact ⟨k + 1, m * 10 + (s[k].toNat - 48), by omega, HD1, HM1, by congr 1; omega, by go_num⟩
          case measure => simp [intOf]; omega
    · obtain rfl : k = s.size := by omega
      have HR := Lib.hid (HV.out m (by have := HD.out; rwa [List.take_of_length_le (by simp)] at this))
      have hq := str_eq (decN m) s
      go_wp2_with fail
      refine (specDec_any m (by omega) w).mono ?_; rintro e w1 ⟨rfl, b1⟩
      go_wp2_with fail
      go_ret2
      exact ⟨by rw [HR.out, ← hq]; rfl, b1⟩
end Go.Proofs.YtnbpbidflacoiaaDoor
