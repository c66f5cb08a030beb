/- Phrases of the reference; points, years. -/
import Derived.Test.YtihhpmhigmegjaaGreatDoorRows
import Derived.Test.YtihhpmhigmegjaaGreatDoorL0
import Derived.Test.YtihhpmhigmegjaaGreatDoorM0
import Derived.WalkKit
import Derived.ProofKit
import Derived.OpenShut
import Derived.BigQuiet
import Derived.Outline
import Derived.WalkSpells
import Derived.WalkLawsBesides
import Derived.Deep.DeepCutAuto
import Derived.Test.YtihhpmhigmegjaaGreatDoorG3
namespace Go.Proofs.YtihhpmhigmegjaaGreatDoor
open Go.ChangeShapes Go.WideShapes Go.ChangeAt Go.RowKit

set_option maxRecDepth 100000 in
set_option maxHeartbeats 1000000 in
theorem specWords_any (s : ByteArray) (hs : s.size ≤ 1073741824) (w : World) :
    Calls Tryz.prog 143 #[.string s] w fun e w' => ∃ v, e = .returned (.tuple #[v, .bool (phrB s)]) ∧ Below w.heap.size w w' ∧ (phrB s = true → w'.ownsRow w.heap.size 9 1 v (cutB 32 s).length (txC (cutB 32 s))) := by
  have HS := Lib.hid (show ∀ w, Calls Tryz.prog 173 #[.string s, .int .u8 32] w (fun e w' => ∃ v, e = .returned v ∧ w'.ownsRow w.heap.size 9 1 v (cutB 32 s).length (txC (cutB 32 s)) ∧ Below w.heap.size w w') from specSplit_any s 32 hs)
  have hlen : (cutB 32 s).length ≤ 1073741825 := by have := cutF_len 32 s s.size 0; unfold cutB; omega
  have HZ := Lib.hid (fun p hp => Nat.le_trans (cut_size 32 s p hp) hs)
  have HX := Lib.hid (show phrB s = (decide (((cutB 32 s).length : Int) ≤ 8) && (cutB 32 s).all wordB) from rfl)
  generalize phrB s = r at HX ⊢
  generalize cutB 32 s = L at *
  go_enter Tryz.func143, Tryz.ntmps143
  go_wp2_with fail
  refine (HS.out w).mono ?_; rintro e w1 ⟨v, rfl, own1, b1⟩
  obtain ⟨A, d, rfl, _⟩ := own_shape own1
  have O1 := Lib.hid own1; have B1 := Lib.hid b1; clear own1 b1
  go_wp2_with fail
  go_loopw [5] (fun v5 wr => ∃ k : Nat, k ≤ L.length ∧ Hid ((L.take k).all wordB = true) ∧ Hid (Below w1.heap.size w1 wr) ∧ v5 = .int .i64 k) (fun i _ => L.length - (intOf i).toNat)
  case atStart => exact ⟨0, by omega, by simp [Hid], Below.refl _ _, rfl⟩
  case round =>
    obtain ⟨k, hk, HA, BW, rfl⟩ := hrel
    by_cases hlt : k < L.length
    · obtain ⟨ab, ao, rfl, hadb, hcell⟩ := ((Reads.of_own O1.out).below BW.out).2 (by omega)
      have c0 := hcell _ _ (txC_get L k hlt)
      clear hcell
      have HT := Lib.hid (all_take_w L wordB k hlt)
      have HW := Lib.hid (specWord_any L[k] wr (by have := HZ.out _ (List.getElem_mem hlt); omega))
      have HF : Hid (wordB L[k] = false → L.all wordB = false) := fun h => by
        have h1 := HT.out
        rw [h, Bool.and_false] at h1
        rw [← List.take_append_drop (k + 1) L, List.all_append, h1, Bool.false_and]
      generalize L[k] = a at c0 HT HW HF
      cases hb : wordB a
      · have HXX := Lib.hid (show r = false by rw [HX.out, HF.out hb, Bool.and_false])
        rw [hb] at HW
        clear hb
        go_wp2_with fail
        refine HW.out.mono ?_; rintro e w' ⟨rfl, rfl⟩
        go_wp2_with fail
        go_ret2
        exact ⟨_, by rw [HXX.out]; rfl, B1.out.trans (BW.out.mono B1.out.size), fun h => by rw [HXX.out] at h; cases h⟩
      · have HXX := Lib.hid (show (L.take (k + 1)).all wordB = true by rw [HT.out, HA.out, hb]; rfl)
        rw [hb] at HW
        clear hb
        go_wp2_with fail
        refine HW.out.mono ?_; rintro e w' ⟨rfl, rfl⟩
        go_wp2_with fail
        go_roundw
        case rel => exact ⟨k + 1, by omega, HXX.out, BW.out, by go_num⟩
        case measure => simp [intOf]; omega
    · obtain rfl : k = L.length := by omega
      have HXX := Lib.hid (show r = decide ((L.length : Int) ≤ 8) by have := HA.out; rw [List.take_length] at this; rw [HX.out, this, Bool.and_true])
      have O2 := Lib.hid (own_below O1.out BW.out)
      go_wp2_with fail
      go_ret2
      exact ⟨_, by rw [HXX.out]; rfl, B1.out.trans (BW.out.mono B1.out.size), fun _ => O2.out⟩
theorem specPhr_any (s : ByteArray) (hs : s.size ≤ 1073741824) (w : World) :
    Calls Tryz.prog 86 #[.string s] w fun e w' => e = .returned (.bool (phrB s)) ∧ Below w.heap.size w w' := by
  have HW := Lib.hid (specWords_any s hs w)
  generalize phrB s = r at *
  go_enter Tryz.func86, Tryz.ntmps86
  go_wp2_with fail
  refine HW.out.mono ?_; rintro e w1 ⟨v, rfl, b1, _⟩
  go_wp2_with fail
  go_ret
  exact ⟨rfl, b1⟩
def ptB (x y : Int) : Bool := inB x (-1000) 1000 && inB y (-1000) 1000
theorem specPt_any (x y : Int) (w : World) : Calls Tryz.prog 101 #[.agg #[.int .i64 x, .int .i64 y]] w fun e w' => e = .returned (.bool (ptB x y)) ∧ Below w.heap.size w w' := by
  have I1 := Lib.hid (specIn_any x (-1000) 1000)
  have I2 := Lib.hid (specIn_any y (-1000) 1000)
  have HX := Lib.hid (show ptB x y = (inB x (-1000) 1000 && inB y (-1000) 1000) from rfl)
  generalize ptB x y = r at HX ⊢
  generalize inB x (-1000) 1000 = q1 at I1 HX
  generalize inB y (-1000) 1000 = q2 at I2 HX
  cases q1
  all_goals
    go_enter Tryz.func101, Tryz.ntmps101
    go_wp2_with fail
    refine (I1.out _).mono ?_; rintro e w' ⟨rfl, rfl⟩
    go_wp2_with fail
  · go_ret
    exact ⟨ret_bool (by rw [HX.out]; rfl), by (repeat (first | exact Below.refl _ _ | assumption | refine Below.drew ?_ | refine below_drewN' ?_ _ | refine Below.alloc ?_ (by (try simp); (try omega)) _ | refine Below.setCell ?_ (by (try simp); (try omega)) _))⟩
  · refine (I2.out _).mono ?_; rintro e w' ⟨rfl, rfl⟩
    go_wp2_with fail
    go_ret
    exact ⟨ret_bool (by rw [HX.out]; simp), by (repeat (first | exact Below.refl _ _ | assumption | refine Below.drew ?_ | refine below_drewN' ?_ _ | refine Below.alloc ?_ (by (try simp); (try omega)) _ | refine Below.setCell ?_ (by (try simp); (try omega)) _))⟩
theorem implPt_any (x y : Int) (w : World) : Calls Tryz.prog 99 #[.agg #[.int .i64 x, .int .i64 y]] w fun e w' => e = .returned (.bool (ptB x y)) ∧ Below w.heap.size w w' := by
  have I1 := Lib.hid (within_any x (-1000) 1000)
  have I2 := Lib.hid (within_any y (-1000) 1000)
  have HX := Lib.hid (show ptB x y = (inB x (-1000) 1000 && inB y (-1000) 1000) from rfl)
  generalize ptB x y = r at HX ⊢
  generalize inB x (-1000) 1000 = q1 at I1 HX
  generalize inB y (-1000) 1000 = q2 at I2 HX
  cases q1
  all_goals
    go_enter Tryz.func99, Tryz.ntmps99
    go_wp2_with fail
    refine (I1.out _).mono ?_; rintro e w' ⟨rfl, rfl⟩
    go_wp2_with fail
  · go_ret
    exact ⟨ret_bool (by rw [HX.out]; rfl), by (repeat (first | exact Below.refl _ _ | assumption | refine Below.drew ?_ | refine below_drewN' ?_ _ | refine Below.alloc ?_ (by (try simp); (try omega)) _ | refine Below.setCell ?_ (by (try simp); (try omega)) _))⟩
  · refine (I2.out _).mono ?_; rintro e w' ⟨rfl, rfl⟩
    go_wp2_with fail
    go_ret
    exact ⟨ret_bool (by rw [HX.out]; simp), by (repeat (first | exact Below.refl _ _ | assumption | refine Below.drew ?_ | refine below_drewN' ?_ _ | refine Below.alloc ?_ (by (try simp); (try omega)) _ | refine Below.setCell ?_ (by (try simp); (try omega)) _))⟩
theorem specYear_any (x : Int) (w : World) : Calls Tryz.prog 102 #[.int .i64 x] w fun e w' => e = .returned (.bool (inB x (-3000) 3000)) ∧ w = w' := by
  have I1 := Lib.hid (specIn_any x (-3000) 3000)
  generalize inB x (-3000) 3000 = q at *
  go_enter Tryz.func102, Tryz.ntmps102
  go_wp2_with fail
  refine (I1.out _).mono ?_; rintro e w' ⟨rfl, rfl⟩
  go_wp2_with fail
  go_ret
  exact ⟨rfl, rfl⟩
theorem implYear_any (x : Int) (w : World) : Calls Tryz.prog 100 #[.int .i64 x] w fun e w' => e = .returned (.bool (inB x (-3000) 3000)) ∧ w = w' := by
  have I1 := Lib.hid (within_any x (-3000) 3000)
  generalize inB x (-3000) 3000 = q at *
  go_enter Tryz.func100, Tryz.ntmps100
  go_wp2_with fail
  refine (I1.out _).mono ?_; rintro e w' ⟨rfl, rfl⟩
  go_wp2_with fail
  go_ret
  exact ⟨rfl, rfl⟩
end Go.Proofs.YtihhpmhigmegjaaGreatDoor
