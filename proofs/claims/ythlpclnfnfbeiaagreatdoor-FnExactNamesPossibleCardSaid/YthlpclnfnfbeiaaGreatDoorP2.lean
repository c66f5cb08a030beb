/- The code of a question about a place in a year, by both. -/
import Derived.Test.YthlpclnfnfbeiaaGreatDoorRows
import Derived.Test.YthlpclnfnfbeiaaGreatDoorL0
import Derived.Test.YthlpclnfnfbeiaaGreatDoorM0
import Derived.WalkKit
import Derived.ProofKit
import Derived.OpenShut
import Derived.BigQuiet
import Derived.Outline
import Derived.WalkSpells
import Derived.WalkLawsBesides
import Derived.Deep.DeepCutAuto
import Derived.Test.YthlpclnfnfbeiaaGreatDoorO5
import Derived.Test.YthlpclnfnfbeiaaGreatDoorG4
import Derived.Test.YthlpclnfnfbeiaaGreatDoorW2
namespace Go.Proofs.YthlpclnfnfbeiaaGreatDoor
open Go.ChangeShapes Go.WideShapes Go.ChangeAt Go.RowKit Go.Sort

def codeN (xs : List Clm) (p : ByteArray) (y : Int) : Int := if (areC xs && wordB p) = true then (if inB y (-3000) 3000 = true then 0 else 2) else 1
theorem codeN_fine {xs : List Clm} {p : ByteArray} {y : Int} (h : codeN xs p y = 0) : areC xs = true := by
  unfold codeN at h
  cases hq : areC xs
  · rw [hq] at h; simp at h
  · rfl
theorem codeN_012 (xs : List Clm) (p : ByteArray) (y : Int) : codeN xs p y = 0 ∨ codeN xs p y = 1 ∨ codeN xs p y = 2 := by
  unfold codeN
  split
  · split
    · exact .inl rfl
    · exact .inr (.inr rfl)
  · exact .inr (.inl rfl)
set_option maxRecDepth 100000 in
theorem specCodeN_any (xs : List Clm) (p : ByteArray) (y : Int) (hs : ∀ b ∈ xs, b.src.size ≤ 1048576 ∧ b.place.size ≤ 1048576 ∧ b.val_.size ≤ 1048576) (hp : p.size ≤ 1048576) (A : Option Addr) (c : Nat) (w : World) (h : HasClm w xs A) :
    Calls Tryz.prog 64 #[.slice A xs.length c, .string p, .int .i64 y] w fun e w' => e = .returned (.int .i64 (codeN xs p y)) ∧ Below w.heap.size w w' := by
  have HA := Lib.hid (specAreC_any xs A c w h hs); clear h hs
  have HW := Lib.hid (fun W => specWord_any p W (by omega))
  have HY := Lib.hid (specYear_any y)
  have HX := Lib.hid (show codeN xs p y = if (areC xs && wordB p) = true then (if inB y (-3000) 3000 = true then 0 else 2) else 1 from rfl)
  generalize codeN xs p y = r at HX ⊢
  generalize areC xs = q1 at *
  generalize wordB p = q2 at *
  generalize inB y (-3000) 3000 = q3 at *
  cases q1 <;> cases q2 <;> cases q3
  all_goals
    go_enter Tryz.func64, Tryz.ntmps64
    go_wp2_with fail
    refine HA.out.mono ?_; rintro e w1 ⟨rfl, b1⟩
    have B1 := Lib.hid b1; clear b1
    go_wp2_with (first | (go_at_call 98; (refine (HW.out _).mono ?_; rintro e wn ⟨rfl, rfl⟩)) | (go_at_call 106; (refine (HY.out _).mono ?_; rintro e wn ⟨rfl, rfl⟩)) | fail)
    go_ret
    exact ⟨ret_int (by rw [HX.out]; rfl), B1.out⟩
set_option maxRecDepth 100000 in
theorem implCodeN_any (xs : List Clm) (p : ByteArray) (y : Int) (hs : ∀ b ∈ xs, b.src.size ≤ 1048576 ∧ b.place.size ≤ 1048576 ∧ b.val_.size ≤ 1048576) (hp : p.size ≤ 1048576) (A : Option Addr) (c : Nat) (w : World) (h : HasClm w xs A) :
    Calls Tryz.prog 67 #[.slice A xs.length c, .string p, .int .i64 y] w fun e w' => e = .returned (.int .i64 (codeN xs p y)) ∧ Below w.heap.size w w' := by
  have HA := Lib.hid (implAreC_any xs A c w h hs); clear h hs
  have HW := Lib.hid (fun W => implWord_any p W (by omega))
  have HY := Lib.hid (implYear_any y)
  have HX := Lib.hid (show codeN xs p y = if (areC xs && wordB p) = true then (if inB y (-3000) 3000 = true then 0 else 2) else 1 from rfl)
  generalize codeN xs p y = r at HX ⊢
  generalize areC xs = q1 at *
  generalize wordB p = q2 at *
  generalize inB y (-3000) 3000 = q3 at *
  cases q1 <;> cases q2 <;> cases q3
  all_goals
    go_enter Tryz.func67, Tryz.ntmps67
    go_wp2_with fail
    refine HA.out.mono ?_; rintro e w1 ⟨rfl, b1⟩
    have B1 := Lib.hid b1; clear b1
    go_wp2_with (first | (go_at_call 107; (refine (HW.out _).mono ?_; rintro e wn ⟨rfl, bn⟩; (have B1 := Lib.hid (B1.out.trans (bn.mono B1.out.size))); clear bn)) | (go_at_call 108; (refine (HY.out _).mono ?_; rintro e wn ⟨rfl, rfl⟩)) | fail)
    go_ret
    exact ⟨ret_int (by rw [HX.out]; rfl), B1.out⟩
end Go.Proofs.YthlpclnfnfbeiaaGreatDoor
