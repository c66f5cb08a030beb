/- Claims: IsClaim of both. -/
import Derived.Test.YtihhpmhigmegjaaGreatDoorRows
import Derived.Test.YtihhpmhigmegjaaGreatDoorL0
import Derived.Test.YtihhpmhigmegjaaGreatDoorM0
import Derived.WalkKit
import Derived.ProofKit
import Derived.OpenShut
import Derived.BigQuiet
import Derived.Outline
import Derived.WalkSpells
import Derived.WalkLawsBesides
import Derived.Deep.DeepCutAuto
import Derived.Test.YtihhpmhigmegjaaGreatDoorO0
import Derived.Test.YtihhpmhigmegjaaGreatDoorG4
import Derived.Test.YtihhpmhigmegjaaGreatDoorI6
import Derived.Test.YtihhpmhigmegjaaGreatDoorMB
import Derived.Lib.Hide
namespace Go.Proofs.YtihhpmhigmegjaaGreatDoor
open Go.ChangeShapes Go.WideShapes Go.ChangeAt Go.RowKit

def spanB (lo hi : Int) : Bool := inB lo (-3000) 3000 && (inB hi (-3000) 3000 && decide (lo ≤ hi))
def valB (kind : Int) (place val_ : ByteArray) : Bool := if kind = 0 then phrB val_ else if kind = 1 then wordB val_ && !decide (val_ = place) else if kind = 2 ∨ kind = 3 then decide (val_ = ⟨#[]⟩) else false
/-- A claim is as described. -/
def clmB (c : Clm) : Bool := (wordB c.src && wordB c.place) && (valB c.kind c.place c.val_ && (spanB c.lo c.hi && inB c.weight 1 100))
theorem str_nil (s : ByteArray) : (s.toList == []) = decide (s = ⟨#[]⟩) ∧ s.toList.isEmpty = decide (s = ⟨#[]⟩) := by
  have h := str_lit s []
  refine ⟨h, ?_⟩
  rw [← h]
  cases s.toList <;> rfl
theorem specSpan_any (lo hi : Int) (w : World) : Calls Tryz.prog 128 #[.agg #[.int .i64 lo, .int .i64 hi]] w fun e w' => e = .returned (.bool (spanB lo hi)) ∧ Below w.heap.size w w' := by
  have I1 := Lib.hid (specYear_any lo)
  have I2 := Lib.hid (specYear_any hi)
  have HX := Lib.hid (show spanB lo hi = (inB lo (-3000) 3000 && (inB hi (-3000) 3000 && decide (lo ≤ hi))) from rfl)
  generalize spanB lo hi = r at HX ⊢
  generalize inB lo (-3000) 3000 = q1 at I1 HX
  generalize inB hi (-3000) 3000 = q2 at I2 HX
  cases q1 <;> cases q2
  all_goals
    go_enter Tryz.func128, Tryz.ntmps128
    go_wp2_with (first | (go_at_call 102; ((with_reducible refine (I1.out _).mono ?_); rintro e wn ⟨rfl, rfl⟩)) | (go_at_call 102; ((with_reducible refine (I2.out _).mono ?_); rintro e wn ⟨rfl, rfl⟩)) | fail)
    go_ret
    exact ⟨ret_bool (by rw [HX.out]; simp), by (repeat (first | exact Below.refl _ _ | assumption | refine Below.drew ?_ | refine below_drewN' ?_ _ | refine Below.alloc ?_ (by (try simp); (try omega)) _ | refine Below.setCell ?_ (by (try simp); (try omega)) _))⟩
theorem implSpan_any (lo hi : Int) (w : World) : Calls Tryz.prog 126 #[.agg #[.int .i64 lo, .int .i64 hi]] w fun e w' => e = .returned (.bool (spanB lo hi)) ∧ Below w.heap.size w w' := by
  have I1 := Lib.hid (implYear_any lo)
  have I2 := Lib.hid (implYear_any hi)
  have HX := Lib.hid (show spanB lo hi = (inB lo (-3000) 3000 && (inB hi (-3000) 3000 && decide (lo ≤ hi))) from rfl)
  generalize spanB lo hi = r at HX ⊢
  generalize inB lo (-3000) 3000 = q1 at I1 HX
  generalize inB hi (-3000) 3000 = q2 at I2 HX
  cases q1 <;> cases q2
  all_goals
    go_enter Tryz.func126, Tryz.ntmps126
    go_wp2_with (first | (go_at_call 100; ((with_reducible refine (I1.out _).mono ?_); rintro e wn ⟨rfl, rfl⟩)) | (go_at_call 100; ((with_reducible refine (I2.out _).mono ?_); rintro e wn ⟨rfl, rfl⟩)) | fail)
    go_ret
    exact ⟨ret_bool (by rw [HX.out]; simp), by (repeat (first | exact Below.refl _ _ | assumption | refine Below.drew ?_ | refine below_drewN' ?_ _ | refine Below.alloc ?_ (by (try simp); (try omega)) _ | refine Below.setCell ?_ (by (try simp); (try omega)) _))⟩
set_option maxRecDepth 100000 in
set_option maxHeartbeats 2000000 in
theorem specClm_any (b : Clm) (hs : b.src.size ≤ 1048576 ∧ b.place.size ≤ 1048576 ∧ b.val_.size ≤ 1048576) (w : World) :
    Calls Tryz.prog 65 #[b.val] w fun e w' => e = .returned (.bool (clmB b)) ∧ Below w.heap.size w w' := by
  obtain ⟨src, kind, place, val_, lo, hi, weight⟩ := b
  obtain ⟨s1, s2, s3⟩ := hs
  dsimp only at s1 s2 s3
  have H1 := Lib.hid (fun w => specWord_any src w (by omega))
  have H2 := Lib.hid (fun w => specWord_any place w (by omega))
  have H3 := Lib.hid (specSpan_any lo hi)
  have H4 := Lib.hid (specIn_any weight 1 100)
  have H5 := Lib.hid (specPhr_any val_ (by omega))
  have H6 := Lib.hid (fun w => specWord_any val_ w (by omega))
  have HX := Lib.hid (show clmB ⟨src, kind, place, val_, lo, hi, weight⟩ = ((wordB src && wordB place) && (valB kind place val_ && (spanB lo hi && inB weight 1 100))) from rfl)
  have KN := Lib.hid (blks_one w 81 #[.string src, .int .i64 kind, .string place, .string val_, .int .i64 lo, .int .i64 hi, .int .i64 weight])
  have n1 := str_eq val_ place
  obtain ⟨n2, n3⟩ := str_nil val_
  unfold Clm.val
  dsimp only
  generalize clmB ⟨src, kind, place, val_, lo, hi, weight⟩ = r at HX ⊢
  generalize wordB src = q1 at *
  generalize wordB place = q2 at *
  generalize spanB lo hi = q3 at *
  generalize inB weight 1 100 = q4 at *
  rcases (show (q1 && (q2 && (q3 && q4))) = false ∨ (q1 = true ∧ q2 = true ∧ q3 = true ∧ q4 = true) by cases q1 <;> cases q2 <;> cases q3 <;> cases q4 <;> simp) with hq | ⟨rfl, rfl, rfl, rfl⟩
  · have HR := Lib.hid (show r = false by rw [HX.out]; cases q1 <;> cases q2 <;> cases q3 <;> cases q4 <;> simp at hq ⊢)
    clear HX n1 n2 n3
    cases q1 <;> cases q2 <;> cases q3 <;> cases q4
    all_goals first | (simp at hq; done) | skip
    all_goals
      clear hq
      go_enter Tryz.func65, Tryz.ntmps65
      go_wp2_with fail
      generalize hW : w.alloc (.cells #[.string src, .int .i64 kind, .string place, .string val_, .int .i64 lo, .int .i64 hi, .int .i64 weight] 81) = W
      obtain ⟨bk, bw, _⟩ := KN.out W hW.symm
      clear hW
      have K1 := Lib.hid bk; have B1 := Lib.hid bw
      obtain ⟨c0, c1, c2, c3, c4, c5, c6⟩ := cells_7 bk
      clear bk bw
      go_wp2_with (first | (go_at_call 127; ((with_reducible refine (H1.out _).mono ?_); rintro e wn ⟨rfl, rfl⟩)) | (go_at_call 127; ((with_reducible refine (H2.out _).mono ?_); rintro e wn ⟨rfl, rfl⟩)) | (go_at_call 128; ((with_reducible refine (H3.out _).mono ?_); rintro e wn ⟨rfl, bn⟩; (have K1 := Lib.hid (K1.out.below bn K1.out.lt)); (have B1 := Lib.hid (B1.out.trans (bn.mono B1.out.size))); obtain ⟨c0, c1, c2, c3, c4, c5, c6⟩ := cells_7 K1.out; clear bn)) | (go_at_call 93; ((with_reducible refine (H4.out _).mono ?_); rintro e wn ⟨rfl, rfl⟩)) | fail)
      go_ret
      exact ⟨ret_bool HR.out.symm, B1.out⟩
  · have HY := Lib.hid (show r = valB kind place val_ by rw [HX.out]; simp)
    clear HX
    unfold valB at HY
    rcases (show kind = 0 ∨ kind = 1 ∨ kind = 2 ∨ kind = 3 ∨ (kind ≠ 0 ∧ kind ≠ 1 ∧ kind ≠ 2 ∧ kind ≠ 3) by omega) with rfl | rfl | rfl | rfl | ⟨h0, h1, h2, h3⟩
    · have HR := Lib.hid (show r = phrB val_ by rw [HY.out]; rfl)
      generalize phrB val_ = q5 at *
      go_enter Tryz.func65, Tryz.ntmps65
      go_wp2_with fail
      generalize hW : w.alloc (.cells #[.string src, .int .i64 0, .string place, .string val_, .int .i64 lo, .int .i64 hi, .int .i64 weight] 81) = W
      obtain ⟨bk, bw, _⟩ := KN.out W hW.symm
      clear hW
      have K1 := Lib.hid bk; have B1 := Lib.hid bw
      obtain ⟨c0, c1, c2, c3, c4, c5, c6⟩ := cells_7 bk
      clear bk bw
      go_wp2_with (first | (go_at_call 127; ((with_reducible refine (H1.out _).mono ?_); rintro e wn ⟨rfl, rfl⟩)) | (go_at_call 127; ((with_reducible refine (H2.out _).mono ?_); rintro e wn ⟨rfl, rfl⟩)) | (go_at_call 128; ((with_reducible refine (H3.out _).mono ?_); rintro e wn ⟨rfl, bn⟩; (have K1 := Lib.hid (K1.out.below bn K1.out.lt)); (have B1 := Lib.hid (B1.out.trans (bn.mono B1.out.size))); obtain ⟨c0, c1, c2, c3, c4, c5, c6⟩ := cells_7 K1.out; clear bn)) | (go_at_call 93; ((with_reducible refine (H4.out _).mono ?_); rintro e wn ⟨rfl, rfl⟩)) | (go_at_call 86; ((with_reducible refine (H5.out _).mono ?_); rintro e wn ⟨rfl, bn⟩; (have K1 := Lib.hid (K1.out.below bn K1.out.lt)); (have B1 := Lib.hid (B1.out.trans (bn.mono B1.out.size))); obtain ⟨c0, c1, c2, c3, c4, c5, c6⟩ := cells_7 K1.out; clear bn)) | (go_at_call 127; ((with_reducible refine (H6.out _).mono ?_); rintro e wn ⟨rfl, rfl⟩)) | fail)
      go_ret
      exact ⟨ret_bool (by first | rfl | (rw [HR.out]; done) | (rw [HR.out]; simp)), B1.out⟩
    · have HR := Lib.hid (show r = (wordB val_ && !decide (val_ = place)) by rw [HY.out]; rfl)
      generalize decide (val_ = place) = q7 at *
      generalize wordB val_ = q6 at *
      cases q6
      all_goals
        go_enter Tryz.func65, Tryz.ntmps65
        go_wp2_with fail
        generalize hW : w.alloc (.cells #[.string src, .int .i64 1, .string place, .string val_, .int .i64 lo, .int .i64 hi, .int .i64 weight] 81) = W
        obtain ⟨bk, bw, _⟩ := KN.out W hW.symm
        clear hW
        have K1 := Lib.hid bk; have B1 := Lib.hid bw
        obtain ⟨c0, c1, c2, c3, c4, c5, c6⟩ := cells_7 bk
        clear bk bw
        go_wp2_with (first | (go_at_call 127; ((with_reducible refine (H1.out _).mono ?_); rintro e wn ⟨rfl, rfl⟩)) | (go_at_call 127; ((with_reducible refine (H2.out _).mono ?_); rintro e wn ⟨rfl, rfl⟩)) | (go_at_call 128; ((with_reducible refine (H3.out _).mono ?_); rintro e wn ⟨rfl, bn⟩; (have K1 := Lib.hid (K1.out.below bn K1.out.lt)); (have B1 := Lib.hid (B1.out.trans (bn.mono B1.out.size))); obtain ⟨c0, c1, c2, c3, c4, c5, c6⟩ := cells_7 K1.out; clear bn)) | (go_at_call 93; ((with_reducible refine (H4.out _).mono ?_); rintro e wn ⟨rfl, rfl⟩)) | (go_at_call 86; ((with_reducible refine (H5.out _).mono ?_); rintro e wn ⟨rfl, bn⟩; (have K1 := Lib.hid (K1.out.below bn K1.out.lt)); (have B1 := Lib.hid (B1.out.trans (bn.mono B1.out.size))); obtain ⟨c0, c1, c2, c3, c4, c5, c6⟩ := cells_7 K1.out; clear bn)) | (go_at_call 127; ((with_reducible refine (H6.out _).mono ?_); rintro e wn ⟨rfl, rfl⟩)) | fail)
        go_ret
        exact ⟨ret_bool (by first | rfl | (rw [HR.out]; done) | (rw [HR.out]; simp)), B1.out⟩
    · have HR := Lib.hid (show r = decide (val_ = ⟨#[]⟩) by rw [HY.out]; rfl)
      generalize decide (val_ = ⟨#[]⟩) = q7 at *
      go_enter Tryz.func65, Tryz.ntmps65
      go_wp2_with fail
      generalize hW : w.alloc (.cells #[.string src, .int .i64 2, .string place, .string val_, .int .i64 lo, .int .i64 hi, .int .i64 weight] 81) = W
      obtain ⟨bk, bw, _⟩ := KN.out W hW.symm
      clear hW
      have K1 := Lib.hid bk; have B1 := Lib.hid bw
      obtain ⟨c0, c1, c2, c3, c4, c5, c6⟩ := cells_7 bk
      clear bk bw
      go_wp2_with (first | (go_at_call 127; ((with_reducible refine (H1.out _).mono ?_); rintro e wn ⟨rfl, rfl⟩)) | (go_at_call 127; ((with_reducible refine (H2.out _).mono ?_); rintro e wn ⟨rfl, rfl⟩)) | (go_at_call 128; ((with_reducible refine (H3.out _).mono ?_); rintro e wn ⟨rfl, bn⟩; (have K1 := Lib.hid (K1.out.below bn K1.out.lt)); (have B1 := Lib.hid (B1.out.trans (bn.mono B1.out.size))); obtain ⟨c0, c1, c2, c3, c4, c5, c6⟩ := cells_7 K1.out; clear bn)) | (go_at_call 93; ((with_reducible refine (H4.out _).mono ?_); rintro e wn ⟨rfl, rfl⟩)) | (go_at_call 86; ((with_reducible refine (H5.out _).mono ?_); rintro e wn ⟨rfl, bn⟩; (have K1 := Lib.hid (K1.out.below bn K1.out.lt)); (have B1 := Lib.hid (B1.out.trans (bn.mono B1.out.size))); obtain ⟨c0, c1, c2, c3, c4, c5, c6⟩ := cells_7 K1.out; clear bn)) | (go_at_call 127; ((with_reducible refine (H6.out _).mono ?_); rintro e wn ⟨rfl, rfl⟩)) | fail)
      go_ret
      exact ⟨ret_bool (by first | rfl | (rw [HR.out]; done) | (rw [HR.out]; simp)), B1.out⟩
    · have HR := Lib.hid (show r = decide (val_ = ⟨#[]⟩) by rw [HY.out]; rfl)
      generalize decide (val_ = ⟨#[]⟩) = q7 at *
      go_enter Tryz.func65, Tryz.ntmps65
      go_wp2_with fail
      generalize hW : w.alloc (.cells #[.string src, .int .i64 3, .string place, .string val_, .int .i64 lo, .int .i64 hi, .int .i64 weight] 81) = W
      obtain ⟨bk, bw, _⟩ := KN.out W hW.symm
      clear hW
      have K1 := Lib.hid bk; have B1 := Lib.hid bw
      obtain ⟨c0, c1, c2, c3, c4, c5, c6⟩ := cells_7 bk
      clear bk bw
      go_wp2_with (first | (go_at_call 127; ((with_reducible refine (H1.out _).mono ?_); rintro e wn ⟨rfl, rfl⟩)) | (go_at_call 127; ((with_reducible refine (H2.out _).mono ?_); rintro e wn ⟨rfl, rfl⟩)) | (go_at_call 128; ((with_reducible refine (H3.out _).mono ?_); rintro e wn ⟨rfl, bn⟩; (have K1 := Lib.hid (K1.out.below bn K1.out.lt)); (have B1 := Lib.hid (B1.out.trans (bn.mono B1.out.size))); obtain ⟨c0, c1, c2, c3, c4, c5, c6⟩ := cells_7 K1.out; clear bn)) | (go_at_call 93; ((with_reducible refine (H4.out _).mono ?_); rintro e wn ⟨rfl, rfl⟩)) | (go_at_call 86; ((with_reducible refine (H5.out _).mono ?_); rintro e wn ⟨rfl, bn⟩; (have K1 := Lib.hid (K1.out.below bn K1.out.lt)); (have B1 := Lib.hid (B1.out.trans (bn.mono B1.out.size))); obtain ⟨c0, c1, c2, c3, c4, c5, c6⟩ := cells_7 K1.out; clear bn)) | (go_at_call 127; ((with_reducible refine (H6.out _).mono ?_); rintro e wn ⟨rfl, rfl⟩)) | fail)
      go_ret
      exact ⟨ret_bool (by first | rfl | (rw [HR.out]; done) | (rw [HR.out]; simp)), B1.out⟩
    · have HR := Lib.hid (show r = false by rw [HY.out, if_neg h0, if_neg h1, if_neg (by omega)])
      go_enter Tryz.func65, Tryz.ntmps65
      go_wp2_with fail
      generalize hW : w.alloc (.cells #[.string src, .int .i64 kind, .string place, .string val_, .int .i64 lo, .int .i64 hi, .int .i64 weight] 81) = W
      obtain ⟨bk, bw, _⟩ := KN.out W hW.symm
      clear hW
      have K1 := Lib.hid bk; have B1 := Lib.hid bw
      obtain ⟨c0, c1, c2, c3, c4, c5, c6⟩ := cells_7 bk
      clear bk bw
      go_wp2_with (first | (go_at_call 127; ((with_reducible refine (H1.out _).mono ?_); rintro e wn ⟨rfl, rfl⟩)) | (go_at_call 127; ((with_reducible refine (H2.out _).mono ?_); rintro e wn ⟨rfl, rfl⟩)) | (go_at_call 128; ((with_reducible refine (H3.out _).mono ?_); rintro e wn ⟨rfl, bn⟩; (have K1 := Lib.hid (K1.out.below bn K1.out.lt)); (have B1 := Lib.hid (B1.out.trans (bn.mono B1.out.size))); obtain ⟨c0, c1, c2, c3, c4, c5, c6⟩ := cells_7 K1.out; clear bn)) | (go_at_call 93; ((with_reducible refine (H4.out _).mono ?_); rintro e wn ⟨rfl, rfl⟩)) | (go_at_call 86; ((with_reducible refine (H5.out _).mono ?_); rintro e wn ⟨rfl, bn⟩; (have K1 := Lib.hid (K1.out.below bn K1.out.lt)); (have B1 := Lib.hid (B1.out.trans (bn.mono B1.out.size))); obtain ⟨c0, c1, c2, c3, c4, c5, c6⟩ := cells_7 K1.out; clear bn)) | (go_at_call 127; ((with_reducible refine (H6.out _).mono ?_); rintro e wn ⟨rfl, rfl⟩)) | fail)
      go_ret
      exact ⟨ret_bool (by first | rfl | (rw [HR.out]; done) | (rw [HR.out]; simp)), B1.out⟩
set_option maxRecDepth 100000 in
set_option maxHeartbeats 2000000 in
theorem implVal_any (b : Clm) (hs : b.src.size ≤ 1048576 ∧ b.place.size ≤ 1048576 ∧ b.val_.size ≤ 1048576) (w : World) :
    Calls Tryz.prog 125 #[b.val] w fun e w' => e = .returned (.bool (valB b.kind b.place b.val_)) ∧ Below w.heap.size w w' := by
  obtain ⟨src, kind, place, val_, lo, hi, weight⟩ := b
  obtain ⟨s1, s2, s3⟩ := hs
  dsimp only at s1 s2 s3
  have H5 := Lib.hid (implPhr_any val_ (by omega))
  have H6 := Lib.hid (fun w => implWord_any val_ w (by omega))
  have KN := Lib.hid (blks_one w 81 #[.string src, .int .i64 kind, .string place, .string val_, .int .i64 lo, .int .i64 hi, .int .i64 weight])
  have n1 := str_eq val_ place
  obtain ⟨n2, n3⟩ := str_nil val_
  unfold Clm.val
  dsimp only
  obtain ⟨r, HY⟩ : ∃ r, r = valB kind place val_ := ⟨_, rfl⟩
  rw [← HY]
  unfold valB at HY
  have HY := Lib.hid HY
  rcases (show kind = 0 ∨ kind = 1 ∨ kind = 2 ∨ kind = 3 ∨ (kind ≠ 0 ∧ kind ≠ 1 ∧ kind ≠ 2 ∧ kind ≠ 3) by omega) with rfl | rfl | rfl | rfl | ⟨h0, h1, h2, h3⟩
  · have HR := Lib.hid (show r = phrB val_ by rw [HY.out]; rfl)
    generalize phrB val_ = q5 at *
    go_enter Tryz.func125, Tryz.ntmps125
    go_wp2_with fail
    generalize hW : w.alloc (.cells #[.string src, .int .i64 0, .string place, .string val_, .int .i64 lo, .int .i64 hi, .int .i64 weight] 81) = W
    obtain ⟨bk, bw, _⟩ := KN.out W hW.symm
    clear hW
    have K1 := Lib.hid bk; have B1 := Lib.hid bw
    obtain ⟨c0, c1, c2, c3, c4, c5, c6⟩ := cells_7 bk
    clear bk bw
    go_wp2_with (first | (go_at_call 83; ((with_reducible refine (H5.out _).mono ?_); rintro e wn ⟨rfl, bn⟩; (have K1 := Lib.hid (K1.out.below bn K1.out.lt)); (have B1 := Lib.hid (B1.out.trans (bn.mono B1.out.size))); obtain ⟨c0, c1, c2, c3, c4, c5, c6⟩ := cells_7 K1.out; clear bn)) | (go_at_call 166; ((with_reducible refine (H6.out _).mono ?_); rintro e wn ⟨rfl, bn⟩; (have K1 := Lib.hid (K1.out.below bn K1.out.lt)); (have B1 := Lib.hid (B1.out.trans (bn.mono B1.out.size))); obtain ⟨c0, c1, c2, c3, c4, c5, c6⟩ := cells_7 K1.out; clear bn)) | fail)
    go_ret
    exact ⟨ret_bool (by first | rfl | (rw [HR.out]; done) | (rw [HR.out]; simp)), B1.out⟩
  · have HR := Lib.hid (show r = (wordB val_ && !decide (val_ = place)) by rw [HY.out]; rfl)
    generalize decide (val_ = place) = q7 at *
    generalize wordB val_ = q6 at *
    cases q6
    all_goals
      go_enter Tryz.func125, Tryz.ntmps125
      go_wp2_with fail
      generalize hW : w.alloc (.cells #[.string src, .int .i64 1, .string place, .string val_, .int .i64 lo, .int .i64 hi, .int .i64 weight] 81) = W
      obtain ⟨bk, bw, _⟩ := KN.out W hW.symm
      clear hW
      have K1 := Lib.hid bk; have B1 := Lib.hid bw
      obtain ⟨c0, c1, c2, c3, c4, c5, c6⟩ := cells_7 bk
      clear bk bw
      go_wp2_with (first | (go_at_call 83; ((with_reducible refine (H5.out _).mono ?_); rintro e wn ⟨rfl, bn⟩; (have K1 := Lib.hid (K1.out.below bn K1.out.lt)); (have B1 := Lib.hid (B1.out.trans (bn.mono B1.out.size))); obtain ⟨c0, c1, c2, c3, c4, c5, c6⟩ := cells_7 K1.out; clear bn)) | (go_at_call 166; ((with_reducible refine (H6.out _).mono ?_); rintro e wn ⟨rfl, bn⟩; (have K1 := Lib.hid (K1.out.below bn K1.out.lt)); (have B1 := Lib.hid (B1.out.trans (bn.mono B1.out.size))); obtain ⟨c0, c1, c2, c3, c4, c5, c6⟩ := cells_7 K1.out; clear bn)) | fail)
      go_ret
      exact ⟨ret_bool (by first | rfl | (rw [HR.out]; done) | (rw [HR.out]; simp)), B1.out⟩
  · have HR := Lib.hid (show r = decide (val_ = ⟨#[]⟩) by rw [HY.out]; rfl)
    generalize decide (val_ = ⟨#[]⟩) = q7 at *
    go_enter Tryz.func125, Tryz.ntmps125
    go_wp2_with fail
    generalize hW : w.alloc (.cells #[.string src, .int .i64 2, .string place, .string val_, .int .i64 lo, .int .i64 hi, .int .i64 weight] 81) = W
    obtain ⟨bk, bw, _⟩ := KN.out W hW.symm
    clear hW
    have K1 := Lib.hid bk; have B1 := Lib.hid bw
    obtain ⟨c0, c1, c2, c3, c4, c5, c6⟩ := cells_7 bk
    clear bk bw
    go_wp2_with (first | (go_at_call 83; ((with_reducible refine (H5.out _).mono ?_); rintro e wn ⟨rfl, bn⟩; (have K1 := Lib.hid (K1.out.below bn K1.out.lt)); (have B1 := Lib.hid (B1.out.trans (bn.mono B1.out.size))); obtain ⟨c0, c1, c2, c3, c4, c5, c6⟩ := cells_7 K1.out; clear bn)) | (go_at_call 166; ((with_reducible refine (H6.out _).mono ?_); rintro e wn ⟨rfl, bn⟩; (have K1 := Lib.hid (K1.out.below bn K1.out.lt)); (have B1 := Lib.hid (B1.out.trans (bn.mono B1.out.size))); obtain ⟨c0, c1, c2, c3, c4, c5, c6⟩ := cells_7 K1.out; clear bn)) | fail)
    go_ret
    exact ⟨ret_bool (by first | rfl | (rw [HR.out]; done) | (rw [HR.out]; simp)), B1.out⟩
  · have HR := Lib.hid (show r = decide (val_ = ⟨#[]⟩) by rw [HY.out]; rfl)
    generalize decide (val_ = ⟨#[]⟩) = q7 at *
    go_enter Tryz.func125, Tryz.ntmps125
    go_wp2_with fail
    generalize hW : w.alloc (.cells #[.string src, .int .i64 3, .string place, .string val_, .int .i64 lo, .int .i64 hi, .int .i64 weight] 81) = W
    obtain ⟨bk, bw, _⟩ := KN.out W hW.symm
    clear hW
    have K1 := Lib.hid bk; have B1 := Lib.hid bw
    obtain ⟨c0, c1, c2, c3, c4, c5, c6⟩ := cells_7 bk
    clear bk bw
    go_wp2_with (first | (go_at_call 83; ((with_reducible refine (H5.out _).mono ?_); rintro e wn ⟨rfl, bn⟩; (have K1 := Lib.hid (K1.out.below bn K1.out.lt)); (have B1 := Lib.hid (B1.out.trans (bn.mono B1.out.size))); obtain ⟨c0, c1, c2, c3, c4, c5, c6⟩ := cells_7 K1.out; clear bn)) | (go_at_call 166; ((with_reducible refine (H6.out _).mono ?_); rintro e wn ⟨rfl, bn⟩; (have K1 := Lib.hid (K1.out.below bn K1.out.lt)); (have B1 := Lib.hid (B1.out.trans (bn.mono B1.out.size))); obtain ⟨c0, c1, c2, c3, c4, c5, c6⟩ := cells_7 K1.out; clear bn)) | fail)
    go_ret
    exact ⟨ret_bool (by first | rfl | (rw [HR.out]; done) | (rw [HR.out]; simp)), B1.out⟩
  · have HR := Lib.hid (show r = false by rw [HY.out, if_neg h0, if_neg h1, if_neg (by omega)])
    go_enter Tryz.func125, Tryz.ntmps125
    go_wp2_with fail
    generalize hW : w.alloc (.cells #[.string src, .int .i64 kind, .string place, .string val_, .int .i64 lo, .int .i64 hi, .int .i64 weight] 81) = W
    obtain ⟨bk, bw, _⟩ := KN.out W hW.symm
    clear hW
    have K1 := Lib.hid bk; have B1 := Lib.hid bw
    obtain ⟨c0, c1, c2, c3, c4, c5, c6⟩ := cells_7 bk
    clear bk bw
    go_wp2_with (first | (go_at_call 83; ((with_reducible refine (H5.out _).mono ?_); rintro e wn ⟨rfl, bn⟩; (have K1 := Lib.hid (K1.out.below bn K1.out.lt)); (have B1 := Lib.hid (B1.out.trans (bn.mono B1.out.size))); obtain ⟨c0, c1, c2, c3, c4, c5, c6⟩ := cells_7 K1.out; clear bn)) | (go_at_call 166; ((with_reducible refine (H6.out _).mono ?_); rintro e wn ⟨rfl, bn⟩; (have K1 := Lib.hid (K1.out.below bn K1.out.lt)); (have B1 := Lib.hid (B1.out.trans (bn.mono B1.out.size))); obtain ⟨c0, c1, c2, c3, c4, c5, c6⟩ := cells_7 K1.out; clear bn)) | fail)
    go_ret
    exact ⟨ret_bool (by first | rfl | (rw [HR.out]; done) | (rw [HR.out]; simp)), B1.out⟩
set_option maxRecDepth 100000 in
set_option maxHeartbeats 2000000 in
theorem implClm_any (b : Clm) (hs : b.src.size ≤ 1048576 ∧ b.place.size ≤ 1048576 ∧ b.val_.size ≤ 1048576) (w : World) :
    Calls Tryz.prog 63 #[b.val] w fun e w' => e = .returned (.bool (clmB b)) ∧ Below w.heap.size w w' := by
  have H2 := Lib.hid (implVal_any b hs)
  obtain ⟨src, kind, place, val_, lo, hi, weight⟩ := b
  obtain ⟨s1, s2, s3⟩ := hs
  dsimp only at s1 s2 s3
  have H1 := Lib.hid (fun A c w hr => areWords_any [src, place] (by simp) (by simp; omega) A c w hr)
  have H3 := Lib.hid (implSpan_any lo hi)
  have H4 := Lib.hid (within_any weight 1 100)
  have HX := Lib.hid (show clmB ⟨src, kind, place, val_, lo, hi, weight⟩ = ([src, place].all wordB && (valB kind place val_ && (spanB lo hi && inB weight 1 100))) by simp [clmB])
  have KN := Lib.hid (blks_two w 81 9 #[.string src, .int .i64 kind, .string place, .string val_, .int .i64 lo, .int .i64 hi, .int .i64 weight] #[.string src, .string place])
  unfold Clm.val at H2 ⊢
  dsimp only at H2 ⊢
  generalize clmB ⟨src, kind, place, val_, lo, hi, weight⟩ = r at HX ⊢
  generalize [src, place].all wordB = q1 at *
  generalize valB kind place val_ = q2 at *
  generalize spanB lo hi = q3 at *
  generalize inB weight 1 100 = q4 at *
  cases q1 <;> cases q2 <;> cases q3
  all_goals
    go_enter Tryz.func63, Tryz.ntmps63
    go_wp2_with fail
    generalize hW : (w.alloc (.cells #[.string src, .int .i64 kind, .string place, .string val_, .int .i64 lo, .int .i64 hi, .int .i64 weight] 81)).alloc (.cells #[.string src, .string place] 9) = W
    obtain ⟨bk, b2, bw, _⟩ := KN.out W hW.symm
    clear hW
    refine (H1.out _ _ W (blk_rd (L := [.string src, .string place]) b2 rfl)).mono ?_; rintro e w1 ⟨rfl, bn⟩
    have K1 := Lib.hid (bk.below bn bk.lt); have B1 := Lib.hid (bw.trans (bn.mono bw.size))
    obtain ⟨c0, c1, c2, c3, c4, c5, c6⟩ := cells_7 K1.out
    clear bk b2 bw bn
    go_wp2_with (first | (go_at_call 125; ((with_reducible refine (H2.out _).mono ?_); rintro e wn ⟨rfl, bn⟩; (have K1 := Lib.hid (K1.out.below bn K1.out.lt)); (have B1 := Lib.hid (B1.out.trans (bn.mono B1.out.size))); obtain ⟨c0, c1, c2, c3, c4, c5, c6⟩ := cells_7 K1.out; clear bn)) | (go_at_call 126; ((with_reducible refine (H3.out _).mono ?_); rintro e wn ⟨rfl, bn⟩; (have K1 := Lib.hid (K1.out.below bn K1.out.lt)); (have B1 := Lib.hid (B1.out.trans (bn.mono B1.out.size))); obtain ⟨c0, c1, c2, c3, c4, c5, c6⟩ := cells_7 K1.out; clear bn)) | (go_at_call 62; ((with_reducible refine (H4.out _).mono ?_); rintro e wn ⟨rfl, rfl⟩)) | fail)
    go_ret
    exact ⟨ret_bool (by first | rfl | (rw [HX.out]; done) | (rw [HX.out]; simp)), B1.out⟩
end Go.Proofs.YtihhpmhigmegjaaGreatDoor
