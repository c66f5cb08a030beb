/- Claims of both: whether two contradict each other, whether one tells a fact. -/
import Derived.Test.YtihhpmhigmegjaaGreatDoorRows
import Derived.Test.YtihhpmhigmegjaaGreatDoorL0
import Derived.Test.YtihhpmhigmegjaaGreatDoorM0
import Derived.WalkKit
import Derived.ProofKit
import Derived.OpenShut
import Derived.BigQuiet
import Derived.Outline
import Derived.WalkSpells
import Derived.WalkLawsBesides
import Derived.Deep.DeepCutAuto
import Derived.Test.YtihhpmhigmegjaaGreatDoorO3
import Derived.Test.YtihhpmhigmegjaaGreatDoorFF0
namespace Go.Proofs.YtihhpmhigmegjaaGreatDoor
open Go.ChangeShapes Go.WideShapes Go.ChangeAt Go.RowKit

theorem specMeet_any (a b c d : Int) (w : World) : Calls Tryz.prog 161 #[.agg #[.int .i64 a, .int .i64 b], .agg #[.int .i64 c, .int .i64 d]] w fun e w' => e = .returned (.bool (decide (a ≤ d) && decide (c ≤ b))) ∧ Below w.heap.size w w' := by
  by_cases h : a ≤ d
  all_goals
    go_enter Tryz.func161, Tryz.ntmps161
    go_wp2
    all_goals
      go_ret
      exact ⟨ret_bool (by first | (simp [h]; done) | (simp; omega)), by (repeat (first | exact Below.refl _ _ | assumption | refine Below.drew ?_ | refine below_drewN' ?_ _ | refine Below.alloc ?_ (by (try simp); (try omega)) _ | refine Below.setCell ?_ (by (try simp); (try omega)) _))⟩
theorem implMeet_any (a b c d : Int) (w : World) : Calls Tryz.prog 159 #[.agg #[.int .i64 a, .int .i64 b], .agg #[.int .i64 c, .int .i64 d]] w fun e w' => e = .returned (.bool (decide (a ≤ d) && decide (c ≤ b))) ∧ Below w.heap.size w w' := by
  by_cases h : a ≤ d
  all_goals
    go_enter Tryz.func159, Tryz.ntmps159
    go_wp2
    all_goals
      go_ret
      exact ⟨ret_bool (by first | (simp [h]; done) | (simp; omega)), by (repeat (first | exact Below.refl _ _ | assumption | refine Below.drew ?_ | refine below_drewN' ?_ _ | refine Below.alloc ?_ (by (try simp); (try omega)) _ | refine Below.setCell ?_ (by (try simp); (try omega)) _))⟩
theorem implHas_any (lo hi y : Int) (w : World) : Calls Tryz.prog 158 #[.agg #[.int .i64 lo, .int .i64 hi], .int .i64 y] w fun e w' => e = .returned (.bool (inB y lo hi)) ∧ Below w.heap.size w w' := by
  have I1 := Lib.hid (within_any y lo hi)
  generalize inB y lo hi = q at *
  go_enter Tryz.func158, Tryz.ntmps158
  go_wp2_with fail
  refine (I1.out _).mono ?_; rintro e w' ⟨rfl, rfl⟩
  go_wp2_with fail
  go_ret
  exact ⟨rfl, by (repeat (first | exact Below.refl _ _ | assumption | refine Below.drew ?_ | refine below_drewN' ?_ _ | refine Below.alloc ?_ (by (try simp); (try omega)) _ | refine Below.setCell ?_ (by (try simp); (try omega)) _))⟩
set_option maxRecDepth 100000 in
theorem wo_any (a b : Clm) (w : World) : Calls Tryz.prog 160 #[a.val, b.val] w fun e w' => e = .returned (.bool (woB a b)) ∧ Below w.heap.size w w' := by
  obtain ⟨az, ak, ap, av, al, ah, aw⟩ := a
  obtain ⟨bz, bk, bp, bv, bl, bh, bw⟩ := b
  unfold Clm.val woB
  dsimp only
  have n1 := str_eq bp av
  by_cases h1 : ak = 1
  · have e1 : (ak == 1) = true := by simpa using h1
    rw [decide_eq_true h1]
    clear h1
    by_cases h3 : bk = 3
    · have e3 : (bk == 3) = true := by simpa using h3
      rw [decide_eq_true h3]
      clear h3
      generalize decide (bp = av) = q at *
      go_enter Tryz.func160, Tryz.ntmps160
      go_wp2
      go_ret
      exact ⟨ret_bool (by simp), by (repeat (first | exact Below.refl _ _ | assumption | refine Below.drew ?_ | refine below_drewN' ?_ _ | refine Below.alloc ?_ (by (try simp); (try omega)) _ | refine Below.setCell ?_ (by (try simp); (try omega)) _))⟩
    · have e3 : (bk == 3) = false := by simpa using h3
      rw [decide_eq_false h3]
      clear h3
      go_enter Tryz.func160, Tryz.ntmps160
      go_wp2
      go_ret
      exact ⟨ret_bool (by simp), by (repeat (first | exact Below.refl _ _ | assumption | refine Below.drew ?_ | refine below_drewN' ?_ _ | refine Below.alloc ?_ (by (try simp); (try omega)) _ | refine Below.setCell ?_ (by (try simp); (try omega)) _))⟩
  · have e1 : (ak == 1) = false := by simpa using h1
    rw [decide_eq_false h1]
    clear h1
    go_enter Tryz.func160, Tryz.ntmps160
    go_wp2
    go_ret
    exact ⟨ret_bool (by simp), by (repeat (first | exact Below.refl _ _ | assumption | refine Below.drew ?_ | refine below_drewN' ?_ _ | refine Below.alloc ?_ (by (try simp); (try omega)) _ | refine Below.setCell ?_ (by (try simp); (try omega)) _))⟩
set_option maxRecDepth 100000 in
set_option maxHeartbeats 4000000 in
theorem specCtr_any (a b : Clm) (w : World) : Calls Tryz.prog 120 #[a.val, b.val] w fun e w' => e = .returned (.bool (ctrB a b)) ∧ Below w.heap.size w w' := by
  obtain ⟨az, ak, ap, av, al, ah, aw⟩ := a
  obtain ⟨bz, bk, bp, bv, bl, bh, bw⟩ := b
  have HM := Lib.hid (specMeet_any al ah bl bh)
  obtain ⟨W, hW⟩ : ∃ W, (w.alloc (.cells #[.string az, .int .i64 ak, .string ap, .string av, .int .i64 al, .int .i64 ah, .int .i64 aw] 81)).alloc (.cells #[.string bz, .int .i64 bk, .string bp, .string bv, .int .i64 bl, .int .i64 bh, .int .i64 bw] 81) = W := ⟨_, rfl⟩
  obtain ⟨ka, kb, bw', _⟩ := blks_two w 81 81 #[.string az, .int .i64 ak, .string ap, .string av, .int .i64 al, .int .i64 ah, .int .i64 aw] #[.string bz, .int .i64 bk, .string bp, .string bv, .int .i64 bl, .int .i64 bh, .int .i64 bw] W hW.symm
  have KW := Lib.hid hW; have KA := Lib.hid ka; have KB := Lib.hid kb; have B1 := Lib.hid bw'
  clear hW ka kb bw'
  have n1 := str_eq av bp
  have n2 := str_eq bv ap
  have n3 := str_eq ap bp
  have n4 := str_eq av bv
  have HX := Lib.hid (show ctrB ⟨az, ak, ap, av, al, ah, aw⟩ ⟨bz, bk, bp, bv, bl, bh, bw⟩ = ((decide (al ≤ bh) && decide (bl ≤ ah)) && (((decide (ak = 1) && (decide (bk = 3) && decide (av = bp))) || (decide (bk = 1) && (decide (ak = 3) && decide (bv = ap)))) || (decide (ap = bp) && ((decide (ak = 3) != decide (bk = 3)) || (decide (ak = bk) && ((decide (ak = 0) || decide (ak = 1)) && !decide (av = bv))))))) by simp only [ctrB, meetB, woB, npB, eq_comm])
  unfold Clm.val
  dsimp only
  generalize ctrB ⟨az, ak, ap, av, al, ah, aw⟩ ⟨bz, bk, bp, bv, bl, bh, bw⟩ = r at HX ⊢
  generalize (decide (al ≤ bh) && decide (bl ≤ ah)) = m at *
  generalize decide (av = bp) = s1 at *
  generalize decide (bv = ap) = s2 at *
  generalize decide (ap = bp) = s3 at *
  generalize decide (av = bv) = s4 at *
  cases m
  · clear n1 n2 n3 n4
    go_enter Tryz.func120, Tryz.ntmps120
    go_wp2_with fail
    rw [KW.out]
    go_wp2_with (first | (go_at_call 161; ((with_reducible refine (HM.out _).mono ?_); rintro e wn ⟨rfl, bn⟩; (have KA := Lib.hid (KA.out.below bn KA.out.lt)); (have KB := Lib.hid (KB.out.below bn KB.out.lt)); (have B1 := Lib.hid (B1.out.trans (bn.mono B1.out.size))); obtain ⟨x0, x1, x2, x3, x4, x5, x6⟩ := cells_7 KA.out; obtain ⟨y0, y1, y2, y3, y4, y5, y6⟩ := cells_7 KB.out; clear bn)) | fail)
    all_goals
      go_ret
      exact ⟨ret_bool (by first | rfl | (rw [HX.out]; done) | (rw [HX.out]; simp; done) | (rw [HX.out]; simp; intro hz; omega)), B1.out⟩
  · rcases (show ak = 0 ∨ ak = 1 ∨ ak = 3 ∨ (ak ≠ 0 ∧ ak ≠ 1 ∧ ak ≠ 3) by omega) with rfl | rfl | rfl | ⟨u0, u1, u3⟩ <;> rcases (show bk = 0 ∨ bk = 1 ∨ bk = 3 ∨ (bk ≠ 0 ∧ bk ≠ 1 ∧ bk ≠ 3) by omega) with rfl | rfl | rfl | ⟨v0, v1, v3⟩
    all_goals first | ((have fu0 : (ak == 0) = false := by simpa using u0); (have gu0 : ((0 : Int) == ak) = false := by rw [beq_eq_false_iff_ne]; omega); (have fu1 : (ak == 1) = false := by simpa using u1); (have gu1 : ((1 : Int) == ak) = false := by rw [beq_eq_false_iff_ne]; omega); (have fu3 : (ak == 3) = false := by simpa using u3); (have gu3 : ((3 : Int) == ak) = false := by rw [beq_eq_false_iff_ne]; omega); (have fv0 : (bk == 0) = false := by simpa using v0); (have gv0 : ((0 : Int) == bk) = false := by rw [beq_eq_false_iff_ne]; omega); (have fv1 : (bk == 1) = false := by simpa using v1); (have gv1 : ((1 : Int) == bk) = false := by rw [beq_eq_false_iff_ne]; omega); (have fv3 : (bk == 3) = false := by simpa using v3); (have gv3 : ((3 : Int) == bk) = false := by rw [beq_eq_false_iff_ne]; omega)) | ((have fu0 : (ak == 0) = false := by simpa using u0); (have gu0 : ((0 : Int) == ak) = false := by rw [beq_eq_false_iff_ne]; omega); (have fu1 : (ak == 1) = false := by simpa using u1); (have gu1 : ((1 : Int) == ak) = false := by rw [beq_eq_false_iff_ne]; omega); (have fu3 : (ak == 3) = false := by simpa using u3); (have gu3 : ((3 : Int) == ak) = false := by rw [beq_eq_false_iff_ne]; omega)) | ((have fv0 : (bk == 0) = false := by simpa using v0); (have gv0 : ((0 : Int) == bk) = false := by rw [beq_eq_false_iff_ne]; omega); (have fv1 : (bk == 1) = false := by simpa using v1); (have gv1 : ((1 : Int) == bk) = false := by rw [beq_eq_false_iff_ne]; omega); (have fv3 : (bk == 3) = false := by simpa using v3); (have gv3 : ((3 : Int) == bk) = false := by rw [beq_eq_false_iff_ne]; omega)) | skip
    all_goals
      cases s3
      all_goals
        go_enter Tryz.func120, Tryz.ntmps120
        go_wp2_with fail
        rw [KW.out]
        go_wp2_with (first | (go_at_call 161; ((with_reducible refine (HM.out _).mono ?_); rintro e wn ⟨rfl, bn⟩; (have KA := Lib.hid (KA.out.below bn KA.out.lt)); (have KB := Lib.hid (KB.out.below bn KB.out.lt)); (have B1 := Lib.hid (B1.out.trans (bn.mono B1.out.size))); obtain ⟨x0, x1, x2, x3, x4, x5, x6⟩ := cells_7 KA.out; obtain ⟨y0, y1, y2, y3, y4, y5, y6⟩ := cells_7 KB.out; clear bn)) | fail)
        all_goals
          go_ret
          exact ⟨ret_bool (by first | rfl | (rw [HX.out]; done) | (rw [HX.out]; simp [*]; done) | (rw [HX.out]; simp [*]; intro hz; omega)), B1.out⟩
set_option maxRecDepth 100000 in
set_option maxHeartbeats 4000000 in
theorem implCtr_any (a b : Clm) (w : World) : Calls Tryz.prog 119 #[a.val, b.val] w fun e w' => e = .returned (.bool (ctrB a b)) ∧ Below w.heap.size w w' := by
  have HW1 := Lib.hid (wo_any a b)
  have HW2 := Lib.hid (wo_any b a)
  obtain ⟨az, ak, ap, av, al, ah, aw⟩ := a
  obtain ⟨bz, bk, bp, bv, bl, bh, bw⟩ := b
  have HM := Lib.hid (implMeet_any al ah bl bh)
  obtain ⟨W, hW⟩ : ∃ W, (w.alloc (.cells #[.string az, .int .i64 ak, .string ap, .string av, .int .i64 al, .int .i64 ah, .int .i64 aw] 81)).alloc (.cells #[.string bz, .int .i64 bk, .string bp, .string bv, .int .i64 bl, .int .i64 bh, .int .i64 bw] 81) = W := ⟨_, rfl⟩
  obtain ⟨ka, kb, bw', _⟩ := blks_two w 81 81 #[.string az, .int .i64 ak, .string ap, .string av, .int .i64 al, .int .i64 ah, .int .i64 aw] #[.string bz, .int .i64 bk, .string bp, .string bv, .int .i64 bl, .int .i64 bh, .int .i64 bw] W hW.symm
  have KW := Lib.hid hW; have KA := Lib.hid ka; have KB := Lib.hid kb; have B1 := Lib.hid bw'
  clear hW ka kb bw'
  have n1 := str_eq av bp
  have n2 := str_eq bv ap
  have n3 := str_eq ap bp
  have n4 := str_eq av bv
  have HX := Lib.hid (show ctrB ⟨az, ak, ap, av, al, ah, aw⟩ ⟨bz, bk, bp, bv, bl, bh, bw⟩ = ((decide (al ≤ bh) && decide (bl ≤ ah)) && ((woB ⟨az, ak, ap, av, al, ah, aw⟩ ⟨bz, bk, bp, bv, bl, bh, bw⟩ || woB ⟨bz, bk, bp, bv, bl, bh, bw⟩ ⟨az, ak, ap, av, al, ah, aw⟩) || (decide (ap = bp) && ((decide (ak = 3) != decide (bk = 3)) || (decide (ak = bk) && ((decide (ak = 0) || decide (ak = 1)) && !decide (av = bv))))))) from rfl)
  unfold Clm.val at HW1 HW2 ⊢
  dsimp only at HW1 HW2 ⊢
  generalize ctrB ⟨az, ak, ap, av, al, ah, aw⟩ ⟨bz, bk, bp, bv, bl, bh, bw⟩ = r at HX ⊢
  generalize woB ⟨az, ak, ap, av, al, ah, aw⟩ ⟨bz, bk, bp, bv, bl, bh, bw⟩ = w1 at *
  generalize woB ⟨bz, bk, bp, bv, bl, bh, bw⟩ ⟨az, ak, ap, av, al, ah, aw⟩ = w2 at *
  generalize (decide (al ≤ bh) && decide (bl ≤ ah)) = m at *
  clear n1 n2
  generalize decide (ap = bp) = s3 at *
  generalize decide (av = bv) = s4 at *
  cases m
  · clear n3 n4
    go_enter Tryz.func119, Tryz.ntmps119
    go_wp2_with fail
    rw [KW.out]
    go_wp2_with (first | (go_at_call 159; ((with_reducible refine (HM.out _).mono ?_); rintro e wn ⟨rfl, bn⟩; (have KA := Lib.hid (KA.out.below bn KA.out.lt)); (have KB := Lib.hid (KB.out.below bn KB.out.lt)); (have B1 := Lib.hid (B1.out.trans (bn.mono B1.out.size))); obtain ⟨x0, x1, x2, x3, x4, x5, x6⟩ := cells_7 KA.out; obtain ⟨y0, y1, y2, y3, y4, y5, y6⟩ := cells_7 KB.out; clear bn)) | (go_at_call 160; ((with_reducible refine (HW1.out _).mono ?_); rintro e wn ⟨rfl, bn⟩; (have KA := Lib.hid (KA.out.below bn KA.out.lt)); (have KB := Lib.hid (KB.out.below bn KB.out.lt)); (have B1 := Lib.hid (B1.out.trans (bn.mono B1.out.size))); obtain ⟨x0, x1, x2, x3, x4, x5, x6⟩ := cells_7 KA.out; obtain ⟨y0, y1, y2, y3, y4, y5, y6⟩ := cells_7 KB.out; clear bn)) | (go_at_call 160; ((with_reducible refine (HW2.out _).mono ?_); rintro e wn ⟨rfl, bn⟩; (have KA := Lib.hid (KA.out.below bn KA.out.lt)); (have KB := Lib.hid (KB.out.below bn KB.out.lt)); (have B1 := Lib.hid (B1.out.trans (bn.mono B1.out.size))); obtain ⟨x0, x1, x2, x3, x4, x5, x6⟩ := cells_7 KA.out; obtain ⟨y0, y1, y2, y3, y4, y5, y6⟩ := cells_7 KB.out; clear bn)) | fail)
    all_goals
      go_ret
      exact ⟨ret_bool (by first | rfl | (rw [HX.out]; done) | (rw [HX.out]; simp; done) | (rw [HX.out]; simp; intro hz; omega)), B1.out⟩
  · cases w1
    rotate_left
    · clear n3 n4
      go_enter Tryz.func119, Tryz.ntmps119
      go_wp2_with fail
      rw [KW.out]
      go_wp2_with (first | (go_at_call 159; ((with_reducible refine (HM.out _).mono ?_); rintro e wn ⟨rfl, bn⟩; (have KA := Lib.hid (KA.out.below bn KA.out.lt)); (have KB := Lib.hid (KB.out.below bn KB.out.lt)); (have B1 := Lib.hid (B1.out.trans (bn.mono B1.out.size))); obtain ⟨x0, x1, x2, x3, x4, x5, x6⟩ := cells_7 KA.out; obtain ⟨y0, y1, y2, y3, y4, y5, y6⟩ := cells_7 KB.out; clear bn)) | (go_at_call 160; ((with_reducible refine (HW1.out _).mono ?_); rintro e wn ⟨rfl, bn⟩; (have KA := Lib.hid (KA.out.below bn KA.out.lt)); (have KB := Lib.hid (KB.out.below bn KB.out.lt)); (have B1 := Lib.hid (B1.out.trans (bn.mono B1.out.size))); obtain ⟨x0, x1, x2, x3, x4, x5, x6⟩ := cells_7 KA.out; obtain ⟨y0, y1, y2, y3, y4, y5, y6⟩ := cells_7 KB.out; clear bn)) | (go_at_call 160; ((with_reducible refine (HW2.out _).mono ?_); rintro e wn ⟨rfl, bn⟩; (have KA := Lib.hid (KA.out.below bn KA.out.lt)); (have KB := Lib.hid (KB.out.below bn KB.out.lt)); (have B1 := Lib.hid (B1.out.trans (bn.mono B1.out.size))); obtain ⟨x0, x1, x2, x3, x4, x5, x6⟩ := cells_7 KA.out; obtain ⟨y0, y1, y2, y3, y4, y5, y6⟩ := cells_7 KB.out; clear bn)) | fail)
      all_goals
        go_ret
        exact ⟨ret_bool (by first | rfl | (rw [HX.out]; done) | (rw [HX.out]; simp; done) | (rw [HX.out]; simp; intro hz; omega)), B1.out⟩
    cases w2
    rotate_left
    · clear n3 n4
      go_enter Tryz.func119, Tryz.ntmps119
      go_wp2_with fail
      rw [KW.out]
      go_wp2_with (first | (go_at_call 159; ((with_reducible refine (HM.out _).mono ?_); rintro e wn ⟨rfl, bn⟩; (have KA := Lib.hid (KA.out.below bn KA.out.lt)); (have KB := Lib.hid (KB.out.below bn KB.out.lt)); (have B1 := Lib.hid (B1.out.trans (bn.mono B1.out.size))); obtain ⟨x0, x1, x2, x3, x4, x5, x6⟩ := cells_7 KA.out; obtain ⟨y0, y1, y2, y3, y4, y5, y6⟩ := cells_7 KB.out; clear bn)) | (go_at_call 160; ((with_reducible refine (HW1.out _).mono ?_); rintro e wn ⟨rfl, bn⟩; (have KA := Lib.hid (KA.out.below bn KA.out.lt)); (have KB := Lib.hid (KB.out.below bn KB.out.lt)); (have B1 := Lib.hid (B1.out.trans (bn.mono B1.out.size))); obtain ⟨x0, x1, x2, x3, x4, x5, x6⟩ := cells_7 KA.out; obtain ⟨y0, y1, y2, y3, y4, y5, y6⟩ := cells_7 KB.out; clear bn)) | (go_at_call 160; ((with_reducible refine (HW2.out _).mono ?_); rintro e wn ⟨rfl, bn⟩; (have KA := Lib.hid (KA.out.below bn KA.out.lt)); (have KB := Lib.hid (KB.out.below bn KB.out.lt)); (have B1 := Lib.hid (B1.out.trans (bn.mono B1.out.size))); obtain ⟨x0, x1, x2, x3, x4, x5, x6⟩ := cells_7 KA.out; obtain ⟨y0, y1, y2, y3, y4, y5, y6⟩ := cells_7 KB.out; clear bn)) | fail)
      all_goals
        go_ret
        exact ⟨ret_bool (by first | rfl | (rw [HX.out]; done) | (rw [HX.out]; simp; done) | (rw [HX.out]; simp; intro hz; omega)), B1.out⟩
    cases s3
    · clear n4
      go_enter Tryz.func119, Tryz.ntmps119
      go_wp2_with fail
      rw [KW.out]
      go_wp2_with (first | (go_at_call 159; ((with_reducible refine (HM.out _).mono ?_); rintro e wn ⟨rfl, bn⟩; (have KA := Lib.hid (KA.out.below bn KA.out.lt)); (have KB := Lib.hid (KB.out.below bn KB.out.lt)); (have B1 := Lib.hid (B1.out.trans (bn.mono B1.out.size))); obtain ⟨x0, x1, x2, x3, x4, x5, x6⟩ := cells_7 KA.out; obtain ⟨y0, y1, y2, y3, y4, y5, y6⟩ := cells_7 KB.out; clear bn)) | (go_at_call 160; ((with_reducible refine (HW1.out _).mono ?_); rintro e wn ⟨rfl, bn⟩; (have KA := Lib.hid (KA.out.below bn KA.out.lt)); (have KB := Lib.hid (KB.out.below bn KB.out.lt)); (have B1 := Lib.hid (B1.out.trans (bn.mono B1.out.size))); obtain ⟨x0, x1, x2, x3, x4, x5, x6⟩ := cells_7 KA.out; obtain ⟨y0, y1, y2, y3, y4, y5, y6⟩ := cells_7 KB.out; clear bn)) | (go_at_call 160; ((with_reducible refine (HW2.out _).mono ?_); rintro e wn ⟨rfl, bn⟩; (have KA := Lib.hid (KA.out.below bn KA.out.lt)); (have KB := Lib.hid (KB.out.below bn KB.out.lt)); (have B1 := Lib.hid (B1.out.trans (bn.mono B1.out.size))); obtain ⟨x0, x1, x2, x3, x4, x5, x6⟩ := cells_7 KA.out; obtain ⟨y0, y1, y2, y3, y4, y5, y6⟩ := cells_7 KB.out; clear bn)) | fail)
      all_goals
        go_ret
        exact ⟨ret_bool (by first | rfl | (rw [HX.out]; done) | (rw [HX.out]; simp; done) | (rw [HX.out]; simp; intro hz; omega)), B1.out⟩
    · rcases (show ak = 0 ∨ ak = 1 ∨ ak = 3 ∨ (ak ≠ 0 ∧ ak ≠ 1 ∧ ak ≠ 3) by omega) with rfl | rfl | rfl | ⟨u0, u1, u3⟩ <;> rcases (show bk = 0 ∨ bk = 1 ∨ bk = 3 ∨ (bk ≠ 0 ∧ bk ≠ 1 ∧ bk ≠ 3) by omega) with rfl | rfl | rfl | ⟨v0, v1, v3⟩
      all_goals first | ((have fu0 : (ak == 0) = false := by simpa using u0); (have gu0 : ((0 : Int) == ak) = false := by rw [beq_eq_false_iff_ne]; omega); (have fu1 : (ak == 1) = false := by simpa using u1); (have gu1 : ((1 : Int) == ak) = false := by rw [beq_eq_false_iff_ne]; omega); (have fu3 : (ak == 3) = false := by simpa using u3); (have gu3 : ((3 : Int) == ak) = false := by rw [beq_eq_false_iff_ne]; omega); (have fv0 : (bk == 0) = false := by simpa using v0); (have gv0 : ((0 : Int) == bk) = false := by rw [beq_eq_false_iff_ne]; omega); (have fv1 : (bk == 1) = false := by simpa using v1); (have gv1 : ((1 : Int) == bk) = false := by rw [beq_eq_false_iff_ne]; omega); (have fv3 : (bk == 3) = false := by simpa using v3); (have gv3 : ((3 : Int) == bk) = false := by rw [beq_eq_false_iff_ne]; omega)) | ((have fu0 : (ak == 0) = false := by simpa using u0); (have gu0 : ((0 : Int) == ak) = false := by rw [beq_eq_false_iff_ne]; omega); (have fu1 : (ak == 1) = false := by simpa using u1); (have gu1 : ((1 : Int) == ak) = false := by rw [beq_eq_false_iff_ne]; omega); (have fu3 : (ak == 3) = false := by simpa using u3); (have gu3 : ((3 : Int) == ak) = false := by rw [beq_eq_false_iff_ne]; omega)) | ((have fv0 : (bk == 0) = false := by simpa using v0); (have gv0 : ((0 : Int) == bk) = false := by rw [beq_eq_false_iff_ne]; omega); (have fv1 : (bk == 1) = false := by simpa using v1); (have gv1 : ((1 : Int) == bk) = false := by rw [beq_eq_false_iff_ne]; omega); (have fv3 : (bk == 3) = false := by simpa using v3); (have gv3 : ((3 : Int) == bk) = false := by rw [beq_eq_false_iff_ne]; omega)) | skip
      all_goals
        go_enter Tryz.func119, Tryz.ntmps119
        go_wp2_with fail
        rw [KW.out]
        go_wp2_with (first | (go_at_call 159; ((with_reducible refine (HM.out _).mono ?_); rintro e wn ⟨rfl, bn⟩; (have KA := Lib.hid (KA.out.below bn KA.out.lt)); (have KB := Lib.hid (KB.out.below bn KB.out.lt)); (have B1 := Lib.hid (B1.out.trans (bn.mono B1.out.size))); obtain ⟨x0, x1, x2, x3, x4, x5, x6⟩ := cells_7 KA.out; obtain ⟨y0, y1, y2, y3, y4, y5, y6⟩ := cells_7 KB.out; clear bn)) | (go_at_call 160; ((with_reducible refine (HW1.out _).mono ?_); rintro e wn ⟨rfl, bn⟩; (have KA := Lib.hid (KA.out.below bn KA.out.lt)); (have KB := Lib.hid (KB.out.below bn KB.out.lt)); (have B1 := Lib.hid (B1.out.trans (bn.mono B1.out.size))); obtain ⟨x0, x1, x2, x3, x4, x5, x6⟩ := cells_7 KA.out; obtain ⟨y0, y1, y2, y3, y4, y5, y6⟩ := cells_7 KB.out; clear bn)) | (go_at_call 160; ((with_reducible refine (HW2.out _).mono ?_); rintro e wn ⟨rfl, bn⟩; (have KA := Lib.hid (KA.out.below bn KA.out.lt)); (have KB := Lib.hid (KB.out.below bn KB.out.lt)); (have B1 := Lib.hid (B1.out.trans (bn.mono B1.out.size))); obtain ⟨x0, x1, x2, x3, x4, x5, x6⟩ := cells_7 KA.out; obtain ⟨y0, y1, y2, y3, y4, y5, y6⟩ := cells_7 KB.out; clear bn)) | fail)
        all_goals
          go_ret
          exact ⟨ret_bool (by first | rfl | (rw [HX.out]; done) | (rw [HX.out]; simp [*]; done) | (rw [HX.out]; simp [*]; intro hz; omega)), B1.out⟩
/-- A claim tells a fact. -/
def telB (c : Clm) (f : Fct) : Bool := decide (c.kind = f.kind) && (decide (c.place = f.place) && (decide (c.val_ = f.val_) && inB f.year c.lo c.hi))
set_option maxRecDepth 100000 in
theorem specTel_any (a : Clm) (f : Fct) (w : World) : Calls Tryz.prog 118 #[a.val, f.val] w fun e w' => e = .returned (.bool (telB a f)) ∧ Below w.heap.size w w' := by
  obtain ⟨az, ak, ap, av, al, ah, aw⟩ := a
  obtain ⟨fk, fp, fv, fy⟩ := f
  have HI := Lib.hid (specIn_any fy al ah)
  have KN := Lib.hid (blks_two w 81 26 #[.string az, .int .i64 ak, .string ap, .string av, .int .i64 al, .int .i64 ah, .int .i64 aw] #[.int .i64 fk, .string fp, .string fv, .int .i64 fy])
  have n1 := str_eq ap fp
  have n2 := str_eq av fv
  have HX := Lib.hid (show telB ⟨az, ak, ap, av, al, ah, aw⟩ ⟨fk, fp, fv, fy⟩ = (decide (ak = fk) && (decide (ap = fp) && (decide (av = fv) && inB fy al ah))) from rfl)
  have n0 : (ak == fk) = decide (ak = fk) := rfl
  unfold Clm.val Fct.val
  dsimp only
  generalize telB ⟨az, ak, ap, av, al, ah, aw⟩ ⟨fk, fp, fv, fy⟩ = r at HX ⊢
  generalize decide (ak = fk) = s0 at *
  generalize decide (ap = fp) = s1 at *
  generalize decide (av = fv) = s2 at *
  generalize inB fy al ah = s3 at *
  cases s0 <;> cases s1 <;> cases s2
  all_goals
    go_enter Tryz.func118, Tryz.ntmps118
    go_wp2_with fail
    generalize hW : (w.alloc (.cells #[.string az, .int .i64 ak, .string ap, .string av, .int .i64 al, .int .i64 ah, .int .i64 aw] 81)).alloc (.cells #[.int .i64 fk, .string fp, .string fv, .int .i64 fy] 26) = W
    obtain ⟨ka, kb, bw', _⟩ := KN.out W hW.symm
    clear hW
    have B1 := Lib.hid bw'
    obtain ⟨x0, x1, x2, x3, x4, x5, x6⟩ := cells_7 ka
    obtain ⟨y0, y1, y2, y3⟩ := cells_4 kb
    clear ka kb bw'
    go_wp2_with (first | (go_at_call 93; ((with_reducible refine (HI.out _).mono ?_); rintro e wn ⟨rfl, rfl⟩)) | fail)
    go_ret
    exact ⟨ret_bool (by first | rfl | (rw [HX.out]; done) | (rw [HX.out]; simp)), B1.out⟩
set_option maxRecDepth 100000 in
theorem implTel_any (a : Clm) (f : Fct) (w : World) : Calls Tryz.prog 117 #[a.val, f.val] w fun e w' => e = .returned (.bool (telB a f)) ∧ Below w.heap.size w w' := by
  obtain ⟨az, ak, ap, av, al, ah, aw⟩ := a
  obtain ⟨fk, fp, fv, fy⟩ := f
  have HI := Lib.hid (implHas_any al ah fy)
  have KN := Lib.hid (blks_two w 81 26 #[.string az, .int .i64 ak, .string ap, .string av, .int .i64 al, .int .i64 ah, .int .i64 aw] #[.int .i64 fk, .string fp, .string fv, .int .i64 fy])
  have n1 := str_eq ap fp
  have n2 := str_eq av fv
  have HX := Lib.hid (show telB ⟨az, ak, ap, av, al, ah, aw⟩ ⟨fk, fp, fv, fy⟩ = (decide (ak = fk) && (decide (ap = fp) && (decide (av = fv) && inB fy al ah))) from rfl)
  have n0 : (ak == fk) = decide (ak = fk) := rfl
  unfold Clm.val Fct.val
  dsimp only
  generalize telB ⟨az, ak, ap, av, al, ah, aw⟩ ⟨fk, fp, fv, fy⟩ = r at HX ⊢
  generalize decide (ak = fk) = s0 at *
  generalize decide (ap = fp) = s1 at *
  generalize decide (av = fv) = s2 at *
  generalize inB fy al ah = s3 at *
  cases s0 <;> cases s1 <;> cases s2
  all_goals
    go_enter Tryz.func117, Tryz.ntmps117
    go_wp2_with fail
    generalize hW : (w.alloc (.cells #[.string az, .int .i64 ak, .string ap, .string av, .int .i64 al, .int .i64 ah, .int .i64 aw] 81)).alloc (.cells #[.int .i64 fk, .string fp, .string fv, .int .i64 fy] 26) = W
    obtain ⟨ka, kb, bw', _⟩ := KN.out W hW.symm
    clear hW
    have B1 := Lib.hid bw'
    obtain ⟨x0, x1, x2, x3, x4, x5, x6⟩ := cells_7 ka
    obtain ⟨y0, y1, y2, y3⟩ := cells_4 kb
    clear ka kb bw'
    go_wp2_with (first | (go_at_call 158; ((with_reducible refine (HI.out _).mono ?_); rintro e wn ⟨rfl, bn⟩; (have B1 := Lib.hid (B1.out.trans (bn.mono B1.out.size))); clear bn)) | fail)
    go_ret
    exact ⟨ret_bool (by first | rfl | (rw [HX.out]; done) | (rw [HX.out]; simp)), B1.out⟩
end Go.Proofs.YtihhpmhigmegjaaGreatDoor
