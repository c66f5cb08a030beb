/- The precedence of entries by the reference; ComparePrecedence of both. -/
import Derived.Test.YtihhpmhigmegjaaGreatDoorRows
import Derived.Test.YtihhpmhigmegjaaGreatDoorL0
import Derived.Test.YtihhpmhigmegjaaGreatDoorM0
import Derived.WalkKit
import Derived.ProofKit
import Derived.OpenShut
import Derived.BigQuiet
import Derived.Outline
import Derived.WalkSpells
import Derived.WalkLawsBesides
import Derived.Deep.DeepCutAuto
import Derived.Test.YtihhpmhigmegjaaGreatDoorG9
namespace Go.Proofs.YtihhpmhigmegjaaGreatDoor
open Go.ChangeShapes Go.WideShapes Go.ChangeAt Go.RowKit Go.Sort

def sgn (x : Int) : Int := if x < 0 then -1 else if 0 < x then 1 else 0
theorem sgn_cmp (a b : Int) : sgn (a - b) = cmpI a b := by
  unfold sgn cmpI
  (repeat' split) <;> omega
theorem compare_vals : ∀ x y : List UInt8, Lib.compareBytes x y = -1 ∨ Lib.compareBytes x y = 0 ∨ Lib.compareBytes x y = 1
  | [], [] => by simp [Lib.compareBytes]
  | [], _ :: _ => by simp [Lib.compareBytes]
  | _ :: _, [] => by simp [Lib.compareBytes]
  | a :: x, b :: y => by
    have ih := compare_vals x y
    rw [Lib.compareBytes]
    (repeat' split) <;> first | exact ih | simp
theorem cmpS_vals (a b : ByteArray) : cmpS a b = -1 ∨ cmpS a b = 0 ∨ cmpS a b = 1 := compare_vals _ _
theorem compare_anti : ∀ x y : List UInt8, Lib.compareBytes x y = - Lib.compareBytes y x
  | [], [] => by simp [Lib.compareBytes]
  | [], _ :: _ => by simp [Lib.compareBytes]
  | _ :: _, [] => by simp [Lib.compareBytes]
  | a :: x, b :: y => by
    have ih := compare_anti x y
    rw [Lib.compareBytes, Lib.compareBytes]
    by_cases h1 : a < b
    · have h2 : ¬ b < a := fun h => UInt8.lt_irrefl a (UInt8.lt_trans h1 h)
      simp [h1, h2]
    · by_cases h2 : b < a
      · simp [h1, h2]
      · simp [h1, h2, ih]
theorem cmpS_anti (a b : ByteArray) : cmpS a b = - cmpS b a := compare_anti _ _
theorem strLt_or (a b : ByteArray) : strLt a b = true ∨ a = b ∨ strLt b a = true := by
  have h := cmpS_anti a b
  rcases cmpS_vals a b with h1 | h1 | h1
  · exact .inl ((cmpS_lt a b).1 (by omega))
  · exact .inr (.inl ((cmpS_eq a b).1 h1))
  · exact .inr (.inr ((cmpS_lt b a).1 (by omega)))
theorem strLt_asymm {a b : ByteArray} (h : strLt a b = true) : strLt b a = false := by
  cases h2 : strLt b a with
  | false => rfl
  | true => have := strLt_trans h h2; rw [strLt_self] at this; cases this
theorem cmpI_anti (a b : Int) : cmpI a b = - cmpI b a := by unfold cmpI; (repeat' split) <;> omega
theorem orI_four (a b c d : Int) : orI [a, b, c, d] = if a = 0 then (if b = 0 then (if c = 0 then d else c) else b) else a := by
  simp only [orI]
  (repeat' split) <;> first | rfl | simp_all
theorem cmpE_eq (a b : Ent) : cmpE a b = if cmpI a.since b.since = 0 then (if cmpS a.text b.text = 0 then (if cmpI a.x b.x = 0 then cmpI a.y b.y else cmpI a.x b.x) else cmpS a.text b.text) else cmpI a.since b.since := orI_four _ _ _ _
theorem cmpE_anti (a b : Ent) : cmpE a b = - cmpE b a := by
  rw [cmpE_eq, cmpE_eq, cmpI_anti a.since, cmpS_anti a.text, cmpI_anti a.x, cmpI_anti a.y]
  (repeat' split) <;> omega
theorem cmpI_zero (a b : Int) : cmpI a b = 0 ↔ a = b := by unfold cmpI; (repeat' split) <;> omega
theorem specSign_any (x : Int) (w : World) : Calls Tryz.prog 151 #[.int .i64 x] w fun e w' => e = .returned (.int .i64 (sgn x)) ∧ w = w' := by
  by_cases h1 : x < 0
  · have HX := Lib.hid (show sgn x = -1 by unfold sgn; rw [if_pos h1])
    go_enter Tryz.func151, Tryz.ntmps151
    go_wp2_with fail
    go_ret
    exact ⟨ret_int HX.out.symm, rfl⟩
  · by_cases h2 : 0 < x
    · have HX := Lib.hid (show sgn x = 1 by unfold sgn; rw [if_neg h1, if_pos h2])
      go_enter Tryz.func151, Tryz.ntmps151
      go_wp2_with fail
      go_ret
      exact ⟨ret_int HX.out.symm, rfl⟩
    · have HX := Lib.hid (show sgn x = 0 by unfold sgn; rw [if_neg h1, if_neg h2])
      go_enter Tryz.func151, Tryz.ntmps151
      go_wp2_with fail
      go_ret
      exact ⟨ret_int HX.out.symm, rfl⟩
theorem ent_bd {a : Ent} (h : entB a = true) : (-1000 ≤ a.x ∧ a.x ≤ 1000) ∧ (-1000 ≤ a.y ∧ a.y ≤ 1000) ∧ (-3000 ≤ a.since ∧ a.since ≤ 3000) := by
  simp only [entB, ptB, inB, Bool.and_eq_true, decide_eq_true_eq] at h
  omega
set_option maxRecDepth 100000 in
set_option maxHeartbeats 1000000 in
theorem specCmpE_any (a b : Ent) (ha : entB a = true) (hb : entB b = true) (w : World) :
    Calls Tryz.prog 96 #[a.val, b.val] w fun e w' => e = .returned (.int .i64 (cmpE a b)) ∧ Below w.heap.size w w' := by
  have HX := Lib.hid (cmpE_eq a b)
  obtain ⟨⟨a1, a2⟩, ⟨a3, a4⟩, a5, a6⟩ := ent_bd ha
  obtain ⟨⟨b1, b2⟩, ⟨b3, b4⟩, b5, b6⟩ := ent_bd hb
  clear ha hb
  have S1 := Lib.hid (specSign_any (a.since - b.since))
  have S2 := Lib.hid (specSign_any (a.x - b.x))
  have S3 := Lib.hid (specSign_any (a.y - b.y))
  rw [sgn_cmp] at S1 S2 S3
  have Z1 := Lib.hid (cmpI_zero a.since b.since)
  have Z2 := Lib.hid (cmpI_zero a.x b.x)
  have ZS := Lib.hid (cmpS_eq a.text b.text)
  have ZL := Lib.hid (cmpS_lt a.text b.text)
  have ZV := Lib.hid (cmpS_vals a.text b.text)
  have ZO := Lib.hid (strLt_or a.text b.text)
  have ZA := Lib.hid (fun h => strLt_asymm (a := a.text) (b := b.text) h)
  unfold Ent.val
  generalize cmpE a b = r at HX ⊢
  generalize cmpI a.since b.since = q1 at *
  generalize cmpS a.text b.text = q2 at *
  generalize cmpI a.x b.x = q3 at *
  generalize cmpI a.y b.y = q4 at *
  by_cases h1 : a.since = b.since
  · rw [if_pos (Z1.out.2 h1)] at HX
    have h1' : (a.since != b.since) = false := by simpa using h1
    clear h1
    cases hl : Op.bytesLess a.text.toList b.text.toList
    · have sq := str_eq a.text b.text
      by_cases he : a.text = b.text
      · rw [if_pos (ZS.out.2 he)] at HX
        rw [decide_eq_true he] at sq
        clear he
        by_cases h3 : a.x = b.x
        · rw [if_pos (Z2.out.2 h3)] at HX
          have h3' : (a.x != b.x) = false := by simpa using h3
          clear h3
          go_enter Tryz.func96, Tryz.ntmps96
          go_wp2_with fail
          refine (S3.out _).mono ?_; rintro e w' ⟨rfl, rfl⟩
          go_wp2_with fail
          go_ret
          exact ⟨ret_int HX.out.symm, by (repeat (first | exact Below.refl _ _ | assumption | refine Below.drew ?_ | refine below_drewN' ?_ _ | refine Below.alloc ?_ (by (try simp); (try omega)) _ | refine Below.setCell ?_ (by (try simp); (try omega)) _))⟩
        · rw [if_neg (fun h => h3 (Z2.out.1 h))] at HX
          have h3' : (a.x != b.x) = true := by simpa using h3
          clear h3
          go_enter Tryz.func96, Tryz.ntmps96
          go_wp2_with fail
          refine (S2.out _).mono ?_; rintro e w' ⟨rfl, rfl⟩
          go_wp2_with fail
          go_ret
          exact ⟨ret_int HX.out.symm, by (repeat (first | exact Below.refl _ _ | assumption | refine Below.drew ?_ | refine below_drewN' ?_ _ | refine Below.alloc ?_ (by (try simp); (try omega)) _ | refine Below.setCell ?_ (by (try simp); (try omega)) _))⟩
      · have HV := Lib.hid (show r = 1 by
          rw [HX.out, if_neg (fun h => he (ZS.out.1 h))]
          rcases ZV.out with h | h | h
          · have := ZL.out.1 (by omega); unfold strLt at this; rw [hl] at this; cases this
          · exact absurd (ZS.out.1 h) he
          · exact h)
        rw [decide_eq_false he] at sq
        clear he
        go_enter Tryz.func96, Tryz.ntmps96
        go_wp2_with fail
        go_ret
        exact ⟨ret_int HV.out.symm, by (repeat (first | exact Below.refl _ _ | assumption | refine Below.drew ?_ | refine below_drewN' ?_ _ | refine Below.alloc ?_ (by (try simp); (try omega)) _ | refine Below.setCell ?_ (by (try simp); (try omega)) _))⟩
    · have HV := Lib.hid (show r = -1 by
        have hlt := ZL.out.2 hl
        rw [HX.out, if_neg (by omega)]
        rcases ZV.out with h | h | h <;> omega)
      go_enter Tryz.func96, Tryz.ntmps96
      go_wp2_with fail
      go_ret
      exact ⟨ret_int HV.out.symm, by (repeat (first | exact Below.refl _ _ | assumption | refine Below.drew ?_ | refine below_drewN' ?_ _ | refine Below.alloc ?_ (by (try simp); (try omega)) _ | refine Below.setCell ?_ (by (try simp); (try omega)) _))⟩
  · rw [if_neg (fun h => h1 (Z1.out.1 h))] at HX
    have h1' : (a.since != b.since) = true := by simpa using h1
    clear h1
    go_enter Tryz.func96, Tryz.ntmps96
    go_wp2_with fail
    refine (S1.out _).mono ?_; rintro e w' ⟨rfl, rfl⟩
    go_wp2_with fail
    go_ret
    exact ⟨ret_int HX.out.symm, by (repeat (first | exact Below.refl _ _ | assumption | refine Below.drew ?_ | refine below_drewN' ?_ _ | refine Below.alloc ?_ (by (try simp); (try omega)) _ | refine Below.setCell ?_ (by (try simp); (try omega)) _))⟩
/-- What ComparePrecedence returns. -/
def cprT (a b : Ent) : Int × Int := if (entB a && entB b) = true then (cmpE a b, 0) else (0, 1)
set_option maxRecDepth 100000 in
theorem specCpr_any (a b : Ent) (ha : a.text.size ≤ 1048576) (hb : b.text.size ≤ 1048576) (w : World) :
    Calls Tryz.prog 40 #[a.val, b.val] w fun e w' => e = .returned (.tuple #[.int .i64 (cprT a b).1, .int .i64 (cprT a b).2]) ∧ Below w.heap.size w w' := by
  have HX := Lib.hid (show cprT a b = if (entB a && entB b) = true then (cmpE a b, 0) else (0, 1) from rfl)
  have KN := Lib.hid (blks_two w 45 45 #[.string a.text, .int .i64 a.x, .int .i64 a.y, .int .i64 a.since] #[.string b.text, .int .i64 b.x, .int .i64 b.y, .int .i64 b.since])
  have H1 := Lib.hid (specEnt_any a ha)
  have H2 := Lib.hid (specEnt_any b hb)
  have H3 := Lib.hid (fun h1 h2 => specCmpE_any a b h1 h2)
  unfold Ent.val at *
  generalize cprT a b = r at HX ⊢
  generalize cmpE a b = q at *
  generalize entB a = q1 at *
  generalize entB b = q2 at *
  cases q1 <;> cases q2
  all_goals
    go_enter Tryz.func40, Tryz.ntmps40
    go_wp2_with fail
    generalize hW : (w.alloc (.cells #[.string a.text, .int .i64 a.x, .int .i64 a.y, .int .i64 a.since] 45)).alloc (.cells #[.string b.text, .int .i64 b.x, .int .i64 b.y, .int .i64 b.since] 45) = W
    obtain ⟨ka, kb, bw, hsz⟩ := KN.out W hW.symm
    clear hW hsz
    refine (H1.out W).mono ?_; rintro e w1 ⟨rfl, b1⟩
    have B1 := Lib.hid (bw.trans (b1.mono bw.size))
    have KA := Lib.hid (ka.below b1 ka.lt); have KB := Lib.hid (kb.below b1 kb.lt)
    obtain ⟨x0, x1, x2, x3⟩ := cells_4 KA.out
    obtain ⟨y0, y1, y2, y3⟩ := cells_4 KB.out
    clear b1 ka kb bw
    go_wp2_with fail
  · go_ret2
    exact ⟨by rw [HX.out]; rfl, B1.out⟩
  · go_ret2
    exact ⟨by rw [HX.out]; rfl, B1.out⟩
  · refine (H2.out _).mono ?_; rintro e w2 ⟨rfl, b2⟩
    go_wp2_with fail
    go_ret2
    exact ⟨by rw [HX.out]; rfl, B1.out.trans (b2.mono B1.out.size)⟩
  · refine (H2.out _).mono ?_; rintro e w2 ⟨rfl, b2⟩
    have B2 := Lib.hid (B1.out.trans (b2.mono B1.out.size))
    obtain ⟨x0, x1, x2, x3⟩ := cells_4 (KA.out.below b2 KA.out.lt)
    obtain ⟨y0, y1, y2, y3⟩ := cells_4 (KB.out.below b2 KB.out.lt)
    clear b2
    go_wp2_with fail
    refine (H3.out trivial trivial _).mono ?_; rintro e w3 ⟨rfl, b3⟩
    go_wp2_with fail
    go_ret2
    exact ⟨by rw [HX.out]; rfl, B2.out.trans (b3.mono B2.out.size)⟩
set_option maxRecDepth 100000 in
theorem implCpr_any (a b : Ent) (ha : a.text.size ≤ 1048576) (hb : b.text.size ≤ 1048576) (w : World) :
    Calls Tryz.prog 39 #[a.val, b.val] w fun e w' => e = .returned (.tuple #[.int .i64 (cprT a b).1, .int .i64 (cprT a b).2]) ∧ Below w.heap.size w w' := by
  have HX := Lib.hid (show cprT a b = if (entB a && entB b) = true then (cmpE a b, 0) else (0, 1) from rfl)
  have KN := Lib.hid (blks_two w 45 45 #[.string a.text, .int .i64 a.x, .int .i64 a.y, .int .i64 a.since] #[.string b.text, .int .i64 b.x, .int .i64 b.y, .int .i64 b.since])
  have H1 := Lib.hid (implEnt_any a ha)
  have H2 := Lib.hid (implEnt_any b hb)
  have H3 := Lib.hid (implCmpE_any a b)
  unfold Ent.val at *
  generalize cprT a b = r at HX ⊢
  generalize cmpE a b = q at *
  generalize entB a = q1 at *
  generalize entB b = q2 at *
  cases q1 <;> cases q2
  all_goals
    go_enter Tryz.func39, Tryz.ntmps39
    go_wp2_with fail
    generalize hW : (w.alloc (.cells #[.string a.text, .int .i64 a.x, .int .i64 a.y, .int .i64 a.since] 45)).alloc (.cells #[.string b.text, .int .i64 b.x, .int .i64 b.y, .int .i64 b.since] 45) = W
    obtain ⟨ka, kb, bw, hsz⟩ := KN.out W hW.symm
    clear hW hsz
    refine (H1.out W).mono ?_; rintro e w1 ⟨rfl, b1⟩
    have B1 := Lib.hid (bw.trans (b1.mono bw.size))
    have KA := Lib.hid (ka.below b1 ka.lt); have KB := Lib.hid (kb.below b1 kb.lt)
    obtain ⟨x0, x1, x2, x3⟩ := cells_4 KA.out
    obtain ⟨y0, y1, y2, y3⟩ := cells_4 KB.out
    clear b1 ka kb bw
    go_wp2_with fail
  · go_ret2
    exact ⟨by rw [HX.out]; rfl, B1.out⟩
  · go_ret2
    exact ⟨by rw [HX.out]; rfl, B1.out⟩
  · refine (H2.out _).mono ?_; rintro e w2 ⟨rfl, b2⟩
    go_wp2_with fail
    go_ret2
    exact ⟨by rw [HX.out]; rfl, B1.out.trans (b2.mono B1.out.size)⟩
  · refine (H2.out _).mono ?_; rintro e w2 ⟨rfl, b2⟩
    have B2 := Lib.hid (B1.out.trans (b2.mono B1.out.size))
    obtain ⟨x0, x1, x2, x3⟩ := cells_4 (KA.out.below b2 KA.out.lt)
    obtain ⟨y0, y1, y2, y3⟩ := cells_4 (KB.out.below b2 KB.out.lt)
    clear b2
    go_wp2_with fail
    refine (H3.out _).mono ?_; rintro e w3 ⟨rfl, b3⟩
    go_wp2_with fail
    go_ret2
    exact ⟨by rw [HX.out]; rfl, B2.out.trans (b3.mono B2.out.size)⟩
end Go.Proofs.YtihhpmhigmegjaaGreatDoor
