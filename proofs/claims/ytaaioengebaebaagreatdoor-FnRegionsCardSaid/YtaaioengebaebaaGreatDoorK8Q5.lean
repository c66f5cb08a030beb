/- IsDescription of the program. -/
import Derived.Test.YtaaioengebaebaaGreatDoorRows
import Derived.Test.YtaaioengebaebaaGreatDoorK8GA
import Derived.WalkKit
import Derived.ProofKit
import Derived.OpenShut
import Derived.BigQuiet
import Derived.Outline
import Derived.WalkSpells
import Derived.WalkLawsBesides
import Derived.Deep.DeepCutAuto
import Derived.Test.YtaaioengebaebaaGreatDoorK8Q4
import Derived.Lib.Hide
namespace Go.Proofs.YtaaioengebaebaaGreatDoor
open Go.ChangeShapes Go.WideShapes Go.ChangeAt Go.RowKit

set_option maxRecDepth 100000 in
set_option maxHeartbeats 2000000 in
theorem implIsD_any (d : Dsc) (hd : d.Ok) (w : World) (hdir : Dirs w) :
    Calls Tryz.prog 83 #[d.val] w fun e w' => e = .returned (.bool (isD d)) ∧ Below w.heap.size w w' := by
  obtain ⟨kind, count, unit, dir, a, b⟩ := d
  obtain ⟨hu, ha, hb⟩ := hd
  dsimp only at hu ha hb
  have HX := Lib.hid (show isD ⟨kind, count, unit, dir, a, b⟩ = (codeW a && (if kind = 2 then inB count 1 99 && (decide (0 < unitD unit count) && (inB dir 0 7 && decide (b = ⟨#[]⟩)))
    else (decide (count = 0) && (decide (unit = ⟨#[]⟩) && decide (dir = 0))) && (if kind = 0 ∨ kind = 1 then decide (b = ⟨#[]⟩) else decide (kind = 3) && (codeW b && !decide (a = b))))) from rfl)
  unfold Dsc.val
  dsimp only
  generalize isD ⟨kind, count, unit, dir, a, b⟩ = r at HX ⊢
  have CA := Lib.hid (fun W (h : Below w.heap.size w W) => implCodeW_any a ha W (hdir.below h))
  have CB := Lib.hid (fun W (h : Below w.heap.size w W) => implCodeW_any b hb W (hdir.below h))
  have CU := Lib.hid (isUnit_any unit count)
  have KN := Lib.hid (dsc_new w 79 #[.int .i64 kind, .int .i64 count, .string unit, .int .i64 dir, .string a, .string b])
  have sb := str_lit b []
  have su := str_lit unit []
  have sab := str_eq a b
  generalize codeW a = ca at CA HX
  generalize codeW b = cb at CB HX
  generalize unitD unit count = un at CU HX
  cases ca
  · go_enter Tryz.func83, Tryz.ntmps83
    go_wp2_with fail
    generalize hW : w.alloc (.cells #[.int .i64 kind, .int .i64 count, .string unit, .int .i64 dir, .string a, .string b] 79) = W
    obtain ⟨bk, bw⟩ := KN.out W hW.symm
    clear hW
    refine (CA.out W bw).mono ?_; rintro e w1 ⟨rfl, b1⟩
    go_wp2_with fail
    go_ret
    exact ⟨ret_bool (by rw [HX.out]; rfl), bw.trans (b1.mono bw.size)⟩
  · by_cases hk : kind = 0
    · subst hk
      rw [if_neg (by decide), if_pos (.inl rfl)] at HX
      go_enter Tryz.func83, Tryz.ntmps83
      go_wp2_with fail
      generalize hW : w.alloc (.cells #[.int .i64 0, .int .i64 count, .string unit, .int .i64 dir, .string a, .string b] 79) = W
      obtain ⟨bk, bw⟩ := KN.out W hW.symm
      clear hW
      refine (CA.out W bw).mono ?_; rintro e w1 ⟨rfl, b1⟩
      have BK := Lib.hid (bk.below b1 bk.lt)
      obtain ⟨k0, k1, k2, k3, k4, k5⟩ := dsc_cells BK.out
      have B1 := Lib.hid (bw.trans (b1.mono bw.size)); clear b1 bw bk
      go_wp2_with fail
      all_goals
        go_ret
        exact ⟨ret_bool (by rw [HX.out]; simp [*]), B1.out⟩
    by_cases hk1 : kind = 1
    · subst hk1
      rw [if_neg (by decide), if_pos (.inr rfl)] at HX
      clear hk
      go_enter Tryz.func83, Tryz.ntmps83
      go_wp2_with fail
      generalize hW : w.alloc (.cells #[.int .i64 1, .int .i64 count, .string unit, .int .i64 dir, .string a, .string b] 79) = W
      obtain ⟨bk, bw⟩ := KN.out W hW.symm
      clear hW
      refine (CA.out W bw).mono ?_; rintro e w1 ⟨rfl, b1⟩
      have BK := Lib.hid (bk.below b1 bk.lt)
      obtain ⟨k0, k1, k2, k3, k4, k5⟩ := dsc_cells BK.out
      have B1 := Lib.hid (bw.trans (b1.mono bw.size)); clear b1 bw bk
      go_wp2_with fail
      all_goals
        go_ret
        exact ⟨ret_bool (by rw [HX.out]; simp [*]), B1.out⟩
    by_cases hk2 : kind = 2
    · subst hk2
      rw [if_pos rfl] at HX
      clear hk hk1
      cases h1 : inB count 1 99 <;> cases h3 : inB dir 0 7 <;> by_cases h2 : 0 < un
      all_goals
        have I1 := Lib.hid (within_any count 1 99); rw [h1] at I1
        have I3 := Lib.hid (within_any dir 0 7); rw [h3] at I3
        rw [h1, h3] at HX
        clear h1 h3
        go_enter Tryz.func83, Tryz.ntmps83
        go_wp2_with fail
        generalize hW : w.alloc (.cells #[.int .i64 2, .int .i64 count, .string unit, .int .i64 dir, .string a, .string b] 79) = W
        obtain ⟨bk, bw⟩ := KN.out W hW.symm
        clear hW
        refine (CA.out W bw).mono ?_; rintro e w1 ⟨rfl, b1⟩
        have BK := Lib.hid (bk.below b1 bk.lt)
        obtain ⟨k0, k1, k2, k3, k4, k5⟩ := dsc_cells BK.out
        have B1 := Lib.hid (bw.trans (b1.mono bw.size)); clear b1 bw bk
        go_wp2_with fail
        refine (I1.out _).mono ?_; rintro e w' ⟨rfl, rfl⟩
        go_wp2_with (first | ((with_reducible refine (CU.out _).mono ?_); rintro e w' ⟨rfl, rfl⟩) | ((with_reducible refine (I3.out _).mono ?_); rintro e w' ⟨rfl, rfl⟩) | fail)
        go_ret
        exact ⟨ret_bool (by rw [HX.out]; simp [h2, sb]; try (intro h; omega)), B1.out⟩
    by_cases hk3 : kind = 3
    · subst hk3
      rw [if_neg hk2, if_neg (by omega)] at HX
      clear hk hk1 hk2
      cases cb
      all_goals
        go_enter Tryz.func83, Tryz.ntmps83
        go_wp2_with fail
        generalize hW : w.alloc (.cells #[.int .i64 3, .int .i64 count, .string unit, .int .i64 dir, .string a, .string b] 79) = W
        obtain ⟨bk, bw⟩ := KN.out W hW.symm
        clear hW
        refine (CA.out W bw).mono ?_; rintro e w1 ⟨rfl, b1⟩
        have BK := Lib.hid (bk.below b1 bk.lt)
        obtain ⟨k0, k1, k2, k3, k4, k5⟩ := dsc_cells BK.out
        have B1 := Lib.hid (bw.trans (b1.mono bw.size)); clear b1 bw bk
        go_wp2_with fail
      all_goals try (refine (CB.out _ B1.out).mono ?_; rintro e w2 ⟨rfl, b2⟩; obtain ⟨k0, k1, k2, k3, k4, k5⟩ := dsc_cells (BK.out.below b2 BK.out.lt); replace B1 := Lib.hid (B1.out.trans (b2.mono B1.out.size)); go_wp2_with fail)
      all_goals
        go_ret
        exact ⟨ret_bool (by rw [HX.out]; simp [*, bne]), B1.out⟩
    · rw [if_neg hk2, if_neg (by omega), decide_eq_false hk3] at HX
      have q0 : (kind == 0) = false := by simpa using hk
      have q1 : (kind == 1) = false := by simpa using hk1
      have q2 : (kind == 2) = false := by simpa using hk2
      have q3 : (kind == 3) = false := by simpa using hk3
      clear hk hk1 hk2 hk3
      go_enter Tryz.func83, Tryz.ntmps83
      go_wp2_with fail
      generalize hW : w.alloc (.cells #[.int .i64 kind, .int .i64 count, .string unit, .int .i64 dir, .string a, .string b] 79) = W
      obtain ⟨bk, bw⟩ := KN.out W hW.symm
      clear hW
      refine (CA.out W bw).mono ?_; rintro e w1 ⟨rfl, b1⟩
      have BK := Lib.hid (bk.below b1 bk.lt)
      obtain ⟨k0, k1, k2, k3, k4, k5⟩ := dsc_cells BK.out
      have B1 := Lib.hid (bw.trans (b1.mono bw.size)); clear b1 bw bk
      go_wp2_with fail
      go_ret
      exact ⟨ret_bool (by rw [HX.out]; simp), B1.out⟩
end Go.Proofs.YtaaioengebaebaaGreatDoor
