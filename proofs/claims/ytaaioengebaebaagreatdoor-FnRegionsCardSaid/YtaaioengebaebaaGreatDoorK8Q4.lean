/- IsDescription of both. -/
import Derived.Test.YtaaioengebaebaaGreatDoorRows
import Derived.Test.YtaaioengebaebaaGreatDoorK8GA
import Derived.WalkKit
import Derived.ProofKit
import Derived.OpenShut
import Derived.BigQuiet
import Derived.Outline
import Derived.WalkSpells
import Derived.WalkLawsBesides
import Derived.Deep.DeepCutAuto
import Derived.Test.YtaaioengebaebaaGreatDoorK8GC
import Derived.Lib.Hide
namespace Go.Proofs.YtaaioengebaebaaGreatDoor
open Go.ChangeShapes Go.WideShapes Go.ChangeAt Go.RowKit

/-- Whether a description is as described. -/
def isD (d : Dsc) : Bool := codeW d.a && (if d.kind = 2 then inB d.count 1 99 && (decide (0 < unitD d.unit d.count) && (inB d.dir 0 7 && decide (d.b = ⟨#[]⟩)))
  else (decide (d.count = 0) && (decide (d.unit = ⟨#[]⟩) && decide (d.dir = 0))) && (if d.kind = 0 ∨ d.kind = 1 then decide (d.b = ⟨#[]⟩) else decide (d.kind = 3) && (codeW d.b && !decide (d.a = d.b))))
theorem dsc_cells {w : World} {g : Nat} {t : TypeId} {c0 c1 c2 c3 c4 c5 : Value} (h : Blk w g t #[c0, c1, c2, c3, c4, c5]) : w.cell? ⟨g, 0, none⟩ = some c0 ∧ w.cell? ⟨g, 1, none⟩ = some c1 ∧ w.cell? ⟨g, 2, none⟩ = some c2 ∧ w.cell? ⟨g, 3, none⟩ = some c3 ∧ w.cell? ⟨g, 4, none⟩ = some c4 ∧ w.cell? ⟨g, 5, none⟩ = some c5 :=
  ⟨by rw [h.cell]; rfl, by rw [h.cell]; rfl, by rw [h.cell]; rfl, by rw [h.cell]; rfl, by rw [h.cell]; rfl, by rw [h.cell]; rfl⟩
theorem dsc_new (w : World) (t : TypeId) (cs : Array Value) : ∀ W, W = w.alloc (.cells cs t) → Blk W w.heap.size t cs ∧ Below w.heap.size w W := by
  rintro W rfl
  exact ⟨Blk.new _ _ _, (Below.refl _ _).alloc (Nat.le_refl _) _⟩
set_option maxRecDepth 100000 in
set_option maxHeartbeats 2000000 in
theorem specIsD_any (d : Dsc) (hd : d.Ok) (w : World) :
    Calls Tryz.prog 106 #[d.val] w fun e w' => e = .returned (.bool (isD d)) ∧ Below w.heap.size w w' := by
  obtain ⟨kind, count, unit, dir, a, b⟩ := d
  obtain ⟨hu, ha, hb⟩ := hd
  dsimp only at hu ha hb
  have HX := Lib.hid (show isD ⟨kind, count, unit, dir, a, b⟩ = (codeW a && (if kind = 2 then inB count 1 99 && (decide (0 < unitD unit count) && (inB dir 0 7 && decide (b = ⟨#[]⟩)))
    else (decide (count = 0) && (decide (unit = ⟨#[]⟩) && decide (dir = 0))) && (if kind = 0 ∨ kind = 1 then decide (b = ⟨#[]⟩) else decide (kind = 3) && (codeW b && !decide (a = b))))) from rfl)
  unfold Dsc.val
  dsimp only
  generalize isD ⟨kind, count, unit, dir, a, b⟩ = r at HX ⊢
  have CA := Lib.hid (specCodeW_any a ha)
  have CB := Lib.hid (specCodeW_any b hb)
  have CU := Lib.hid (specUnit_any unit hu count)
  have KN := Lib.hid (dsc_new w 79 #[.int .i64 kind, .int .i64 count, .string unit, .int .i64 dir, .string a, .string b])
  have sb := str_lit b []
  have su := str_lit unit []
  have sab := str_eq a b
  generalize codeW a = ca at CA HX
  generalize codeW b = cb at CB HX
  generalize unitD unit count = un at CU HX
  cases ca
  · go_enter Tryz.func106, Tryz.ntmps106
    go_wp2_with fail
    generalize hW : w.alloc (.cells #[.int .i64 kind, .int .i64 count, .string unit, .int .i64 dir, .string a, .string b] 79) = W
    obtain ⟨bk, bw⟩ := KN.out W hW.symm
    clear hW
    refine (CA.out W).mono ?_; rintro e w1 ⟨rfl, b1⟩
    go_wp2_with fail
    go_ret
    exact ⟨ret_bool (by rw [HX.out]; rfl), bw.trans (b1.mono bw.size)⟩
  · by_cases hk : kind = 2
    · subst hk
      rw [if_pos rfl] at HX
      cases h1 : inB count 1 99 <;> cases h3 : inB dir 0 7 <;> by_cases h2 : 0 < un
      all_goals
        have I1 := Lib.hid (specIn_any count 1 99); rw [h1] at I1
        have I3 := Lib.hid (specIn_any dir 0 7); rw [h3] at I3
        rw [h1, h3] at HX
        clear h1 h3
        go_enter Tryz.func106, Tryz.ntmps106
        go_wp2_with fail
        generalize hW : w.alloc (.cells #[.int .i64 2, .int .i64 count, .string unit, .int .i64 dir, .string a, .string b] 79) = W
        obtain ⟨bk, bw⟩ := KN.out W hW.symm
        clear hW
        refine (CA.out W).mono ?_; rintro e w1 ⟨rfl, b1⟩
        obtain ⟨k0, k1, k2, k3, k4, k5⟩ := dsc_cells (bk.below b1 bk.lt)
        have B1 := Lib.hid (bw.trans (b1.mono bw.size)); clear b1 bw bk
        go_wp2_with fail
        refine (I1.out _).mono ?_; rintro e w' ⟨rfl, rfl⟩
        go_wp2_with (first | ((with_reducible refine (CU.out _).mono ?_); rintro e w' ⟨rfl, rfl⟩) | ((with_reducible refine (I3.out _).mono ?_); rintro e w' ⟨rfl, rfl⟩) | fail)
        go_ret
        exact ⟨ret_bool (by rw [HX.out]; simp [h2, sb]; try (intro h; omega)), B1.out⟩
    · rw [if_neg hk] at HX
      have hk2 : (kind == 2) = false := by simpa using hk
      clear hk
      by_cases h1 : count = 0
      · have c1 : (count != 0) = false := by simpa using h1
        rw [decide_eq_true h1] at HX
        clear h1
        by_cases h2 : unit = ⟨#[]⟩
        · rw [decide_eq_true h2] at HX su
          clear h2
          by_cases h3 : dir = 0
          · have c3 : (dir != 0) = false := by simpa using h3
            rw [decide_eq_true h3] at HX
            clear h3
            rcases (show (kind == 0) = true ∨ ((kind == 0) = false ∧ (kind == 1) = true) ∨ ((kind == 0) = false ∧ (kind == 1) = false ∧ (kind == 3) = true) ∨ ((kind == 0) = false ∧ (kind == 1) = false ∧ (kind == 3) = false) by cases (kind == 0) <;> cases (kind == 1) <;> cases (kind == 3) <;> simp) with q0 | ⟨q0, q1⟩ | ⟨q0, q1, q3⟩ | ⟨q0, q1, q3⟩
            · rw [if_pos (.inl (by simpa using q0))] at HX
              go_enter Tryz.func106, Tryz.ntmps106
              go_wp2_with fail
              generalize hW : w.alloc (.cells #[.int .i64 kind, .int .i64 count, .string unit, .int .i64 dir, .string a, .string b] 79) = W
              obtain ⟨bk, bw⟩ := KN.out W hW.symm
              clear hW
              refine (CA.out W).mono ?_; rintro e w1 ⟨rfl, b1⟩
              have BK := Lib.hid (bk.below b1 bk.lt)
              obtain ⟨k0, k1, k2, k3, k4, k5⟩ := dsc_cells BK.out
              have B1 := Lib.hid (bw.trans (b1.mono bw.size)); clear b1 bw bk
              go_wp2_with fail
              go_ret
              exact ⟨ret_bool (by rw [HX.out]; simp [sb]), B1.out⟩
            · rw [if_pos (.inr (by simpa using q1))] at HX
              go_enter Tryz.func106, Tryz.ntmps106
              go_wp2_with fail
              generalize hW : w.alloc (.cells #[.int .i64 kind, .int .i64 count, .string unit, .int .i64 dir, .string a, .string b] 79) = W
              obtain ⟨bk, bw⟩ := KN.out W hW.symm
              clear hW
              refine (CA.out W).mono ?_; rintro e w1 ⟨rfl, b1⟩
              have BK := Lib.hid (bk.below b1 bk.lt)
              obtain ⟨k0, k1, k2, k3, k4, k5⟩ := dsc_cells BK.out
              have B1 := Lib.hid (bw.trans (b1.mono bw.size)); clear b1 bw bk
              go_wp2_with fail
              go_ret
              exact ⟨ret_bool (by rw [HX.out]; simp [sb]), B1.out⟩
            · rw [if_neg (by simp at q0 q1; omega), decide_eq_true (show kind = 3 by simpa using q3)] at HX
              cases cb
              · go_enter Tryz.func106, Tryz.ntmps106
                go_wp2_with fail
                generalize hW : w.alloc (.cells #[.int .i64 kind, .int .i64 count, .string unit, .int .i64 dir, .string a, .string b] 79) = W
                obtain ⟨bk, bw⟩ := KN.out W hW.symm
                clear hW
                refine (CA.out W).mono ?_; rintro e w1 ⟨rfl, b1⟩
                have BK := Lib.hid (bk.below b1 bk.lt)
                obtain ⟨k0, k1, k2, k3, k4, k5⟩ := dsc_cells BK.out
                have B1 := Lib.hid (bw.trans (b1.mono bw.size)); clear b1 bw bk
                go_wp2_with fail
                refine (CB.out _).mono ?_; rintro e w2 ⟨rfl, b2⟩
                go_wp2_with fail
                go_ret
                exact ⟨ret_bool (by rw [HX.out]; rfl), B1.out.trans (b2.mono B1.out.size)⟩
              · go_enter Tryz.func106, Tryz.ntmps106
                go_wp2_with fail
                generalize hW : w.alloc (.cells #[.int .i64 kind, .int .i64 count, .string unit, .int .i64 dir, .string a, .string b] 79) = W
                obtain ⟨bk, bw⟩ := KN.out W hW.symm
                clear hW
                refine (CA.out W).mono ?_; rintro e w1 ⟨rfl, b1⟩
                have BK := Lib.hid (bk.below b1 bk.lt)
                obtain ⟨k0, k1, k2, k3, k4, k5⟩ := dsc_cells BK.out
                have B1 := Lib.hid (bw.trans (b1.mono bw.size)); clear b1 bw bk
                go_wp2_with fail
                refine (CB.out _).mono ?_; rintro e w2 ⟨rfl, b2⟩
                obtain ⟨k0, k1, k2, k3, k4, k5⟩ := dsc_cells (BK.out.below b2 BK.out.lt)
                go_wp2_with fail
                go_ret
                exact ⟨ret_bool (by rw [HX.out]; simp [bne, sab]), B1.out.trans (b2.mono B1.out.size)⟩
            · rw [if_neg (by simp at q0 q1; omega), decide_eq_false (show ¬ kind = 3 by simpa using q3)] at HX
              go_enter Tryz.func106, Tryz.ntmps106
              go_wp2_with fail
              generalize hW : w.alloc (.cells #[.int .i64 kind, .int .i64 count, .string unit, .int .i64 dir, .string a, .string b] 79) = W
              obtain ⟨bk, bw⟩ := KN.out W hW.symm
              clear hW
              refine (CA.out W).mono ?_; rintro e w1 ⟨rfl, b1⟩
              have BK := Lib.hid (bk.below b1 bk.lt)
              obtain ⟨k0, k1, k2, k3, k4, k5⟩ := dsc_cells BK.out
              have B1 := Lib.hid (bw.trans (b1.mono bw.size)); clear b1 bw bk
              go_wp2_with fail
              go_ret
              exact ⟨ret_bool (by rw [HX.out]; rfl), B1.out⟩
          · have c3 : (dir != 0) = true := by simpa using h3
            rw [decide_eq_false h3] at HX
            clear h3
            go_enter Tryz.func106, Tryz.ntmps106
            go_wp2_with fail
            generalize hW : w.alloc (.cells #[.int .i64 kind, .int .i64 count, .string unit, .int .i64 dir, .string a, .string b] 79) = W
            obtain ⟨bk, bw⟩ := KN.out W hW.symm
            clear hW
            refine (CA.out W).mono ?_; rintro e w1 ⟨rfl, b1⟩
            have BK := Lib.hid (bk.below b1 bk.lt)
            obtain ⟨k0, k1, k2, k3, k4, k5⟩ := dsc_cells BK.out
            have B1 := Lib.hid (bw.trans (b1.mono bw.size)); clear b1 bw bk
            go_wp2_with fail
            go_ret
            exact ⟨ret_bool (by rw [HX.out]; rfl), B1.out⟩
        · rw [decide_eq_false h2] at HX su
          clear h2
          go_enter Tryz.func106, Tryz.ntmps106
          go_wp2_with fail
          generalize hW : w.alloc (.cells #[.int .i64 kind, .int .i64 count, .string unit, .int .i64 dir, .string a, .string b] 79) = W
          obtain ⟨bk, bw⟩ := KN.out W hW.symm
          clear hW
          refine (CA.out W).mono ?_; rintro e w1 ⟨rfl, b1⟩
          have BK := Lib.hid (bk.below b1 bk.lt)
          obtain ⟨k0, k1, k2, k3, k4, k5⟩ := dsc_cells BK.out
          have B1 := Lib.hid (bw.trans (b1.mono bw.size)); clear b1 bw bk
          go_wp2_with fail
          go_ret
          exact ⟨ret_bool (by rw [HX.out]; rfl), B1.out⟩
      · have c1 : (count != 0) = true := by simpa using h1
        rw [decide_eq_false h1] at HX
        clear h1
        go_enter Tryz.func106, Tryz.ntmps106
        go_wp2_with fail
        generalize hW : w.alloc (.cells #[.int .i64 kind, .int .i64 count, .string unit, .int .i64 dir, .string a, .string b] 79) = W
        obtain ⟨bk, bw⟩ := KN.out W hW.symm
        clear hW
        refine (CA.out W).mono ?_; rintro e w1 ⟨rfl, b1⟩
        have BK := Lib.hid (bk.below b1 bk.lt)
        obtain ⟨k0, k1, k2, k3, k4, k5⟩ := dsc_cells BK.out
        have B1 := Lib.hid (bw.trans (b1.mono bw.size)); clear b1 bw bk
        go_wp2_with fail
        go_ret
        exact ⟨ret_bool (by rw [HX.out]; rfl), B1.out⟩
end Go.Proofs.YtaaioengebaebaaGreatDoor
