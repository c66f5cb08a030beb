/- Entries: IsEntry and AreEntries of both. -/
import Derived.Test.YtihhpmhigmegjaaGreatDoorRows
import Derived.Test.YtihhpmhigmegjaaGreatDoorL0
import Derived.Test.YtihhpmhigmegjaaGreatDoorM0
import Derived.WalkKit
import Derived.ProofKit
import Derived.OpenShut
import Derived.BigQuiet
import Derived.Outline
import Derived.WalkSpells
import Derived.WalkLawsBesides
import Derived.Deep.DeepCutAuto
import Derived.Test.YtihhpmhigmegjaaGreatDoorG4
import Derived.Test.YtihhpmhigmegjaaGreatDoorFE0
namespace Go.Proofs.YtihhpmhigmegjaaGreatDoor
open Go.ChangeShapes Go.WideShapes Go.ChangeAt Go.RowKit

/-- Whether an entry is as described. -/
def entB (e : Ent) : Bool := phrB e.text && (ptB e.x e.y && inB e.since (-3000) 3000)
theorem ent_facts {w : World} {g : Nat} {t : TypeId} {a b c d : Value} (h : Blk w g t #[a, b, c, d]) : w.cell? ⟨g, 0, none⟩ = some a ∧ w.cell? ⟨g, 1, none⟩ = some b ∧ w.cell? ⟨g, 2, none⟩ = some c ∧ w.cell? ⟨g, 3, none⟩ = some d := cells_4 h
set_option maxRecDepth 100000 in
theorem specEnt_any (b : Ent) (hs : b.text.size ≤ 1048576) (w : World) :
    Calls Tryz.prog 43 #[b.val] w fun e w' => e = .returned (.bool (entB b)) ∧ Below w.heap.size w w' := by
  have H1 := Lib.hid (specPhr_any b.text (by omega))
  have H2 := Lib.hid (specPt_any b.x b.y)
  have H3 := Lib.hid (specYear_any b.since)
  have HX := Lib.hid (show entB b = (phrB b.text && (ptB b.x b.y && inB b.since (-3000) 3000)) from rfl)
  have KN := Lib.hid (blks_one w 45 #[.string b.text, .int .i64 b.x, .int .i64 b.y, .int .i64 b.since])
  unfold Ent.val
  generalize entB b = r at HX ⊢
  generalize phrB b.text = q1 at *
  generalize ptB b.x b.y = q2 at *
  generalize inB b.since (-3000) 3000 = q3 at *
  cases q1 <;> cases q2
  all_goals
    go_enter Tryz.func43, Tryz.ntmps43
    go_wp2_with fail
    generalize hW : w.alloc (.cells #[.string b.text, .int .i64 b.x, .int .i64 b.y, .int .i64 b.since] 45) = W
    obtain ⟨bk, bw, _⟩ := KN.out W hW.symm
    clear hW
    refine (H1.out W).mono ?_; rintro e w1 ⟨rfl, b1⟩
    have B1 := Lib.hid (bw.trans (b1.mono bw.size))
    have K1 := Lib.hid (bk.below b1 bk.lt)
    obtain ⟨c0, c1, c2, c3⟩ := cells_4 K1.out
    clear b1 bk bw
    go_wp2_with fail
  · go_ret
    exact ⟨ret_bool (by rw [HX.out]; rfl), B1.out⟩
  · go_ret
    exact ⟨ret_bool (by rw [HX.out]; rfl), B1.out⟩
  · refine (H2.out _).mono ?_; rintro e w2 ⟨rfl, b2⟩
    go_wp2_with fail
    go_ret
    exact ⟨ret_bool (by rw [HX.out]; rfl), B1.out.trans (b2.mono B1.out.size)⟩
  · refine (H2.out _).mono ?_; rintro e w2 ⟨rfl, b2⟩
    obtain ⟨c0, c1, c2, c3⟩ := cells_4 (K1.out.below b2 K1.out.lt)
    go_wp2_with fail
    refine (H3.out _).mono ?_; rintro e w' ⟨rfl, rfl⟩
    go_wp2_with fail
    go_ret
    exact ⟨ret_bool (by rw [HX.out]; simp), B1.out.trans (b2.mono B1.out.size)⟩
set_option maxRecDepth 100000 in
theorem implEnt_any (b : Ent) (hs : b.text.size ≤ 1048576) (w : World) :
    Calls Tryz.prog 42 #[b.val] w fun e w' => e = .returned (.bool (entB b)) ∧ Below w.heap.size w w' := by
  have H1 := Lib.hid (implPhr_any b.text (by omega))
  have H2 := Lib.hid (implPt_any b.x b.y)
  have H3 := Lib.hid (implYear_any b.since)
  have HX := Lib.hid (show entB b = (phrB b.text && (ptB b.x b.y && inB b.since (-3000) 3000)) from rfl)
  have KN := Lib.hid (blks_one w 45 #[.string b.text, .int .i64 b.x, .int .i64 b.y, .int .i64 b.since])
  unfold Ent.val
  generalize entB b = r at HX ⊢
  generalize phrB b.text = q1 at *
  generalize ptB b.x b.y = q2 at *
  generalize inB b.since (-3000) 3000 = q3 at *
  cases q1 <;> cases q2
  all_goals
    go_enter Tryz.func42, Tryz.ntmps42
    go_wp2_with fail
    generalize hW : w.alloc (.cells #[.string b.text, .int .i64 b.x, .int .i64 b.y, .int .i64 b.since] 45) = W
    obtain ⟨bk, bw, _⟩ := KN.out W hW.symm
    clear hW
    refine (H1.out W).mono ?_; rintro e w1 ⟨rfl, b1⟩
    have B1 := Lib.hid (bw.trans (b1.mono bw.size))
    have K1 := Lib.hid (bk.below b1 bk.lt)
    obtain ⟨c0, c1, c2, c3⟩ := cells_4 K1.out
    clear b1 bk bw
    go_wp2_with fail
  · go_ret
    exact ⟨ret_bool (by rw [HX.out]; rfl), B1.out⟩
  · go_ret
    exact ⟨ret_bool (by rw [HX.out]; rfl), B1.out⟩
  · refine (H2.out _).mono ?_; rintro e w2 ⟨rfl, b2⟩
    go_wp2_with fail
    go_ret
    exact ⟨ret_bool (by rw [HX.out]; rfl), B1.out.trans (b2.mono B1.out.size)⟩
  · refine (H2.out _).mono ?_; rintro e w2 ⟨rfl, b2⟩
    obtain ⟨c0, c1, c2, c3⟩ := cells_4 (K1.out.below b2 K1.out.lt)
    go_wp2_with fail
    refine (H3.out _).mono ?_; rintro e w' ⟨rfl, rfl⟩
    go_wp2_with fail
    go_ret
    exact ⟨ret_bool (by rw [HX.out]; simp), B1.out.trans (b2.mono B1.out.size)⟩
end Go.Proofs.YtihhpmhigmegjaaGreatDoor
