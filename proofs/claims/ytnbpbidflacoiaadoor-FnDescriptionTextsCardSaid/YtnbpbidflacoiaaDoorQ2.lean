/- Codes of places, of the program: isOwnWord, isCode; units of both. -/
import Derived.Test.YtnbpbidflacoiaaDoorRows
import Derived.Test.YtnbpbidflacoiaaDoorL0
import Derived.Test.YtnbpbidflacoiaaDoorM0
import Derived.WalkKit
import Derived.ProofKit
import Derived.OpenShut
import Derived.BigQuiet
import Derived.Outline
import Derived.WalkSpells
import Derived.WalkLawsBesides
import Derived.Deep.DeepCutAuto
import Derived.Test.YtnbpbidflacoiaaDoorQ1
import Derived.Test.YtnbpbidflacoiaaDoorI5
import Derived.Lib.Hide
namespace Go.Proofs.YtnbpbidflacoiaaDoor
open Go.ChangeShapes Go.WideShapes Go.ChangeAt Go.RowKit

/-- The table of the directions lies in memory. -/
def Dirs (w : World) : Prop := Reads w w.heap.size 1 (some ⟨0, 0, none⟩) 8 (txC dirsL)
theorem Dirs.below {w w' : World} (h : Dirs w) (hb : Below w.heap.size w w') : Dirs w' := (Reads.below h hb).more hb.size
theorem own_reads (w : World) (t : TypeId) : Reads (w.alloc (.cells (txC ownW).toArray t)) (w.alloc (.cells (txC ownW).toArray t)).heap.size 1 (some ⟨w.heap.size, 0, none⟩) 9 (txC ownW) :=
  ⟨rfl, fun _ => ⟨w.heap.size, 0, rfl, by simp, fun j u hu => by
    rw [Nat.zero_add, (Blk.new w t (txC ownW).toArray).cell]; simpa using hu⟩⟩
set_option maxRecDepth 100000 in
theorem ownWord_any (s : ByteArray) (w : World) (hd : Dirs w) :
    Calls Tryd.prog 74 #[.string s] w fun e w' => e = .returned (.bool (decide (0 ≤ ixS s ownW) || decide (0 ≤ ixS s dirsL))) ∧ Below w.heap.size w w' := by
  have HC1 := Lib.hid (containsS_any ownW s (by decide) (some ⟨w.heap.size, 0, none⟩) 9 (w.alloc (.cells (txC ownW).toArray 9)) (own_reads w _))
  have BA := (Below.refl w.heap.size w).alloc (Nat.le_refl _) (.cells (txC ownW).toArray 9)
  have HC2 := Lib.hid (fun W (hb : Below w.heap.size w W) => containsS_any dirsL s (by decide) (some ⟨0, 0, none⟩) 8 W (hd.below hb))
  have HB := Lib.hid BA; clear BA
  cases h1 : decide (0 ≤ ixS s ownW)
  all_goals
    have H1 := Lib.hid h1; clear h1
    rw [H1.out] at HC1
    go_enter Tryd.func74, Tryd.ntmps74
    go_wp2_with fail
    refine HC1.out.mono ?_; rintro e w' ⟨rfl, rfl⟩
    go_wp2_with fail
  · refine (HC2.out _ HB.out).mono ?_; rintro e w' ⟨rfl, rfl⟩
    go_wp2_with fail
    go_ret
    exact ⟨ret_bool (by simp), HB.out⟩
  · go_ret
    exact ⟨ret_bool (by simp), HB.out⟩
theorem implCodeW_any (s : ByteArray) (hs : s.size ≤ 9223372036854775807) (w : World) (hd : Dirs w) :
    Calls Tryd.prog 44 #[.string s] w fun e w' => e = .returned (.bool (codeW s)) ∧ Below w.heap.size w w' := by
  have HW := Lib.hid (implWord_any s w hs)
  have HD := Lib.hid hd; clear hd
  have HX := Lib.hid (show codeW s = (wordB s && !(decide (0 ≤ ixS s ownW) || decide (0 ≤ ixS s dirsL))) by unfold codeW; cases wordB s <;> cases decide (0 ≤ ixS s ownW) <;> rfl)
  generalize codeW s = cw at HX
  cases hw : wordB s
  all_goals
    rw [hw] at HX HW
    clear hw
    go_enter Tryd.func44, Tryd.ntmps44
    go_wp2_with fail
    refine HW.out.mono ?_; rintro e w1 ⟨rfl, b1⟩
    have B1 := Lib.hid b1; clear b1
    go_wp2_with fail
  · go_ret
    exact ⟨ret_bool (by rw [HX.out]; rfl), B1.out⟩
  · refine (ownWord_any s w1 (HD.out.below B1.out)).mono ?_; rintro e w2 ⟨rfl, b2⟩
    go_wp2_with fail
    go_ret
    exact ⟨ret_bool (by rw [HX.out]; simp), B1.out.trans (b2.mono B1.out.size)⟩

/-- The length of a unit for a count; 0 if it is none. -/
def unitD (u : ByteArray) (c : Int) : Int := if c = 1 then (if u = ⟨#[109, 105, 108, 101]⟩ then 4 else if u = ⟨#[108, 101, 97, 103, 117, 101]⟩ then 12 else 0) else (if u = ⟨#[109, 105, 108, 101, 115]⟩ then 4 else if u = ⟨#[108, 101, 97, 103, 117, 101, 115]⟩ then 12 else 0)
set_option maxRecDepth 100000 in
theorem isUnit_any (u : ByteArray) (c : Int) (w : World) :
    Calls Tryd.prog 52 #[.string u, .int .i64 c] w fun e w' => e = .returned (.bool (decide (0 < unitD u c))) ∧ w = w' := by
  have e1 := str_lit u [109, 105, 108, 101]
  have e2 := str_lit u [108, 101, 97, 103, 117, 101]
  have e3 := str_lit u [109, 105, 108, 101, 115]
  have e4 := str_lit u [108, 101, 97, 103, 117, 101, 115]
  by_cases hc : c = 1
  · have HU := Lib.hid (show unitD u c = if u = ⟨#[109, 105, 108, 101]⟩ then 4 else if u = ⟨#[108, 101, 97, 103, 117, 101]⟩ then 12 else 0 by rw [unitD, if_pos hc])
    by_cases h1 : u = ⟨#[109, 105, 108, 101]⟩
    · rw [if_pos h1] at HU
      rw [decide_eq_true h1] at e1
      clear h1 e2 e3 e4
      go_enter Tryd.func52, Tryd.ntmps52
      go_wp2_with fail
      go_ret
      exact ⟨ret_bool (by rw [HU.out]; rfl), rfl⟩
    · rw [if_neg h1] at HU
      rw [decide_eq_false h1] at e1
      by_cases h2 : u = ⟨#[108, 101, 97, 103, 117, 101]⟩
      · rw [if_pos h2] at HU
        rw [decide_eq_true h2] at e2
        clear h1 h2 e3 e4
        go_enter Tryd.func52, Tryd.ntmps52
        go_wp2_with fail
        go_ret
        exact ⟨ret_bool (by rw [HU.out]; rfl), rfl⟩
      · rw [if_neg h2] at HU
        rw [decide_eq_false h2] at e2
        clear h1 h2 e3 e4
        go_enter Tryd.func52, Tryd.ntmps52
        go_wp2_with fail
        go_ret
        exact ⟨ret_bool (by rw [HU.out]; rfl), rfl⟩
  · have HU := Lib.hid (show unitD u c = if u = ⟨#[109, 105, 108, 101, 115]⟩ then 4 else if u = ⟨#[108, 101, 97, 103, 117, 101, 115]⟩ then 12 else 0 by rw [unitD, if_neg hc])
    by_cases h1 : u = ⟨#[109, 105, 108, 101, 115]⟩
    · rw [if_pos h1] at HU
      rw [decide_eq_true h1] at e3
      clear h1 e2 e1 e4
      go_enter Tryd.func52, Tryd.ntmps52
      go_wp2_with fail
      go_ret
      exact ⟨ret_bool (by rw [HU.out]; rfl), rfl⟩
    · rw [if_neg h1] at HU
      rw [decide_eq_false h1] at e3
      by_cases h2 : u = ⟨#[108, 101, 97, 103, 117, 101, 115]⟩
      · rw [if_pos h2] at HU
        rw [decide_eq_true h2] at e4
        clear h1 h2 e1 e2
        go_enter Tryd.func52, Tryd.ntmps52
        go_wp2_with fail
        go_ret
        exact ⟨ret_bool (by rw [HU.out]; rfl), rfl⟩
      · rw [if_neg h2] at HU
        rw [decide_eq_false h2] at e4
        clear h1 h2 e1 e2
        go_enter Tryd.func52, Tryd.ntmps52
        go_wp2_with fail
        go_ret
        exact ⟨ret_bool (by rw [HU.out]; rfl), rfl⟩
end Go.Proofs.YtnbpbidflacoiaaDoor
