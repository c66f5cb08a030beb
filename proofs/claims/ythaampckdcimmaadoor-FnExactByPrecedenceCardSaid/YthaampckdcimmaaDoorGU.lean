/- ByPrecedence, of the reference and of the program. -/
import Derived.Test.YthaampckdcimmaaDoorRows
import Derived.Test.YthaampckdcimmaaDoorL0
import Derived.Test.YthaampckdcimmaaDoorM0
import Derived.WalkKit
import Derived.ProofKit
import Derived.OpenShut
import Derived.BigQuiet
import Derived.Outline
import Derived.WalkSpells
import Derived.WalkLawsBesides
import Derived.Deep.DeepCutAuto
import Derived.Test.YthaampckdcimmaaDoorGS
import Derived.Test.YthaampckdcimmaaDoorGT
import Derived.Test.YthaampckdcimmaaDoorG6
namespace Go.Proofs.YthaampckdcimmaaDoor
open Go.ChangeShapes Go.WideShapes Go.ChangeAt Go.RowKit Go.Sort

def bpL (xs : List Ent) : List Int := if areE xs = true then ordL (ltE xs) xs.length else []
def bpC (xs : List Ent) : Int := if areE xs = true then 0 else 1
theorem areE_facts {xs : List Ent} (h : areE xs = true) : (∀ f ∈ xs, entB f = true) ∧ xs.length ≤ 12 := by
  simp only [areE, Bool.and_eq_true, List.all_eq_true, decide_eq_true_eq] at h
  exact ⟨h.1, by omega⟩
theorem bpL_len (xs : List Ent) : (bpL xs).length ≤ xs.length := by
  unfold bpL
  split
  · rw [ordL_len]; exact Nat.le_refl _
  · simp
set_option maxRecDepth 100000 in
theorem specBp_any (xs : List Ent) (hs : ∀ b ∈ xs, b.text.size ≤ 1048576) (A : Option Addr) (c : Nat) (w : World) (h : HasEnt w xs A) :
    Calls Tryd.prog 37 #[.slice A xs.length c] w fun e w' => ∃ v, e = .returned (.tuple #[v, .int .i64 (bpC xs)]) ∧ w'.ownsRow w.heap.size 2 1 v (bpL xs).length (inC (bpL xs)) ∧ Below w.heap.size w w' := by
  have HA := Lib.hid (specAreE_any xs A c w h hs)
  have HB := Lib.hid (fun W (hb : Below w.heap.size w W) (ha : areE xs = true) => specOrd_any xs (areE_facts ha).1 A c W (h.below hb) (areE_facts ha).2)
  have HL := Lib.hid (show bpL xs = if areE xs = true then ordL (ltE xs) xs.length else [] from rfl)
  have HC := Lib.hid (show bpC xs = if areE xs = true then 0 else 1 from rfl)
  clear h hs
  generalize bpL xs = L at HL ⊢
  generalize bpC xs = code at HC ⊢
  cases ha : areE xs
  · rw [ha] at HA HL HC
    clear HB ha
    go_enter Tryd.func37, Tryd.ntmps37
    go_wp2_with fail
    refine HA.out.mono ?_; rintro e w1 ⟨rfl, b1⟩
    go_wp2_with fail
    go_ret2
    exact ⟨_, by rw [HC.out]; rfl, by rw [HL.out]; exact World.ownsRow_nil _ _ _ _, b1⟩
  · have HB2 := Lib.hid (fun W hb => HB.out W hb ha)
    rw [ha] at HA HL HC
    rw [if_pos rfl] at HL HC
    have HL2 := HL.out
    rw [← HL2] at HB2
    clear HB ha HL2
    go_enter Tryd.func37, Tryd.ntmps37
    go_wp2_with fail
    refine HA.out.mono ?_; rintro e w1 ⟨rfl, b1⟩
    have B1 := Lib.hid b1; clear b1
    go_wp2_with fail
    refine (HB2.out w1 B1.out).mono ?_; rintro e w2 ⟨v, rfl, own2, b2⟩
    have O2 := Lib.hid own2; have B2 := Lib.hid b2; clear own2 b2
    go_wp2_with fail
    go_ret2
    exact ⟨_, by rw [HC.out]; (first | done | rfl), own_mono O2.out B1.out.size, B1.out.trans (B2.out.mono B1.out.size)⟩
set_option maxRecDepth 100000 in
theorem implBp_any (xs : List Ent) (hs : ∀ b ∈ xs, b.text.size ≤ 1048576) (A : Option Addr) (c : Nat) (w : World) (h : HasEnt w xs A) :
    Calls Tryd.prog 38 #[.slice A xs.length c] w fun e w' => ∃ v, e = .returned (.tuple #[v, .int .i64 (bpC xs)]) ∧ w'.ownsRow w.heap.size 2 1 v (bpL xs).length (inC (bpL xs)) ∧ Below w.heap.size w w' := by
  have HA := Lib.hid (implAreE_any xs A c w h hs)
  have HB := Lib.hid (fun W (hb : Below w.heap.size w W) (ha : areE xs = true) => implOrd_any xs A c W (h.below hb) (areE_facts ha).2)
  have HL := Lib.hid (show bpL xs = if areE xs = true then ordL (ltE xs) xs.length else [] from rfl)
  have HC := Lib.hid (show bpC xs = if areE xs = true then 0 else 1 from rfl)
  clear h hs
  generalize bpL xs = L at HL ⊢
  generalize bpC xs = code at HC ⊢
  cases ha : areE xs
  · rw [ha] at HA HL HC
    clear HB ha
    go_enter Tryd.func38, Tryd.ntmps38
    go_wp2_with fail
    refine HA.out.mono ?_; rintro e w1 ⟨rfl, b1⟩
    go_wp2_with fail
    go_ret2
    exact ⟨_, by rw [HC.out]; rfl, by rw [HL.out]; exact World.ownsRow_nil _ _ _ _, b1⟩
  · have HB2 := Lib.hid (fun W hb => HB.out W hb ha)
    rw [ha] at HA HL HC
    rw [if_pos rfl] at HL HC
    have HL2 := HL.out
    rw [← HL2] at HB2
    clear HB ha HL2
    go_enter Tryd.func38, Tryd.ntmps38
    go_wp2_with fail
    refine HA.out.mono ?_; rintro e w1 ⟨rfl, b1⟩
    have B1 := Lib.hid b1; clear b1
    go_wp2_with fail
    refine (HB2.out w1 B1.out).mono ?_; rintro e w2 ⟨v, rfl, own2, b2⟩
    have O2 := Lib.hid own2; have B2 := Lib.hid b2; clear own2 b2
    go_wp2_with fail
    go_ret2
    exact ⟨_, by rw [HC.out]; (first | done | rfl), own_mono O2.out B1.out.size, B1.out.trans (B2.out.mono B1.out.size)⟩
end Go.Proofs.YthaampckdcimmaaDoor
