/- Description: their cells; the law's own helpers over them: sizes, copies, comparisons. -/
import Derived.Test.YtnbpbidflacoiaaDoorRows
import Derived.Test.YtnbpbidflacoiaaDoorL0
import Derived.Test.YtnbpbidflacoiaaDoorM0
import Derived.WalkKit
import Derived.ProofKit
import Derived.OpenShut
import Derived.BigQuiet
import Derived.Outline
import Derived.WalkSpells
import Derived.WalkLawsBesides
import Derived.Deep.DeepCutAuto
import Derived.Test.YtnbpbidflacoiaaDoorM1
import Derived.Test.YtnbpbidflacoiaaDoorW0
import Derived.Test.YtnbpbidflacoiaaDoorFA
import Derived.Lib.Hide
import Derived.StillTailTactics
import Derived.Test.YtnbpbidflacoiaaDoorQ0
namespace Go.Proofs.YtnbpbidflacoiaaDoor
open Go.ChangeShapes Go.WideShapes Go.ChangeAt Go.RowKit

def Dsc.cells (b : Dsc) : List Value := [.int .i64 b.kind, .int .i64 b.count, .string b.unit, .int .i64 b.dir, .string b.a, .string b.b]
def dsC (xs : List Dsc) : List Value := xs.flatMap Dsc.cells
theorem dsC_len (xs : List Dsc) : (dsC xs).length = xs.length * 6 := by
  induction xs with
  | nil => rfl
  | cons x r ih => simp [dsC, Dsc.cells] at *; omega
theorem dsC_get (xs : List Dsc) (k : Nat) (h : k < xs.length) : (dsC xs)[k * 6]? = some (.int .i64 xs[k].kind) ∧ (dsC xs)[k * 6 + 1]? = some (.int .i64 xs[k].count) ∧ (dsC xs)[k * 6 + 2]? = some (.string xs[k].unit) ∧ (dsC xs)[k * 6 + 3]? = some (.int .i64 xs[k].dir) ∧ (dsC xs)[k * 6 + 4]? = some (.string xs[k].a) ∧ (dsC xs)[k * 6 + 5]? = some (.string xs[k].b) := by
  induction xs generalizing k with
  | nil => simp at h
  | cons x r ih =>
    cases k with
    | zero => simp [dsC, Dsc.cells]
    | succ k =>
      obtain ⟨i0, i1, i2, i3, i4, i5⟩ := ih k (by simpa using h)
      simp only [dsC, List.flatMap_cons, Dsc.cells] at i0 i1 i2 i3 i4 i5 ⊢
      refine ⟨?_, ?_, ?_, ?_, ?_, ?_⟩
      · rw [show (k + 1) * 6 = k * 6 + 1 + 1 + 1 + 1 + 1 + 1 from by omega]; simpa using i0
      · rw [show (k + 1) * 6 + 1 = k * 6 + 1 + 1 + 1 + 1 + 1 + 1 + 1 from by omega]; simpa using i1
      · rw [show (k + 1) * 6 + 2 = k * 6 + 2 + 1 + 1 + 1 + 1 + 1 + 1 from by omega]; simpa using i2
      · rw [show (k + 1) * 6 + 3 = k * 6 + 3 + 1 + 1 + 1 + 1 + 1 + 1 from by omega]; simpa using i3
      · rw [show (k + 1) * 6 + 4 = k * 6 + 4 + 1 + 1 + 1 + 1 + 1 + 1 from by omega]; simpa using i4
      · rw [show (k + 1) * 6 + 5 = k * 6 + 5 + 1 + 1 + 1 + 1 + 1 + 1 from by omega]; simpa using i5
theorem dsC_one (xs : List Dsc) : ∀ u ∈ dsC xs, u.oneCell' = true := by
  intro u hu
  simp only [dsC, List.mem_flatMap] at hu
  obtain ⟨s, _, h⟩ := hu
  simp [Dsc.cells] at h
  rcases h with rfl | rfl | rfl | rfl | rfl | rfl <;> rfl

/-- What is left of the size: -1 if it is too large. -/
def szDsc (left : Int) (b : Dsc) : Int := if left - b.unit.size < 0 then -1 else if left - b.unit.size - b.a.size < 0 then -1 else if left - b.unit.size - b.a.size - b.b.size < 0 then -1 else left - b.unit.size - b.a.size - b.b.size
theorem szDsc_pos {left : Int} {b : Dsc} (h : 0 ≤ szDsc left b) : (b.unit.size : Int) ≤ left ∧ (b.a.size : Int) ≤ left ∧ (b.b.size : Int) ≤ left ∧ szDsc left b ≤ left := by
  unfold szDsc at h ⊢
  repeat' split at h
  all_goals first | omega | (simp only [*, if_false]; omega)
def szDscTo (left : Int) : List Dsc → Int
  | [] => left
  | b :: r => if szDsc left b < 0 then -1 else szDscTo (szDsc left b) r
def szDscS (left : Int) (xs : List Dsc) : Int := if left - xs.length < 0 then -1 else szDscTo (left - xs.length) xs
theorem szDscTo_pos {left : Int} (xs : List Dsc) (h : 0 ≤ szDscTo left xs) : (∀ b ∈ xs, (b.unit.size : Int) ≤ left ∧ (b.a.size : Int) ≤ left ∧ (b.b.size : Int) ≤ left) ∧ szDscTo left xs ≤ left := by
  induction xs generalizing left with
  | nil => exact ⟨fun b hb => by simp at hb, Int.le_refl _⟩
  | cons x r ih =>
    unfold szDscTo at h ⊢
    split at h
    · omega
    · rename_i hn
      have hp := szDsc_pos (left := left) (b := x) (by omega)
      obtain ⟨i1, i2⟩ := ih h
      rw [if_neg hn]
      refine ⟨fun b hb => ?_, by omega⟩
      rcases List.mem_cons.1 hb with rfl | hb
      · simp only [hp, and_self]
      · have := i1 b hb; omega
theorem szDscS_pos {left : Int} {xs : List Dsc} (hl : left ≤ 1048576) (h : 0 ≤ szDscS left xs) : xs.length ≤ 1048576 ∧ (∀ b ∈ xs, b.unit.size ≤ 1048576 ∧ b.a.size ≤ 1048576 ∧ b.b.size ≤ 1048576) ∧ szDscS left xs ≤ left := by
  unfold szDscS at h ⊢
  split at h
  · omega
  · rename_i hn
    rw [if_neg hn]
    obtain ⟨h1, h2⟩ := szDscTo_pos xs h
    exact ⟨by omega, fun b hb => (by have := h1 b hb; omega), by omega⟩
set_option maxRecDepth 100000 in
theorem szDsc_any (b : Dsc) (hb : b.Ok) (left : Int) (h0 : 0 ≤ left) (h1 : left ≤ 1048576) (w : World) :
    Calls Tryd.prog 26 #[b.val, .int .i64 left] w fun e w' => e = .returned (.int .i64 (szDsc left b)) ∧ Below w.heap.size w w' := by
  obtain ⟨kind, count, unit, dir, a, b⟩ := b
  obtain ⟨s0, s1, s2⟩ := hb
  dsimp only at s0 s1 s2
  unfold Dsc.val szDsc
  dsimp only
  by_cases c0 : left - unit.size < 0
  · rw [if_pos c0]
    go_enter Tryd.func26, Tryd.ntmps26
    go_wp2
    go_ret
    exact ⟨rfl, by (repeat (first | exact Below.refl _ _ | assumption | refine Below.drew ?_ | refine below_drewN' ?_ _ | refine Below.alloc ?_ (by (try simp); (try omega)) _ | refine Below.setCell ?_ (by (try simp); (try omega)) _))⟩
  · rw [if_neg c0]
    by_cases c1 : left - unit.size - a.size < 0
    · rw [if_pos c1]
      go_enter Tryd.func26, Tryd.ntmps26
      go_wp2
      go_ret
      exact ⟨rfl, by (repeat (first | exact Below.refl _ _ | assumption | refine Below.drew ?_ | refine below_drewN' ?_ _ | refine Below.alloc ?_ (by (try simp); (try omega)) _ | refine Below.setCell ?_ (by (try simp); (try omega)) _))⟩
    · rw [if_neg c1]
      by_cases c2 : left - unit.size - a.size - b.size < 0
      · rw [if_pos c2]
        go_enter Tryd.func26, Tryd.ntmps26
        go_wp2
        go_ret
        exact ⟨rfl, by (repeat (first | exact Below.refl _ _ | assumption | refine Below.drew ?_ | refine below_drewN' ?_ _ | refine Below.alloc ?_ (by (try simp); (try omega)) _ | refine Below.setCell ?_ (by (try simp); (try omega)) _))⟩
      · rw [if_neg c2]
        go_enter Tryd.func26, Tryd.ntmps26
        go_wp2
        go_ret
        exact ⟨rfl, by (repeat (first | exact Below.refl _ _ | assumption | refine Below.drew ?_ | refine below_drewN' ?_ _ | refine Below.alloc ?_ (by (try simp); (try omega)) _ | refine Below.setCell ?_ (by (try simp); (try omega)) _))⟩
theorem infoDsc : (Tryd.prog.info? 25).map (fun i => (i.zero, i.size, i.bytes)) = some (some (.agg #[.int .i64 0, .int .i64 0, .string ⟨#[]⟩, .int .i64 0, .string ⟨#[]⟩, .string ⟨#[]⟩]), 6, 72) := by kernel_rfl
instance : DecidableEq Dsc := fun a b => by
  cases a; cases b
  rw [Dsc.mk.injEq]
  infer_instance
set_option maxRecDepth 100000 in
theorem eqDsc_any (u1 u2 : Dsc) (w : World) :
    Calls Tryd.prog 38 #[u1.val, u2.val] w fun e w' => e = .returned (.bool (decide (u1 = u2))) ∧ Below w.heap.size w w' := by
  obtain ⟨kind, count, unit, dir, a, b⟩ := u1
  obtain ⟨kind', count', unit', dir', a', b'⟩ := u2
  have HX := Lib.hid (show decide ((⟨kind, count, unit, dir, a, b⟩ : Dsc) = ⟨kind', count', unit', dir', a', b'⟩) = (decide (kind = kind') && (decide (count = count') && (decide (unit = unit') && (decide (dir = dir') && (decide (a = a') && decide (b = b')))))) by simp [Bool.and_assoc])
  generalize decide ((⟨kind, count, unit, dir, a, b⟩ : Dsc) = ⟨kind', count', unit', dir', a', b'⟩) = r at HX ⊢
  unfold Dsc.val
  dsimp only
  by_cases h0 : kind = kind'
  rotate_left
  · have q0 : (kind != kind') = true := by simpa using h0
    rw [decide_eq_false h0] at HX
    clear h0
    go_enter Tryd.func38, Tryd.ntmps38
    go_wp2_with fail
    go_ret
    exact ⟨ret_bool (by rw [HX.out]; rfl), by (repeat (first | exact Below.refl _ _ | assumption | refine Below.drew ?_ | refine below_drewN' ?_ _ | refine Below.alloc ?_ (by (try simp); (try omega)) _ | refine Below.setCell ?_ (by (try simp); (try omega)) _))⟩
  have q0 : (kind != kind') = false := by simpa using h0
  rw [decide_eq_true h0] at HX
  clear h0
  by_cases h1 : count = count'
  rotate_left
  · have q1 : (count != count') = true := by simpa using h1
    rw [decide_eq_false h1] at HX
    clear h1
    go_enter Tryd.func38, Tryd.ntmps38
    go_wp2_with fail
    go_ret
    exact ⟨ret_bool (by rw [HX.out]; rfl), by (repeat (first | exact Below.refl _ _ | assumption | refine Below.drew ?_ | refine below_drewN' ?_ _ | refine Below.alloc ?_ (by (try simp); (try omega)) _ | refine Below.setCell ?_ (by (try simp); (try omega)) _))⟩
  have q1 : (count != count') = false := by simpa using h1
  rw [decide_eq_true h1] at HX
  clear h1
  have q2 := str_eq unit unit'
  by_cases h2 : unit = unit'
  rotate_left
  · rw [decide_eq_false h2] at HX q2
    clear h2
    go_enter Tryd.func38, Tryd.ntmps38
    go_wp2_with fail
    go_ret
    exact ⟨ret_bool (by rw [HX.out]; rfl), by (repeat (first | exact Below.refl _ _ | assumption | refine Below.drew ?_ | refine below_drewN' ?_ _ | refine Below.alloc ?_ (by (try simp); (try omega)) _ | refine Below.setCell ?_ (by (try simp); (try omega)) _))⟩
  rw [decide_eq_true h2] at HX q2
  clear h2
  by_cases h3 : dir = dir'
  rotate_left
  · have q3 : (dir != dir') = true := by simpa using h3
    rw [decide_eq_false h3] at HX
    clear h3
    go_enter Tryd.func38, Tryd.ntmps38
    go_wp2_with fail
    go_ret
    exact ⟨ret_bool (by rw [HX.out]; rfl), by (repeat (first | exact Below.refl _ _ | assumption | refine Below.drew ?_ | refine below_drewN' ?_ _ | refine Below.alloc ?_ (by (try simp); (try omega)) _ | refine Below.setCell ?_ (by (try simp); (try omega)) _))⟩
  have q3 : (dir != dir') = false := by simpa using h3
  rw [decide_eq_true h3] at HX
  clear h3
  have q4 := str_eq a a'
  by_cases h4 : a = a'
  rotate_left
  · rw [decide_eq_false h4] at HX q4
    clear h4
    go_enter Tryd.func38, Tryd.ntmps38
    go_wp2_with fail
    go_ret
    exact ⟨ret_bool (by rw [HX.out]; rfl), by (repeat (first | exact Below.refl _ _ | assumption | refine Below.drew ?_ | refine below_drewN' ?_ _ | refine Below.alloc ?_ (by (try simp); (try omega)) _ | refine Below.setCell ?_ (by (try simp); (try omega)) _))⟩
  rw [decide_eq_true h4] at HX q4
  clear h4
  have q5 := str_eq b b'
  by_cases h5 : b = b'
  rotate_left
  · rw [decide_eq_false h5] at HX q5
    clear h5
    go_enter Tryd.func38, Tryd.ntmps38
    go_wp2_with fail
    go_ret
    exact ⟨ret_bool (by rw [HX.out]; rfl), by (repeat (first | exact Below.refl _ _ | assumption | refine Below.drew ?_ | refine below_drewN' ?_ _ | refine Below.alloc ?_ (by (try simp); (try omega)) _ | refine Below.setCell ?_ (by (try simp); (try omega)) _))⟩
  rw [decide_eq_true h5] at HX q5
  clear h5
  go_enter Tryd.func38, Tryd.ntmps38
  go_wp2_with fail
  go_ret
  exact ⟨ret_bool (by rw [HX.out]; rfl), by (repeat (first | exact Below.refl _ _ | assumption | refine Below.drew ?_ | refine below_drewN' ?_ _ | refine Below.alloc ?_ (by (try simp); (try omega)) _ | refine Below.setCell ?_ (by (try simp); (try omega)) _))⟩
theorem dsc_pair {xs ys : List Dsc} {k : Nat} (hl : xs.length = ys.length) (hlt : k < xs.length) (ht : xs.take k = ys.take k) (h1 : xs[k] = ys[k]) : xs.take (k + 1) = ys.take (k + 1) := by
  rw [List.take_succ_eq_append_getElem hlt, List.take_succ_eq_append_getElem (by omega), ht, h1]
/-- What a walk needs: the list lies in memory, and its strings are not too long. -/
def HasDsc (w : World) (xs : List Dsc) (A : Option Addr) : Prop := Reads w w.heap.size 6 A xs.length (dsC xs) ∧ xs.length ≤ 9223372036854775807 ∧ ∀ b ∈ xs, b.Ok
theorem HasDsc.below {w w' : World} {xs : List Dsc} {A : Option Addr} (h : HasDsc w xs A) (hb : Below w.heap.size w w') : HasDsc w' xs A := ⟨(h.1.below hb).more hb.size, h.2⟩
end Go.Proofs.YtnbpbidflacoiaaDoor
