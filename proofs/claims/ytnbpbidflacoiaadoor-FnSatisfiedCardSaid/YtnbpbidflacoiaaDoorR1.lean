/- AreSites of the reference. -/
import Derived.Test.YtnbpbidflacoiaaDoorRows
import Derived.Test.YtnbpbidflacoiaaDoorL0
import Derived.Test.YtnbpbidflacoiaaDoorM0
import Derived.WalkKit
import Derived.ProofKit
import Derived.OpenShut
import Derived.BigQuiet
import Derived.Outline
import Derived.WalkSpells
import Derived.WalkLawsBesides
import Derived.Deep.DeepCutAuto
import Derived.Test.YtnbpbidflacoiaaDoorR0
import Derived.Test.YtnbpbidflacoiaaDoorQ2
import Derived.Lib.QuietBelow
import Derived.Deep.QuietTactic
import Derived.IntWalk
namespace Go.Proofs.YtnbpbidflacoiaaDoor
open Go.ChangeShapes Go.WideShapes Go.ChangeAt Go.RowKit Go.Sort

def ptB (x y : Int) : Bool := inB x (-1000) 1000 && inB y (-1000) 1000
def sitB (b : Sit) : Bool := codeW b.name && ptB b.x b.y
def ordS (xs : List Sit) (k : Nat) (b : Sit) : Bool := match k with
  | 0 => true
  | j + 1 => match xs[j]? with
    | some p => strLt p.name b.name
    | none => true
def goodS (xs : List Sit) (k : Nat) : Bool := match xs[k]? with
  | some b => sitB b && ordS xs k b
  | none => true
def areSTo (xs : List Sit) : Nat → Bool
  | 0 => true
  | k + 1 => areSTo xs k && goodS xs k
def areS (xs : List Sit) : Bool := areSTo xs xs.length && decide ((xs.length : Int) ≤ 10)
theorem areSTo_le {xs : List Sit} {k : Nat} : ∀ {n : Nat}, k ≤ n → areSTo xs n = true → areSTo xs k = true
  | 0, h, _ => by obtain rfl : k = 0 := by omega
                  rfl
  | n + 1, h, ht => by
    rw [areSTo, Bool.and_eq_true] at ht
    by_cases hk : k = n + 1
    · subst hk; rw [areSTo, ht.1, ht.2]; rfl
    · exact areSTo_le (by omega) ht.1
theorem areS_bad {xs : List Sit} {k : Nat} (hk : k < xs.length) (h : goodS xs k = false) : areS xs = false := by
  cases ha : areSTo xs xs.length
  · rw [areS, ha, Bool.false_and]
  · have := areSTo_le (k := k + 1) hk ha
    rw [areSTo, h, Bool.and_false] at this
    cases this
theorem same_below {P : Program} {f : FuncId} {args : Array Value} {w : World} {v : Value} (h : Calls P f args w fun e w' => e = .returned v ∧ w = w') : Calls P f args w fun e w' => e = .returned v ∧ Below w.heap.size w w' :=
  h.mono fun _ _ ⟨he, hw⟩ => ⟨he, by rw [← hw]; exact Below.refl _ _⟩
/-- A block of three cells, in the worlds of a region that draws. -/
theorem three_new (w : World) (t : TypeId) (a b c : Value) : ∀ W0, W0 = w.alloc (.cells #[a, b, c] t) → Below w.heap.size w W0 ∧ Blk W0 w.heap.size t #[a, b, c] ∧ (∀ d os, (grow (redrawn W0 d) os).cell? ⟨w.heap.size, 0, none⟩ = some a) ∧ (∀ d os, (grow (redrawn W0 d) os).cell? ⟨w.heap.size, 1, none⟩ = some b) ∧ (∀ d os, (grow (redrawn W0 d) os).cell? ⟨w.heap.size, 2, none⟩ = some c) := by
  rintro W0 rfl
  have hB := Blk.new w t #[a, b, c]
  exact ⟨(Below.refl _ _).alloc (Nat.le_refl _) _, hB, cell_regrown (by rw [hB.cell]; rfl), cell_regrown (by rw [hB.cell]; rfl), cell_regrown (by rw [hB.cell]; rfl)⟩

theorem specPt_any (x y : Int) (w : World) : Calls Tryd.prog 59 #[.agg #[.int .i64 x, .int .i64 y]] w fun e w' => e = .returned (.bool (ptB x y)) ∧ Below w.heap.size w w' := by
  have I1 := Lib.hid (specIn_any x (-1000) 1000)
  have I2 := Lib.hid (specIn_any y (-1000) 1000)
  have HX := Lib.hid (show ptB x y = (inB x (-1000) 1000 && inB y (-1000) 1000) from rfl)
  generalize ptB x y = r at HX ⊢
  generalize inB x (-1000) 1000 = q1 at I1 HX
  generalize inB y (-1000) 1000 = q2 at I2 HX
  cases q1
  all_goals
    go_enter Tryd.func59, Tryd.ntmps59
    go_wp2_with fail
    refine (I1.out _).mono ?_; rintro e w' ⟨rfl, rfl⟩
    go_wp2_with fail
  · go_ret
    exact ⟨ret_bool (by rw [HX.out]; rfl), by (repeat (first | exact Below.refl _ _ | assumption | refine Below.drew ?_ | refine below_drewN' ?_ _ | refine Below.alloc ?_ (by (try simp); (try omega)) _ | refine Below.setCell ?_ (by (try simp); (try omega)) _))⟩
  · refine (I2.out _).mono ?_; rintro e w' ⟨rfl, rfl⟩
    go_wp2_with fail
    go_ret
    exact ⟨ret_bool (by rw [HX.out]; simp), by (repeat (first | exact Below.refl _ _ | assumption | refine Below.drew ?_ | refine below_drewN' ?_ _ | refine Below.alloc ?_ (by (try simp); (try omega)) _ | refine Below.setCell ?_ (by (try simp); (try omega)) _))⟩
set_option maxRecDepth 100000 in
set_option maxHeartbeats 4000000 in
theorem specAreS_any (xs : List Sit) (A : Option Addr) (c : Nat) (w : World) (hr : Reads w w.heap.size 3 A xs.length (siC xs)) (hm : xs.length ≤ 9223372036854775807) (hn : ∀ b ∈ xs, b.name.size ≤ 9223372036854775807) :
    Calls Tryd.prog 86 #[.slice A xs.length c] w fun e w' => e = .returned (.bool (areS xs)) ∧ Below w.heap.size w w' := by
  have HR := Lib.hid hr; clear hr
  have HN := Lib.hid hn; clear hn
  go_enter Tryd.func86, Tryd.ntmps86
  go_wp2_with fail
  go_loopw [3] (fun v3 wr => ∃ k : Nat, k ≤ xs.length ∧ Hid (areSTo xs k = true) ∧ Hid (Below w.heap.size w wr) ∧ v3 = .int .i64 k) (fun i _ => xs.length - (intOf i).toNat)
  case atStart => exact ⟨0, by omega, rfl, Below.refl _ _, rfl⟩
  case round =>
    obtain ⟨k, hk, HT, BW, rfl⟩ := hrel
    by_cases hlt : k < xs.length
    · obtain ⟨ab, ao, rfl, hadb, hcell⟩ := (HR.out.below BW.out).2 (by omega)
      obtain ⟨e0, e1, e2⟩ := siC_get xs k hlt
      have c0 := hcell _ _ e0
      have c1 := hcell _ _ e1
      have c2 := hcell _ _ e2
      rw [← Nat.add_assoc] at c1 c2
      have HC := Lib.hid hcell
      clear hcell e0 e1 e2
      have hsz := HN.out xs[k] (List.getElem_mem hlt)
      have HG := Lib.hid (show goodS xs k = (sitB xs[k] && ordS xs k xs[k]) by rw [goodS, List.getElem?_eq_getElem hlt])
      generalize xs[k] = b at c0 c1 c2 hsz HG
      go_upto_region 4 with (fail)
      have k0 := cell_regrown c0
      have k1 := cell_regrown c1
      have k2 := cell_regrown c2
      clear c0 c1 c2
      have r1 : ∀ d os, Calls Tryd.prog 46 #[.string b.name] (grow (redrawn wr d) os) (fun e w'' => e = .returned (.bool (codeW b.name)) ∧ ∃ p : Regrown, w'' = grow (redrawn wr p.d) p.os) := fun d os => Calls.regrown_of (specCodeW_any b.name hsz _)
      have r2 : ∀ d os, Calls Tryd.prog 59 #[.agg #[.int .i64 b.x, .int .i64 b.y]] (grow (redrawn wr d) os) (fun e w'' => e = .returned (.bool (ptB b.x b.y)) ∧ ∃ p : Regrown, w'' = grow (redrawn wr p.d) p.os) := fun d os => Calls.regrown_of (specPt_any _ _ _)
      cases q1 : codeW b.name
      · have HF := Lib.hid (areS_bad hlt (HG.out.trans (by rw [sitB, q1]; rfl)))
        rw [q1] at r1
        clear q1 r2
        refine wp_region_quiet_below (by kernel_rfl) (by kernel_rfl) ?_; (repeat (first | go_big_quiet_step ((first | with_reducible exact r1 _ _)))); refine wpQuiet_nil ?_; intro _ hw'; obtain ⟨⟨dq, osq⟩, rfl⟩ := hw'
        go_wp2_with fail
        go_ret
        exact ⟨ret_bool HF.out.symm, BW.out.trans ((below_regrown wr dq osq).mono BW.out.size)⟩
      · cases q2 : ptB b.x b.y
        · have HF := Lib.hid (areS_bad hlt (HG.out.trans (by rw [sitB, q1, q2]; rfl)))
          rw [q1] at r1
          rw [q2] at r2
          clear q1 q2
          refine wp_region_quiet_below (by kernel_rfl) (by kernel_rfl) ?_; (repeat (first | go_big_quiet_step ((first | with_reducible exact r1 _ _ | with_reducible exact r2 _ _)))); refine wpQuiet_nil ?_; intro _ hw'; obtain ⟨⟨dq, osq⟩, rfl⟩ := hw'
          go_wp2_with fail
          go_ret
          exact ⟨ret_bool HF.out.symm, BW.out.trans ((below_regrown wr dq osq).mono BW.out.size)⟩
        · have HBal := Lib.hid (show sitB b = true by rw [sitB, q1, q2]; rfl)
          rw [q1] at r1
          rw [q2] at r2
          clear q1 q2
          by_cases hk0 : k = 0
          · subst hk0
            simp only [Nat.zero_mul, Nat.add_zero] at k0 k1 k2
            have HT1 := Lib.hid (show areSTo xs (0 + 1) = true by rw [areSTo, HG.out, HBal.out]; rfl)
            refine wp_region_quiet_below (by kernel_rfl) (by kernel_rfl) ?_; (repeat (first | go_big_quiet_step ((first | with_reducible exact r1 _ _ | with_reducible exact r2 _ _)))); refine wpQuiet_nil ?_; intro _ hw'; obtain ⟨⟨dq, osq⟩, rfl⟩ := hw'
            go_wp2_with fail
            go_roundw
            case rel => exact ⟨0 + 1, by omega, HT1, BW.out.trans ((below_regrown wr dq osq).mono BW.out.size), by go_num⟩
            case measure => simp [intOf]; omega
          · obtain ⟨j, rfl⟩ : ∃ j, k = j + 1 := ⟨k - 1, by omega⟩
            have hj : j < xs.length := by omega
            obtain ⟨p, hp⟩ : ∃ p, xs[j] = p := ⟨_, rfl⟩
            have cp := cell_regrown (HC.out _ _ (siC_get xs j hj).1)
            rw [hp] at cp
            have HO := Lib.hid (show ordS xs (j + 1) b = strLt p.name b.name by rw [ordS, List.getElem?_eq_getElem hj, hp])
            clear hp
            have z1 : (0 : Int) < (j : Int) + 1 := by omega
            have z2 : IntKind.i64.wrap ((j : Int) + 1 - 1) = (j : Int) := (IntWalk.i64_in _ (by omega)).trans (by omega)
            have z3 : IntKind.i64.wrap (j : Int) = (j : Int) := IntWalk.i64_in _ (by omega)
            have z4 : (0 : Int) ≤ (j : Int) := by omega
            have z5 : (j : Int) < (xs.length : Int) := by omega
            cases q4 : Op.bytesLess p.name.toList b.name.toList
            · have HF := Lib.hid (areS_bad hlt (HG.out.trans (by rw [HO.out, strLt, q4, Bool.and_false])))
              refine wp_region_quiet_below (by kernel_rfl) (by kernel_rfl) ?_; (repeat (first | go_big_quiet_step ((first | with_reducible exact r1 _ _ | with_reducible exact r2 _ _)))); refine wpQuiet_nil ?_; intro _ hw'; obtain ⟨⟨dq, osq⟩, rfl⟩ := hw'
              go_wp2_with fail
              go_ret
              exact ⟨ret_bool HF.out.symm, BW.out.trans ((below_regrown wr dq osq).mono BW.out.size)⟩
            · have HT1 := Lib.hid (show areSTo xs (j + 1 + 1) = true by rw [areSTo, HT.out, HG.out, HBal.out, HO.out, strLt, q4]; rfl)
              refine wp_region_quiet_below (by kernel_rfl) (by kernel_rfl) ?_; (repeat (first | go_big_quiet_step ((first | with_reducible exact r1 _ _ | with_reducible exact r2 _ _)))); refine wpQuiet_nil ?_; intro _ hw'; obtain ⟨⟨dq, osq⟩, rfl⟩ := hw'
              go_wp2_with fail
              go_roundw
              case rel => exact ⟨j + 1 + 1, by omega, HT1, BW.out.trans ((below_regrown wr dq osq).mono BW.out.size), by go_num⟩
              case measure => simp [intOf]; omega
    · obtain rfl : k = xs.length := by omega
      have HE := Lib.hid (show areS xs = decide ((xs.length : Int) ≤ 10) by rw [areS, HT.out, Bool.true_and])
      go_wp2_with fail
      go_ret
      exact ⟨ret_bool HE.out.symm, BW.out⟩
end Go.Proofs.YtnbpbidflacoiaaDoor
