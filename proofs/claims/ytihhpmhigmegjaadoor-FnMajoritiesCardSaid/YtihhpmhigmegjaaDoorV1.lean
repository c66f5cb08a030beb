/- AreBallots, of the reference and of the program. -/
import Derived.Test.YtihhpmhigmegjaaDoorRows
import Derived.Test.YtihhpmhigmegjaaDoorL0
import Derived.Test.YtihhpmhigmegjaaDoorM0
import Derived.WalkKit
import Derived.ProofKit
import Derived.OpenShut
import Derived.BigQuiet
import Derived.Outline
import Derived.WalkSpells
import Derived.WalkLawsBesides
import Derived.Deep.DeepCutAuto
import Derived.Test.YtihhpmhigmegjaaDoorV0
import Derived.Test.YtihhpmhigmegjaaDoorW2
import Derived.Lib.QuietBelow
import Derived.Deep.QuietTactic
import Derived.IntWalk
namespace Go.Proofs.YtihhpmhigmegjaaDoor
open Go.ChangeShapes Go.WideShapes Go.ChangeAt Go.RowKit Go.Sort

def balB (b : Bal) : Bool := wordB b.name && (inB b.choice (-1) 1 && inB b.weight 1 100)
def ordB (xs : List Bal) (k : Nat) (b : Bal) : Bool := match k with
  | 0 => true
  | j + 1 => match xs[j]? with
    | some p => strLt p.name b.name
    | none => true
def goodAt (xs : List Bal) (k : Nat) : Bool := match xs[k]? with
  | some b => balB b && ordB xs k b
  | none => true
def areTo (xs : List Bal) : Nat → Bool
  | 0 => true
  | k + 1 => areTo xs k && goodAt xs k
def areB (xs : List Bal) : Bool := areTo xs xs.length && decide ((xs.length : Int) ≤ 10)
theorem areTo_le {xs : List Bal} {k : Nat} : ∀ {n : Nat}, k ≤ n → areTo xs n = true → areTo xs k = true
  | 0, h, _ => by obtain rfl : k = 0 := by omega
                  rfl
  | n + 1, h, ht => by
    rw [areTo, Bool.and_eq_true] at ht
    by_cases hk : k = n + 1
    · subst hk; rw [areTo, ht.1, ht.2]; rfl
    · exact areTo_le (by omega) ht.1
theorem are_bad {xs : List Bal} {k : Nat} (hk : k < xs.length) (h : goodAt xs k = false) : areB xs = false := by
  cases ha : areTo xs xs.length
  · rw [areB, ha, Bool.false_and]
  · have := areTo_le (k := k + 1) hk ha
    rw [areTo, h, Bool.and_false] at this
    cases this
theorem same_below {P : Program} {f : FuncId} {args : Array Value} {w : World} {v : Value} (h : Calls P f args w fun e w' => e = .returned v ∧ w = w') : Calls P f args w fun e w' => e = .returned v ∧ Below w.heap.size w w' :=
  h.mono fun _ _ ⟨he, hw⟩ => ⟨he, by rw [← hw]; exact Below.refl _ _⟩
/-- A block of three cells, in the worlds of a region that draws. -/
theorem three_new (w : World) (t : TypeId) (a b c : Value) : ∀ W0, W0 = w.alloc (.cells #[a, b, c] t) → Below w.heap.size w W0 ∧ Blk W0 w.heap.size t #[a, b, c] ∧ (∀ d os, (grow (redrawn W0 d) os).cell? ⟨w.heap.size, 0, none⟩ = some a) ∧ (∀ d os, (grow (redrawn W0 d) os).cell? ⟨w.heap.size, 1, none⟩ = some b) ∧ (∀ d os, (grow (redrawn W0 d) os).cell? ⟨w.heap.size, 2, none⟩ = some c) := by
  rintro W0 rfl
  have hB := Blk.new w t #[a, b, c]
  exact ⟨(Below.refl _ _).alloc (Nat.le_refl _) _, hB, cell_regrown (by rw [hB.cell]; rfl), cell_regrown (by rw [hB.cell]; rfl), cell_regrown (by rw [hB.cell]; rfl)⟩

set_option maxRecDepth 100000 in
set_option maxHeartbeats 4000000 in
theorem specAre_any (xs : List Bal) (A : Option Addr) (c : Nat) (w : World) (hr : Reads w w.heap.size 3 A xs.length (baC xs)) (hm : xs.length ≤ 9223372036854775807) (hn : ∀ b ∈ xs, b.name.size ≤ 9223372036854775807) :
    Calls Tryd.prog 36 #[.slice A xs.length c] w fun e w' => e = .returned (.bool (areB xs)) ∧ Below w.heap.size w w' := by
  have HR := Lib.hid hr; clear hr
  have HN := Lib.hid hn; clear hn
  go_enter Tryd.func36, Tryd.ntmps36
  go_wp2_with fail
  go_loopw [3] (fun v3 wr => ∃ k : Nat, k ≤ xs.length ∧ Hid (areTo xs k = true) ∧ Hid (Below w.heap.size w wr) ∧ v3 = .int .i64 k) (fun i _ => xs.length - (intOf i).toNat)
  case atStart => exact ⟨0, by omega, rfl, Below.refl _ _, rfl⟩
  case round =>
    obtain ⟨k, hk, HT, BW, rfl⟩ := hrel
    by_cases hlt : k < xs.length
    · obtain ⟨ab, ao, rfl, hadb, hcell⟩ := (HR.out.below BW.out).2 (by omega)
      obtain ⟨e0, e1, e2⟩ := baC_get xs k hlt
      have c0 := hcell _ _ e0
      have c1 := hcell _ _ e1
      have c2 := hcell _ _ e2
      rw [← Nat.add_assoc] at c1 c2
      have HC := Lib.hid hcell
      clear hcell e0 e1 e2
      have hsz := HN.out xs[k] (List.getElem_mem hlt)
      have HG := Lib.hid (show goodAt xs k = (balB xs[k] && ordB xs k xs[k]) by rw [goodAt, List.getElem?_eq_getElem hlt])
      generalize xs[k] = b at c0 c1 c2 hsz HG
      have T3 := Lib.hid (three_new wr 32 (.string b.name) (.int .i64 b.choice) (.int .i64 b.weight))
      go_upto_region 5 with (fail)
      generalize hW : wr.alloc (.cells #[.string b.name, .int .i64 b.choice, .int .i64 b.weight] 32) = W0
      obtain ⟨hb, _, k0, k1, k2⟩ := T3.out W0 hW.symm
      clear hW c0 c1 c2
      have HB := Lib.hid hb; clear hb
      have r1 : ∀ d os, Calls Tryd.prog 58 #[.string b.name] (grow (redrawn W0 d) os) (fun e w'' => e = .returned (.bool (wordB b.name)) ∧ ∃ p : Regrown, w'' = grow (redrawn W0 p.d) p.os) := fun d os => Calls.regrown_of (same_below (specWord_any b.name _ hsz))
      have r2 : ∀ d os, Calls Tryd.prog 46 #[.int .i64 b.choice, .int .i64 (-1), .int .i64 1] (grow (redrawn W0 d) os) (fun e w'' => e = .returned (.bool (inB b.choice (-1) 1)) ∧ ∃ p : Regrown, w'' = grow (redrawn W0 p.d) p.os) := fun d os => Calls.regrown_of (same_below (specIn_any _ _ _ _))
      have r3 : ∀ d os, Calls Tryd.prog 46 #[.int .i64 b.weight, .int .i64 1, .int .i64 100] (grow (redrawn W0 d) os) (fun e w'' => e = .returned (.bool (inB b.weight 1 100)) ∧ ∃ p : Regrown, w'' = grow (redrawn W0 p.d) p.os) := fun d os => Calls.regrown_of (same_below (specIn_any _ _ _ _))
      cases q1 : wordB b.name
      · have HF := Lib.hid (are_bad hlt (HG.out.trans (by rw [balB, q1]; rfl)))
        rw [q1] at r1
        clear q1 r2 r3
        refine wp_region_quiet_below (by kernel_rfl) (by kernel_rfl) ?_; (repeat (first | go_big_quiet_step ((first | with_reducible exact r1 _ _)))); refine wpQuiet_nil ?_; intro _ hw'; obtain ⟨⟨dq, osq⟩, rfl⟩ := hw'
        go_wp2_with fail
        go_ret
        exact ⟨ret_bool HF.out.symm, BW.out.trans ((HB.out.trans ((below_regrown W0 dq osq).mono HB.out.size)).mono BW.out.size)⟩
      · cases q2 : inB b.choice (-1) 1
        · have HF := Lib.hid (are_bad hlt (HG.out.trans (by rw [balB, q1, q2]; rfl)))
          rw [q1] at r1
          rw [q2] at r2
          clear q1 q2 r3
          refine wp_region_quiet_below (by kernel_rfl) (by kernel_rfl) ?_; (repeat (first | go_big_quiet_step ((first | with_reducible exact r1 _ _ | with_reducible exact r2 _ _)))); refine wpQuiet_nil ?_; intro _ hw'; obtain ⟨⟨dq, osq⟩, rfl⟩ := hw'
          go_wp2_with fail
          go_ret
          exact ⟨ret_bool HF.out.symm, BW.out.trans ((HB.out.trans ((below_regrown W0 dq osq).mono HB.out.size)).mono BW.out.size)⟩
        · cases q3 : inB b.weight 1 100
          · have HF := Lib.hid (are_bad hlt (HG.out.trans (by rw [balB, q1, q2, q3]; rfl)))
            rw [q1] at r1
            rw [q2] at r2
            rw [q3] at r3
            clear q1 q2 q3
            refine wp_region_quiet_below (by kernel_rfl) (by kernel_rfl) ?_; (repeat (first | go_big_quiet_step ((first | with_reducible exact r1 _ _ | with_reducible exact r2 _ _ | with_reducible exact r3 _ _)))); refine wpQuiet_nil ?_; intro _ hw'; obtain ⟨⟨dq, osq⟩, rfl⟩ := hw'
            go_wp2_with fail
            go_ret
            exact ⟨ret_bool HF.out.symm, BW.out.trans ((HB.out.trans ((below_regrown W0 dq osq).mono HB.out.size)).mono BW.out.size)⟩
          · have HBal := Lib.hid (show balB b = true by rw [balB, q1, q2, q3]; rfl)
            rw [q1] at r1
            rw [q2] at r2
            rw [q3] at r3
            clear q1 q2 q3
            by_cases hk0 : k = 0
            · subst hk0
              have HT1 := Lib.hid (show areTo xs (0 + 1) = true by rw [areTo, HG.out, HBal.out]; rfl)
              refine wp_region_quiet_below (by kernel_rfl) (by kernel_rfl) ?_; (repeat (first | go_big_quiet_step ((first | with_reducible exact r1 _ _ | with_reducible exact r2 _ _ | with_reducible exact r3 _ _)))); refine wpQuiet_nil ?_; intro _ hw'; obtain ⟨⟨dq, osq⟩, rfl⟩ := hw'
              go_wp2_with fail
              go_roundw
              case rel => exact ⟨0 + 1, by omega, HT1, BW.out.trans ((HB.out.trans ((below_regrown W0 dq osq).mono HB.out.size)).mono BW.out.size), by go_num⟩
              case measure => simp [intOf]; omega
            · obtain ⟨j, rfl⟩ : ∃ j, k = j + 1 := ⟨k - 1, by omega⟩
              have hj : j < xs.length := by omega
              obtain ⟨p, hp⟩ : ∃ p, xs[j] = p := ⟨_, rfl⟩
              have cp := cell_regrown ((HC.out _ _ (baC_get xs j hj).1 |> fun h => (Below.cell HB.out (p := ⟨ab, ao + j * 3, none⟩) (Nat.lt_of_lt_of_le hadb BW.out.size)).trans h))
              rw [hp] at cp
              have HO := Lib.hid (show ordB xs (j + 1) b = strLt p.name b.name by rw [ordB, List.getElem?_eq_getElem hj, hp])
              clear hp
              have z1 : (0 : Int) < (j : Int) + 1 := by omega
              have z2 : IntKind.i64.wrap ((j : Int) + 1 - 1) = (j : Int) := (IntWalk.i64_in _ (by omega)).trans (by omega)
              have z3 : IntKind.i64.wrap (j : Int) = (j : Int) := IntWalk.i64_in _ (by omega)
              have z4 : (0 : Int) ≤ (j : Int) := by omega
              have z5 : (j : Int) < (xs.length : Int) := by omega
              cases q4 : Op.bytesLess p.name.toList b.name.toList
              · have HF := Lib.hid (are_bad hlt (HG.out.trans (by rw [HO.out, strLt, q4, Bool.and_false])))
                refine wp_region_quiet_below (by kernel_rfl) (by kernel_rfl) ?_; (repeat (first | go_big_quiet_step ((first | with_reducible exact r1 _ _ | with_reducible exact r2 _ _ | with_reducible exact r3 _ _)))); refine wpQuiet_nil ?_; intro _ hw'; obtain ⟨⟨dq, osq⟩, rfl⟩ := hw'
                go_wp2_with fail
                go_ret
                exact ⟨ret_bool HF.out.symm, BW.out.trans ((HB.out.trans ((below_regrown W0 dq osq).mono HB.out.size)).mono BW.out.size)⟩
              · have HT1 := Lib.hid (show areTo xs (j + 1 + 1) = true by rw [areTo, HT.out, HG.out, HBal.out, HO.out, strLt, q4]; rfl)
                refine wp_region_quiet_below (by kernel_rfl) (by kernel_rfl) ?_; (repeat (first | go_big_quiet_step ((first | with_reducible exact r1 _ _ | with_reducible exact r2 _ _ | with_reducible exact r3 _ _)))); refine wpQuiet_nil ?_; intro _ hw'; obtain ⟨⟨dq, osq⟩, rfl⟩ := hw'
                go_wp2_with fail
                go_roundw
                case rel => exact ⟨j + 1 + 1, by omega, HT1, BW.out.trans ((HB.out.trans ((below_regrown W0 dq osq).mono HB.out.size)).mono BW.out.size), by go_num⟩
                case measure => simp [intOf]; omega
    · obtain rfl : k = xs.length := by omega
      have HE := Lib.hid (show areB xs = decide ((xs.length : Int) ≤ 10) by rw [areB, HT.out, Bool.true_and])
      go_wp2_with fail
      go_ret
      exact ⟨ret_bool HE.out.symm, BW.out⟩
end Go.Proofs.YtihhpmhigmegjaaDoor
