/- The law's helpers that mark a slice of steps and look whether the marks are held. -/
import Derived.Test.YteeonojcihcfiaaDoorRows
import Derived.Test.YteeonojcihcfiaaDoorK9GA
import Derived.WalkKit
import Derived.ProofKit
import Derived.OpenShut
import Derived.BigQuiet
import Derived.Outline
import Derived.WalkSpells
import Derived.WalkLawsBesides
import Derived.Deep.DeepCutAuto
import Derived.Test.YteeonojcihcfiaaDoorK9A3
import Derived.Lib.Hide
namespace Go.Proofs.YteeonojcihcfiaaDoor
open Go.ChangeShapes Go.WideShapes Go.ChangeAt Go.RowKit

/-- n marks, the numbers from k0 on. -/
def marks (k0 : Int) : Nat → List Stp
  | 0 => []
  | n + 1 => marks k0 n ++ [(k0 + 2 * n, k0 + 2 * n + 1)]
theorem marks_len (k0 : Int) (n : Nat) : (marks k0 n).length = n := by
  induction n with
  | zero => rfl
  | succ n ih => simp [marks, ih]
theorem marks_get (k0 : Int) (n : Nat) : ∀ k (h : k < (marks k0 n).length), (marks k0 n)[k] = (k0 + 2 * k, k0 + 2 * k + 1) := by
  induction n with
  | zero => intro k h; simp [marks] at h
  | succ n ih =>
    intro k h
    simp only [marks]
    by_cases hk : k < (marks k0 n).length
    · rw [List.getElem_append_left hk]; exact ih k hk
    · have : k = n := by rw [marks_len] at h hk; omega
      subst this
      rw [List.getElem_append_right (by rw [marks_len]; omega)]
      simp
theorem stC_app (xs ys : List Stp) : stC (xs ++ ys) = stC xs ++ stC ys := by simp [stC]
theorem stC_set (ys zs : List Stp) (x : Stp) (a b : Int) : ((stC (ys ++ x :: zs)).set (ys.length * 2) (.int .i64 a)).set (ys.length * 2 + 1) (.int .i64 b) = stC (ys ++ (a, b) :: zs) := by
  rw [stC_app, stC_app, ← stC_len ys]
  rw [List.set_append_right _ _ (Nat.le_refl _), Nat.sub_self, List.set_append_right _ _ (by omega), Nat.add_sub_cancel_left]
  simp [stC]

set_option maxRecDepth 100000 in
theorem markStepS_any (xs : List Stp) (base : Nat) (A : Option Addr) (n c : Nat) (k0 : Int) (w : World) (hown : w.ownsRow base 41 2 (.slice A n c) n (stC xs)) (hl : xs.length = n) (hn : n ≤ 2097152) (h0 : 0 ≤ k0) (h1 : k0 ≤ 1099511627776) :
    Calls Tryd.prog 13 #[.slice A n c, .int .i64 k0] w fun e w' => e = .returned (.int .i64 (k0 + 2 * n)) ∧ w'.ownsRow base 41 2 (.slice A n c) n (stC (marks k0 n)) ∧ w.grownBy w' (Value.ownBlock (.slice A n c)) := by
  rcases Nat.eq_zero_or_pos n with hz | hp
  · subst hz
    have hx : xs = [] := List.eq_nil_of_length_eq_zero hl
    subst hx
    have HO := Lib.hid hown; clear hown hl
    go_enter Tryd.func13, Tryd.ntmps13
    go_wp2_with fail
    refine wp_loop_rounds 1 ?_; rw [rounds_succ]
    go_wp2_with fail
    go_ret
    exact ⟨ret_int (by simp), HO.out, World.grownBy.refl w _⟩
  · obtain ⟨g, cap, hv, hbg, hgl⟩ := hown.form hp
    simp only [Value.slice.injEq, true_and] at hv
    obtain ⟨rfl, rfl⟩ := hv
    have HO := Lib.hid hown; clear hown
    have HL := Lib.hid hl; clear hl
    go_enter Tryd.func13, Tryd.ntmps13
    go_wp2_with fail
    go_loopw [1, 5] (fun v1 v5 wr => ∃ k : Nat, k ≤ n ∧ Hid (wr.ownsRow base 41 2 (.slice (some ⟨g, 0, none⟩) n c) n (stC (marks k0 k ++ xs.drop k))) ∧ w.grownBy wr (some g) ∧ v1 = .int .i64 (k0 + 2 * k) ∧ v5 = .int .i64 k) (fun _ i _ => n - (intOf i).toNat)
    case atStart => exact ⟨0, Nat.zero_le _, by simpa [marks] using HO, World.grownBy.refl w _, by simp, rfl⟩
    case round =>
      obtain ⟨k, hk, HW, hg, rfl, rfl⟩ := hrel
      by_cases hlt : k < n
      · have hlx : k < xs.length := by rw [HL.out]; exact hlt
        have hd : xs.drop k = xs[k] :: xs.drop (k + 1) := List.drop_eq_getElem_cons hlx
        have hlen : (stC (marks k0 k ++ xs.drop k)).length = n * 2 := HW.out.1
        have q0 := HW.out.cellAt (k * 2) (by omega)
        have q1 := HW.out.cellAt (k * 2 + 1) (by omega)
        rw [List.getElem?_eq_getElem (by omega)] at q0 q1
        have f0 := HW.out.frozenAt (k * 2)
        have f1 := HW.out.frozenAt (k * 2 + 1)
        generalize (stC (marks k0 k ++ xs.drop k))[k * 2]'(by omega) = u0 at q0
        generalize (stC (marks k0 k ++ xs.drop k))[k * 2 + 1]'(by omega) = u1 at q1
        have s1 := HW.out.stored (k * 2) (.int .i64 (k0 + 2 * k))
        have s2 := s1.1.stored (k * 2 + 1) (.int .i64 (k0 + 2 * k + 1))
        have e := stC_set (marks k0 k) (xs.drop (k + 1)) xs[k] (k0 + 2 * k) (k0 + 2 * k + 1)
        rw [marks_len, ← hd] at e
        rw [e] at s2
        have HS1 := Lib.hid (hg.trans s1.2); have HS2 := Lib.hid s2
        clear s1 s2 e hd hlen hg
        go_wp2_with fail
        go_roundw
        case rel => exact ⟨k + 1, by omega, by simpa [marks, Hid] using HS2.out.1, HS1.out.trans HS2.out.2, by congr 1; omega, by go_num⟩
        case measure => simp [intOf]; omega
      · obtain rfl : k = n := by omega
        have HX := Lib.hid (show xs.drop k = [] from List.drop_eq_nil_of_le (by rw [HL.out]; omega))
        go_wp2_with fail
        go_ret
        exact ⟨rfl, by have := HW.out; rwa [HX.out, List.append_nil] at this, hg⟩

set_option maxRecDepth 100000 in
theorem heldStepS_any (B : Nat) (A : Option Addr) (n c : Nat) (k0 : Int) (w : World) (hr : Reads w B 2 A n (stC (marks k0 n))) (hn : n ≤ 2097152) (h0 : 0 ≤ k0) (h1 : k0 ≤ 1099511627776) :
    Calls Tryd.prog 14 #[.slice A n c, .int .i64 k0] w fun e w' => e = .returned (.int .i64 (k0 + 2 * n)) ∧ w = w' := by
  have HR := Lib.hid hr; clear hr
  go_enter Tryd.func14, Tryd.ntmps14
  go_wp2_with fail
  go_loopw [1, 5] (fun v1 v5 wr => ∃ k : Nat, k ≤ n ∧ w = wr ∧ v1 = .int .i64 (k0 + 2 * k) ∧ v5 = .int .i64 k) (fun _ i _ => n - (intOf i).toNat)
  case atStart => exact ⟨0, Nat.zero_le _, rfl, by simp, rfl⟩
  case round =>
    obtain ⟨k, hk, rfl, rfl, rfl⟩ := hrel
    by_cases hlt : k < n
    · obtain ⟨ab, ao, rfl, hadb, hcell⟩ := HR.out.2 (by omega)
      have hkl : k < (marks k0 n).length := by rw [marks_len]; exact hlt
      obtain ⟨e0, e1⟩ := stC_get (marks k0 n) k hkl
      rw [marks_get k0 n k hkl] at e0 e1
      have c0 := hcell _ _ e0
      have c1 := hcell _ _ e1
      rw [← Nat.add_assoc] at c1
      clear hcell e0 e1
      go_wp2_with fail
      go_roundw
      case rel => exact ⟨k + 1, by omega, by first | trivial | rfl, by congr 1; omega, by go_num⟩
      case measure => simp [intOf]; omega
    · obtain rfl : k = n := by omega
      go_wp2_with fail
      go_ret
      exact ⟨rfl, rfl⟩
end Go.Proofs.YteeonojcihcfiaaDoor
