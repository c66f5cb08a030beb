/- Marks written into rows of sites and descriptions and into masks. Drawn regions in which one new box gets a mask whose cells lie in a row of its own: what their operations leave. -/
import Derived.Test.YtaaioengebaebaaGreatDoorRows
import Derived.Test.YtaaioengebaebaaGreatDoorK8GA
import Derived.WalkKit
import Derived.ProofKit
import Derived.OpenShut
import Derived.BigQuiet
import Derived.Outline
import Derived.WalkSpells
import Derived.WalkLawsBesides
import Derived.Deep.DeepCutAuto
import Derived.Test.YtaaioengebaebaaGreatDoorK8GD
import Derived.Test.YtaaioengebaebaaGreatDoorK8FD0
import Derived.Test.YtaaioengebaebaaGreatDoorK8RM3
import Derived.Test.YtaaioengebaebaaGreatDoorK8GB
import Derived.Test.YtaaioengebaebaaGreatDoorK8GL
namespace Go.Proofs.YtaaioengebaebaaGreatDoor
open Go.ChangeShapes Go.WideShapes Go.ChangeAt Go.RowKit

set_option maxRecDepth 100000 in
set_option maxHeartbeats 2000000 in
theorem markSit_any (cs : List Value) (base : Nat) (A : Option Addr) (n c k0 : Nat) (w : World) (hown : w.ownsRow base 77 3 (.slice A n c) n cs) (hn : n ≤ 1048576) (h0 : 1 ≤ k0) (h1 : k0 ≤ 33554432) :
    Calls Tryz.prog 26 #[.slice A n c, .int .i64 k0] w fun e w' => e = .returned (.int .i64 ((k0 + 3 * n : Nat) : Int)) ∧ w.grownBy w' (Value.ownBlock (.slice A n c)) := by
  rcases Nat.eq_zero_or_pos n with hz | hp
  · subst hz
    go_enter Tryz.func26, Tryz.ntmps26
    go_wp2_with fail
    refine wp_loop_rounds 1 ?_; rw [rounds_succ]
    go_wp2_with fail
    go_ret
    exact ⟨ret_int (by simp), World.grownBy.refl w _⟩
  · obtain ⟨g, cap, hv, hbg, hgl⟩ := hown.form hp
    simp only [Value.slice.injEq, true_and] at hv
    obtain ⟨rfl, rfl⟩ := hv
    have HO := Lib.hid hown; clear hown
    go_enter Tryz.func26, Tryz.ntmps26
    go_wp2_with fail
    go_loopw [1, 5] (fun v1 v5 wr => ∃ (k K : Nat) (cs' : List Value), k ≤ n ∧ 1 ≤ K ∧ K ≤ 37748736 ∧ Hid (K = k0 + 3 * k) ∧ Hid (wr.ownsRow base 77 3 (.slice (some ⟨g, 0, none⟩) n c) n cs') ∧ Hid (w.grownBy wr (some g)) ∧ v1 = .int .i64 K ∧ v5 = .int .i64 k) (fun _ i _ => n - (intOf i).toNat)
    case atStart => exact ⟨0, k0, cs, Nat.zero_le _, by omega, by omega, rfl, HO.out, World.grownBy.refl w _, rfl, rfl⟩
    case round =>
      obtain ⟨k, K, cs', hk, hK1, hK2, HK, HW0, HG0, rfl, rfl⟩ := hrel
      by_cases hlt : k < n
      · have hKn : K ≤ 33554432 + 3 * k := by have := HK.out; omega
        have MT1 := Lib.hid (fun W => markText_any K (by omega) (by omega) W)
        go_wp2_with fail
        refine (MT1.out _).mono ?_; rintro e w1 ⟨rfl, b1⟩
        have HW1 := Lib.hid (own_below HW0.out b1)
        have HG1 := Lib.hid ((HG0.out).trans (grown_of_below b1 (some g)))
        clear b1
        have q0 := HW1.out.cellAt (k * 3) (by have := HW1.out.1; omega)
        rw [List.getElem?_eq_getElem (by have := HW1.out.1; omega)] at q0
        have f0 := HW1.out.frozenAt (k * 3)
        have q1 := HW1.out.cellAt (k * 3 + 1) (by have := HW1.out.1; omega)
        rw [List.getElem?_eq_getElem (by have := HW1.out.1; omega)] at q1
        have f1 := HW1.out.frozenAt (k * 3 + 1)
        have q2 := HW1.out.cellAt (k * 3 + 2) (by have := HW1.out.1; omega)
        rw [List.getElem?_eq_getElem (by have := HW1.out.1; omega)] at q2
        have f2 := HW1.out.frozenAt (k * 3 + 2)
        have s0 := HW1.out.stored (k * 3) (.string (mT K))
        have s1 := s0.1.stored (k * 3 + 1) (.int .i64 ((K : Int) + 1))
        have s2 := s1.1.stored (k * 3 + 2) (.int .i64 ((K : Int) + 1 + 1))
        have HS1 := Lib.hid s2.1; have HT1 := Lib.hid ((((HG1.out).trans s0.2).trans s1.2).trans s2.2)
        clear s0 s1 s2
        go_wp2_with fail
        go_roundw
        case rel => exact ⟨k + 1, K + 3, _, by omega, by omega, by omega, by have := HK.out; simp [Hid]; omega, HS1.out, HT1.out, by go_num, by go_num⟩
        case measure => simp [intOf]; omega
      · obtain rfl : k = n := by omega
        go_wp2_with fail
        go_ret
        exact ⟨ret_int (by rw [HK.out]), HG0.out⟩
set_option maxRecDepth 100000 in
set_option maxHeartbeats 2000000 in
theorem markDsc_any (cs : List Value) (base : Nat) (A : Option Addr) (n c k0 : Nat) (w : World) (hown : w.ownsRow base 79 6 (.slice A n c) n cs) (hn : n ≤ 1048576) (h0 : 1 ≤ k0) (h1 : k0 ≤ 33554432) :
    Calls Tryz.prog 27 #[.slice A n c, .int .i64 k0] w fun e w' => e = .returned (.int .i64 ((k0 + 6 * n : Nat) : Int)) ∧ w.grownBy w' (Value.ownBlock (.slice A n c)) := by
  rcases Nat.eq_zero_or_pos n with hz | hp
  · subst hz
    go_enter Tryz.func27, Tryz.ntmps27
    go_wp2_with fail
    refine wp_loop_rounds 1 ?_; rw [rounds_succ]
    go_wp2_with fail
    go_ret
    exact ⟨ret_int (by simp), World.grownBy.refl w _⟩
  · obtain ⟨g, cap, hv, hbg, hgl⟩ := hown.form hp
    simp only [Value.slice.injEq, true_and] at hv
    obtain ⟨rfl, rfl⟩ := hv
    have HO := Lib.hid hown; clear hown
    go_enter Tryz.func27, Tryz.ntmps27
    go_wp2_with fail
    go_loopw [1, 5] (fun v1 v5 wr => ∃ (k K : Nat) (cs' : List Value), k ≤ n ∧ 1 ≤ K ∧ K ≤ 40894464 ∧ Hid (K = k0 + 6 * k) ∧ Hid (wr.ownsRow base 79 6 (.slice (some ⟨g, 0, none⟩) n c) n cs') ∧ Hid (w.grownBy wr (some g)) ∧ v1 = .int .i64 K ∧ v5 = .int .i64 k) (fun _ i _ => n - (intOf i).toNat)
    case atStart => exact ⟨0, k0, cs, Nat.zero_le _, by omega, by omega, rfl, HO.out, World.grownBy.refl w _, rfl, rfl⟩
    case round =>
      obtain ⟨k, K, cs', hk, hK1, hK2, HK, HW0, HG0, rfl, rfl⟩ := hrel
      by_cases hlt : k < n
      · have hKn : K ≤ 33554432 + 6 * k := by have := HK.out; omega
        have MT1 := Lib.hid (fun W => markText_any (K + 2) (by omega) (by omega) W)
        have ek1 : ((K + 2 : Nat) : Int) = (K : Int) + 1 + 1 := by omega
        rw [ek1] at MT1
        have MT2 := Lib.hid (fun W => markText_any (K + 4) (by omega) (by omega) W)
        have ek2 : ((K + 4 : Nat) : Int) = (K : Int) + 1 + 1 + 1 + 1 := by omega
        rw [ek2] at MT2
        have MT3 := Lib.hid (fun W => markText_any (K + 5) (by omega) (by omega) W)
        have ek3 : ((K + 5 : Nat) : Int) = (K : Int) + 1 + 1 + 1 + 1 + 1 := by omega
        rw [ek3] at MT3
        have q0 := HW0.out.cellAt (k * 6) (by have := HW0.out.1; omega)
        rw [List.getElem?_eq_getElem (by have := HW0.out.1; omega)] at q0
        have f0 := HW0.out.frozenAt (k * 6)
        have q1 := HW0.out.cellAt (k * 6 + 1) (by have := HW0.out.1; omega)
        rw [List.getElem?_eq_getElem (by have := HW0.out.1; omega)] at q1
        have f1 := HW0.out.frozenAt (k * 6 + 1)
        have s0 := HW0.out.stored (k * 6) (.int .i64 ((K : Int)))
        have s1 := s0.1.stored (k * 6 + 1) (.int .i64 ((K : Int) + 1))
        have HS0 := Lib.hid s1.1; have HT0 := Lib.hid (((HG0.out).trans s0.2).trans s1.2)
        clear s0 s1
        go_wp2_with fail
        refine (MT1.out _).mono ?_; rintro e w1 ⟨rfl, b1⟩
        have HW1 := Lib.hid (own_below HS0.out b1)
        have HG1 := Lib.hid ((HT0.out).trans (grown_of_below b1 (some g)))
        clear b1
        have q2 := HW1.out.cellAt (k * 6 + 2) (by have := HW1.out.1; omega)
        rw [List.getElem?_eq_getElem (by have := HW1.out.1; omega)] at q2
        have f2 := HW1.out.frozenAt (k * 6 + 2)
        have q3 := HW1.out.cellAt (k * 6 + 3) (by have := HW1.out.1; omega)
        rw [List.getElem?_eq_getElem (by have := HW1.out.1; omega)] at q3
        have f3 := HW1.out.frozenAt (k * 6 + 3)
        have s2 := HW1.out.stored (k * 6 + 2) (.string (mT (K + 2)))
        have s3 := s2.1.stored (k * 6 + 3) (.int .i64 ((K : Int) + 1 + 1 + 1))
        have HS1 := Lib.hid s3.1; have HT1 := Lib.hid (((HG1.out).trans s2.2).trans s3.2)
        clear s2 s3
        go_wp2_with fail
        refine (MT2.out _).mono ?_; rintro e w2 ⟨rfl, b2⟩
        have HW2 := Lib.hid (own_below HS1.out b2)
        have HG2 := Lib.hid ((HT1.out).trans (grown_of_below b2 (some g)))
        clear b2
        have q4 := HW2.out.cellAt (k * 6 + 4) (by have := HW2.out.1; omega)
        rw [List.getElem?_eq_getElem (by have := HW2.out.1; omega)] at q4
        have f4 := HW2.out.frozenAt (k * 6 + 4)
        have s4 := HW2.out.stored (k * 6 + 4) (.string (mT (K + 4)))
        have HS2 := Lib.hid s4.1; have HT2 := Lib.hid ((HG2.out).trans s4.2)
        clear s4
        go_wp2_with fail
        refine (MT3.out _).mono ?_; rintro e w3 ⟨rfl, b3⟩
        have HW3 := Lib.hid (own_below HS2.out b3)
        have HG3 := Lib.hid ((HT2.out).trans (grown_of_below b3 (some g)))
        clear b3
        have q5 := HW3.out.cellAt (k * 6 + 5) (by have := HW3.out.1; omega)
        rw [List.getElem?_eq_getElem (by have := HW3.out.1; omega)] at q5
        have f5 := HW3.out.frozenAt (k * 6 + 5)
        have s5 := HW3.out.stored (k * 6 + 5) (.string (mT (K + 5)))
        have HS3 := Lib.hid s5.1; have HT3 := Lib.hid ((HG3.out).trans s5.2)
        clear s5
        go_wp2_with fail
        go_roundw
        case rel => exact ⟨k + 1, K + 6, _, by omega, by omega, by omega, by have := HK.out; simp [Hid]; omega, HS3.out, HT3.out, by go_num, by go_num⟩
        case measure => simp [intOf]; omega
      · obtain rfl : k = n := by omega
        go_wp2_with fail
        go_ret
        exact ⟨ret_int (by rw [HK.out]), HG0.out⟩
/-- The marks of a row of truth values. -/
def marksB (k0 : Int) : Nat → List Bool
  | 0 => []
  | n + 1 => marksB k0 n ++ [(k0 + n) % 3 == 0]
theorem marksB_len (k0 : Int) (n : Nat) : (marksB k0 n).length = n := by
  induction n with
  | zero => rfl
  | succ n ih => simp [marksB, ih]
theorem marksB_get (k0 : Int) (n : Nat) : ∀ k (h : k < (marksB k0 n).length), (marksB k0 n)[k] = ((k0 + k) % 3 == 0) := by
  induction n with
  | zero => intro k h; simp [marksB] at h
  | succ n ih =>
    intro k h
    simp only [marksB]
    by_cases hk : k < (marksB k0 n).length
    · rw [List.getElem_append_left hk]; exact ih k hk
    · have : k = n := by rw [marksB_len] at h hk; omega
      subst this
      rw [List.getElem_append_right (by rw [marksB_len]; omega)]
      simp
theorem bC_set (ys zs : List Bool) (x a : Bool) : (bC (ys ++ x :: zs)).set ys.length (.bool a) = bC (ys ++ a :: zs) := by
  simp [bC]
set_option maxRecDepth 100000 in
theorem markBoolS_any (xs : List Bool) (base : Nat) (A : Option Addr) (n c : Nat) (k0 : Int) (w : World) (hown : w.ownsRow base 4 1 (.slice A n c) n (bC xs)) (hl : xs.length = n) (hn : n ≤ 2097152) (h0 : 0 ≤ k0) (h1 : k0 ≤ 1099511627776) :
    Calls Tryz.prog 63 #[.slice A n c, .int .i64 k0] w fun e w' => e = .returned (.int .i64 (k0 + n)) ∧ w'.ownsRow base 4 1 (.slice A n c) n (bC (marksB k0 n)) ∧ w.grownBy w' (Value.ownBlock (.slice A n c)) := by
  rcases Nat.eq_zero_or_pos n with hz | hp
  · subst hz
    have hx : xs = [] := List.eq_nil_of_length_eq_zero hl
    subst hx
    have HO := Lib.hid hown; clear hown hl
    go_enter Tryz.func63, Tryz.ntmps63
    go_wp2_with fail
    refine wp_loop_rounds 1 ?_; rw [rounds_succ]
    go_wp2_with fail
    go_ret
    exact ⟨ret_int (by simp), HO.out, World.grownBy.refl w _⟩
  · obtain ⟨g, cap, hv, hbg, hgl⟩ := hown.form hp
    simp only [Value.slice.injEq, true_and] at hv
    obtain ⟨rfl, rfl⟩ := hv
    have HO := Lib.hid hown; clear hown
    have HL := Lib.hid hl; clear hl
    go_enter Tryz.func63, Tryz.ntmps63
    go_wp2_with fail
    go_loopw [1, 5] (fun v1 v5 wr => ∃ k : Nat, k ≤ n ∧ Hid (wr.ownsRow base 4 1 (.slice (some ⟨g, 0, none⟩) n c) n (bC (marksB k0 k ++ xs.drop k))) ∧ w.grownBy wr (some g) ∧ v1 = .int .i64 (k0 + k) ∧ v5 = .int .i64 k) (fun _ i _ => n - (intOf i).toNat)
    case atStart => exact ⟨0, Nat.zero_le _, by simpa [marksB] using HO, World.grownBy.refl w _, by simp, rfl⟩
    case round =>
      obtain ⟨k, hk, HW, hg, rfl, rfl⟩ := hrel
      by_cases hlt : k < n
      · have hlx : k < xs.length := by rw [HL.out]; exact hlt
        have hd : xs.drop k = xs[k] :: xs.drop (k + 1) := List.drop_eq_getElem_cons hlx
        have hlen : (bC (marksB k0 k ++ xs.drop k)).length = n * 1 := HW.out.1
        have q0 := HW.out.cellAt k (by omega)
        rw [List.getElem?_eq_getElem (by omega)] at q0
        have f0 := HW.out.frozenAt k
        generalize (bC (marksB k0 k ++ xs.drop k))[k]'(by omega) = u0 at q0
        have s1 := HW.out.stored k (.bool ((k0 + k) % 3 == 0))
        have e := bC_set (marksB k0 k) (xs.drop (k + 1)) xs[k] ((k0 + k) % 3 == 0)
        rw [marksB_len, ← hd] at e
        rw [e] at s1
        have HS1 := Lib.hid (hg.trans s1.2); have HS2 := Lib.hid s1.1
        clear s1 e hd hlen hg
        have ht : (k0 + (k : Int)).tmod 3 = (k0 + k) % 3 := Int.tmod_eq_emod_of_nonneg (by omega)
        have hw2 : IntKind.i64.wrap ((k0 + (k : Int)) % 3) = (k0 + k) % 3 := IntWalk.i64_in _ (by omega)
        go_wp2_with fail
        go_roundw
        case rel => exact ⟨k + 1, by omega, by simpa [marksB, Hid] using HS2.out, HS1.out, by congr 1; omega, by go_num⟩
        case measure => simp [intOf]; omega
      · obtain rfl : k = n := by omega
        have HX := Lib.hid (show xs.drop k = [] from List.drop_eq_nil_of_le (by rw [HL.out]; omega))
        go_wp2_with fail
        go_ret
        exact ⟨rfl, by have := HW.out; rwa [HX.out, List.append_nil] at this, hg⟩
set_option maxRecDepth 100000 in
theorem heldBoolS_any (B : Nat) (A : Option Addr) (n c : Nat) (k0 : Int) (w : World) (hr : Reads w B 1 A n (bC (marksB k0 n))) (hn : n ≤ 2097152) (h0 : 0 ≤ k0) (h1 : k0 ≤ 1099511627776) :
    Calls Tryz.prog 64 #[.slice A n c, .int .i64 k0] w fun e w' => e = .returned (.int .i64 (k0 + n)) ∧ w = w' := by
  have HR := Lib.hid hr; clear hr
  go_enter Tryz.func64, Tryz.ntmps64
  go_wp2_with fail
  go_loopw [1, 5] (fun v1 v5 wr => ∃ k : Nat, k ≤ n ∧ w = wr ∧ v1 = .int .i64 (k0 + k) ∧ v5 = .int .i64 k) (fun _ i _ => n - (intOf i).toNat)
  case atStart => exact ⟨0, Nat.zero_le _, rfl, by simp, rfl⟩
  case round =>
    obtain ⟨k, hk, rfl, rfl, rfl⟩ := hrel
    by_cases hlt : k < n
    · obtain ⟨ab, ao, rfl, hadb, hcell⟩ := HR.out.2 (by omega)
      have hkl : k < (marksB k0 n).length := by rw [marksB_len]; exact hlt
      have e0 := bC_get (marksB k0 n) k hkl
      rw [marksB_get k0 n k hkl] at e0
      have c0 := hcell _ _ e0
      clear hcell e0
      have ht : (k0 + (k : Int)).tmod 3 = (k0 + k) % 3 := Int.tmod_eq_emod_of_nonneg (by omega)
      have hw2 : IntKind.i64.wrap ((k0 + (k : Int)) % 3) = (k0 + k) % 3 := IntWalk.i64_in _ (by omega)
      go_wp2_with fail
      go_roundw
      case rel => exact ⟨k + 1, by omega, by first | trivial | rfl, by congr 1; omega, by go_num⟩
      case measure => simp [intOf]; omega
    · obtain rfl : k = n := by omega
      go_wp2_with fail
      go_ret
      exact ⟨rfl, rfl⟩
set_option maxRecDepth 100000 in
theorem markMask_any (x y W H : Int) (xs : List Bool) (base : Nat) (A : Option Addr) (n c : Nat) (k0 : Int) (w : World) (hown : w.ownsRow base 4 1 (.slice A n c) n (bC xs)) (hl : xs.length = n) (hn : n ≤ 2097152) (h0 : 0 ≤ k0) (h1 : k0 ≤ 1099511627776) :
    Calls Tryz.prog 28 #[maskV x y W H A n c, .int .i64 k0] w fun e w' => e = .returned (.int .i64 (k0 + n)) ∧ w'.ownsRow base 4 1 (.slice A n c) n (bC (marksB k0 n)) ∧ w.grownBy w' (Value.ownBlock (.slice A n c)) := by
  have HK := Lib.hid (fun W' h => markBoolS_any xs base A n c k0 W' h hl hn h0 h1)
  have HO := Lib.hid (hown.alloc (.cells #[.int .i64 x, .int .i64 y, .int .i64 W, .int .i64 H, .slice A n c] 40))
  have HG := Lib.hid (grown_of_below ((Below.refl w.heap.size w).alloc (Nat.le_refl _) (.cells #[.int .i64 x, .int .i64 y, .int .i64 W, .int .i64 H, .slice A n c] 40)) (Value.ownBlock (.slice A n c)))
  clear hown hl
  unfold maskV
  go_enter Tryz.func28, Tryz.ntmps28
  go_wp2_with fail
  refine (HK.out _ HO.out).mono ?_; rintro e w1 ⟨rfl, o1, g1⟩
  have O1 := Lib.hid o1; have G1 := Lib.hid (HG.out.trans g1)
  clear o1 g1
  go_wp2_with fail
  go_ret
  exact ⟨rfl, O1.out, G1.out⟩
set_option maxRecDepth 100000 in
theorem heldMask_any (x y W H : Int) (A : Option Addr) (n c : Nat) (k0 : Int) (w : World) (hr : Reads w w.heap.size 1 A n (bC (marksB k0 n))) (hn : n ≤ 2097152) (h0 : 0 ≤ k0) (h1 : k0 ≤ 1099511627776) :
    Calls Tryz.prog 29 #[maskV x y W H A n c, .int .i64 k0] w fun e w' => e = .returned (.int .i64 (k0 + n)) ∧ Below w.heap.size w w' := by
  have BA := Lib.hid ((Below.refl w.heap.size w).alloc (Nat.le_refl _) (.cells #[.int .i64 x, .int .i64 y, .int .i64 W, .int .i64 H, .slice A n c] 40))
  have HK := Lib.hid (heldBoolS_any _ A n c k0 _ (hr.below BA.out) hn h0 h1)
  have hpos : ¬ k0 + (n : Int) < 0 := by omega
  clear hr
  unfold maskV
  go_enter Tryz.func29, Tryz.ntmps29
  go_wp2_with fail
  refine HK.out.mono ?_; rintro e w1 ⟨rfl, rfl⟩
  go_wp2_with fail
  go_ret
  exact ⟨rfl, BA.out⟩
end Go.Proofs.YtaaioengebaebaaGreatDoor
namespace Go.Proofs.YtaaioengebaebaaGreatDoor
open Go.ChangeShapes Go.WideShapes Go.ChangeAt Go.RowKit

/-- One block of type t gets a mask whose cells lie in a row of its own. -/
def StoreO (W : World) (t u : TypeId) (rx ry rW rH : Int) (n : Nat) (cs : List Value) (w w' : World) : Prop := ∃ b ds v, Blk w b t ds ∧ Blk w' b t #[.int .i64 rx, .int .i64 ry, .int .i64 rW, .int .i64 rH, v] ∧ w'.ownsRow W.heap.size u 1 v n cs ∧ w'.heap.size = w.heap.size ∧ ∀ r q es, r ≠ b → Blk w r q es → Blk w' r q es
def KeepO (W : World) (t u : TypeId) (rx ry rW rH : Int) (n : Nat) (cs : List Value) : World → World → Prop := fun w w' => KeepW w w' ∨ StoreO W t u rx ry rW rH n cs w w'
theorem own_blks {w w' : World} {base n : Nat} {u : TypeId} {v : Value} {cs : List Value} (h : w.ownsRow base u 1 v n cs) (hk : ∀ g es, Blk w g u es → Blk w' g u es) : w'.ownsRow base u 1 v n cs := by
  rcases h.2 with h1 | ⟨g, cap, cur, e, hb, hc, hr⟩
  · exact ⟨h.1, .inl h1⟩
  · exact ⟨h.1, .inr ⟨g, cap, cur, e, hb, hk g cur hc, hr⟩⟩
section
variable {W : World} {t u : TypeId} {rx ry rW rH : Int} {n : Nat} {cs : List Value}
theorem keepO_own (hu : u ≠ t) {w w' : World} {base m : Nat} {v : Value} {es : List Value} (h : KeepO W t u rx ry rW rH n cs w w') (o : w.ownsRow base u 1 v m es) : w'.ownsRow base u 1 v m es := by
  rcases h with h | ⟨b, ds, v', h1, _, _, _, h4⟩
  · exact own_below o h
  · exact own_blks o (fun g es hk => h4 g u es (fun e => by subst e; exact hu (blk_tag hk h1)) hk)
theorem keepO_V (a : Value) : StableS (KeepO W t u rx ry rW rH n cs) (isV a) := fun _ _ _ _ h => h
theorem keepO_rowL {q : TypeId} (hq : q ≠ t) (m : Nat) (es : List Value) : StableS (KeepO W t u rx ry rW rH n cs) (isRowL W q m es) := by
  rintro w w' v h ⟨b, e, hb, hk⟩
  rcases h with h | ⟨b', ds, v', h1, _, _, _, h4⟩
  · exact ⟨b, e, hb, hk.below h hk.lt⟩
  · exact ⟨b, e, hb, h4 b q _ (fun e => by subst e; exact hq (blk_tag hk h1)) hk⟩
theorem keepO_maskL (x y X H : Int) {q : TypeId} (hq : q ≠ t) (m : Nat) (es : List Value) : StableS (KeepO W t u rx ry rW rH n cs) (isMaskL x y X H q m es) := by
  rintro w w' v h ⟨b, e, hk⟩
  rcases h with h | ⟨b', ds, v', h1, _, _, _, h4⟩
  · exact ⟨b, e, hk.below h hk.lt⟩
  · exact ⟨b, e, h4 b q _ (fun e => by subst e; exact hq (blk_tag hk h1)) hk⟩
theorem keepO_box : StableS (KeepO W t u rx ry rW rH n cs) (isBoxS W t 5) := by
  rintro w w' v h ⟨b, es, e, hb, hn, hk⟩
  rcases h with h | ⟨b', ds, v', h1, h2, _, _, h4⟩
  · exact ⟨b, es, e, hb, hn, hk.below h hk.lt⟩
  · by_cases he : b = b'
    · subst he; exact ⟨b, _, e, hb, rfl, h2⟩
    · exact ⟨b, es, e, hb, hn, h4 b t _ he hk⟩
/-- A mask whose cells lie in a row of its own. -/
def isRegA (W : World) (u : TypeId) (rx ry rW rH : Int) (n : Nat) (cs : List Value) : Value → World → Prop := fun a w => ∃ v, a = .agg #[.int .i64 rx, .int .i64 ry, .int .i64 rW, .int .i64 rH, v] ∧ w.ownsRow W.heap.size u 1 v n cs
def isRegT (W : World) (u : TypeId) (rx ry rW rH rc : Int) (n : Nat) (cs : List Value) : Value → World → Prop := fun a w => ∃ v, a = .tuple #[.agg #[.int .i64 rx, .int .i64 ry, .int .i64 rW, .int .i64 rH, v], .int .i64 rc] ∧ w.ownsRow W.heap.size u 1 v n cs
theorem keepO_regA (hu : u ≠ t) : StableS (KeepO W t u rx ry rW rH n cs) (isRegA W u rx ry rW rH n cs) := fun _ _ _ h ⟨v, e, o⟩ => ⟨v, e, keepO_own hu h o⟩
theorem keepO_regT (hu : u ≠ t) (rc : Int) : StableS (KeepO W t u rx ry rW rH n cs) (isRegT W u rx ry rW rH rc n cs) := fun _ _ _ h ⟨v, e, o⟩ => ⟨v, e, keepO_own hu h o⟩
/-- The box of slot j holds such a mask. -/
def storedO (W : World) (j : Nat) (t u : TypeId) (rx ry rW rH : Int) (n : Nat) (cs : List Value) : (Nat → Value) → World → Prop := fun f w => ∃ b v, f j = .pointer (some ⟨b, 0, none⟩) ∧ W.heap.size ≤ b ∧ Blk w b t #[.int .i64 rx, .int .i64 ry, .int .i64 rW, .int .i64 rH, v] ∧ w.ownsRow W.heap.size u 1 v n cs
theorem keepO_stored (hu : u ≠ t) (j : Nat) : StableD (KeepO W t u rx ry rW rH n cs) (storedO W j t u rx ry rW rH n cs) := by
  rintro w w' f h ⟨b, v, e, hb, hk, o⟩
  have o' := keepO_own hu h o
  rcases h with h | ⟨b', ds, v', h1, h2, o2, _, h4⟩
  · exact ⟨b, v, e, hb, hk.below h hk.lt, o'⟩
  · by_cases he : b = b'
    · subst he; exact ⟨b, v', e, hb, h2, o2⟩
    · exact ⟨b, v, e, hb, h4 b t _ he hk, o'⟩
theorem storedO_local {o : Oper} {i j : Nat} (hw : waits o j = true) : LocalD o i (storedO W j t u rx ry rW rH n cs) := fun f g w _ h ⟨b, v, e, r⟩ => ⟨b, v, by rw [← h j hw]; exact e, r⟩
theorem storeO_5 (hu : u ≠ t) {w : World} {b : Nat} {z0 z1 z2 z3 z4 v : Value} (h : Blk w b t #[z0, z1, z2, z3, z4]) (o : w.ownsRow W.heap.size u 1 v n cs) :
    StoreO W t u rx ry rW rH n cs w (((((w.setCell ⟨b, 0, none⟩ (.int .i64 rx)).setCell ⟨b, 1, none⟩ (.int .i64 ry)).setCell ⟨b, 2, none⟩ (.int .i64 rW)).setCell ⟨b, 3, none⟩ (.int .i64 rH)).setCell ⟨b, 4, none⟩ v) := by
  have hk : ∀ r q es, r ≠ b → Blk w r q es → Blk (((((w.setCell ⟨b, 0, none⟩ (.int .i64 rx)).setCell ⟨b, 1, none⟩ (.int .i64 ry)).setCell ⟨b, 2, none⟩ (.int .i64 rW)).setCell ⟨b, 3, none⟩ (.int .i64 rH)).setCell ⟨b, 4, none⟩ v) r q es := fun r q es hr hk => blk_far5 hk hr _ _ _ _ _
  refine ⟨b, _, v, h, ?_, own_blks o (fun g es hg => hk g u es (fun e => by subst e; exact hu (blk_tag hg h)) hg), by simp [World.setCell], hk⟩
  have b1 : Blk (w.setCell ⟨b, 0, none⟩ (.int .i64 rx)) b t #[.int .i64 rx, z1, z2, z3, z4] := by simpa using h.set_ 0 (.int .i64 rx)
  have b2 : Blk ((w.setCell ⟨b, 0, none⟩ (.int .i64 rx)).setCell ⟨b, 1, none⟩ (.int .i64 ry)) b t #[.int .i64 rx, .int .i64 ry, z2, z3, z4] := by simpa using b1.set_ 1 (.int .i64 ry)
  have b3 : Blk (((w.setCell ⟨b, 0, none⟩ (.int .i64 rx)).setCell ⟨b, 1, none⟩ (.int .i64 ry)).setCell ⟨b, 2, none⟩ (.int .i64 rW)) b t #[.int .i64 rx, .int .i64 ry, .int .i64 rW, z3, z4] := by simpa using b2.set_ 2 (.int .i64 rW)
  have b4 : Blk ((((w.setCell ⟨b, 0, none⟩ (.int .i64 rx)).setCell ⟨b, 1, none⟩ (.int .i64 ry)).setCell ⟨b, 2, none⟩ (.int .i64 rW)).setCell ⟨b, 3, none⟩ (.int .i64 rH)) b t #[.int .i64 rx, .int .i64 ry, .int .i64 rW, .int .i64 rH, z4] := by simpa using b3.set_ 3 (.int .i64 rH)
  simpa using b4.set_ 4 v
end
theorem arr_5 {cs : Array Value} (h : cs.size = 5) : ∃ z0 z1 z2 z3 z4, cs = #[z0, z1, z2, z3, z4] := by
  obtain ⟨l⟩ := cs
  match l, h with
  | [a, b, c, d, e], _ => exact ⟨a, b, c, d, e, rfl⟩
end Go.Proofs.YtaaioengebaebaaGreatDoor
