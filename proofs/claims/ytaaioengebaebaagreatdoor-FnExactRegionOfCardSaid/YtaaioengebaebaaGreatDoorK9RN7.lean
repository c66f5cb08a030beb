/- Marks written into rows of sites and descriptions and into masks. -/
import Derived.Test.YtaaioengebaebaaGreatDoorRows
import Derived.Test.YtaaioengebaebaaGreatDoorK9GA
import Derived.WalkKit
import Derived.ProofKit
import Derived.OpenShut
import Derived.BigQuiet
import Derived.Outline
import Derived.WalkSpells
import Derived.WalkLawsBesides
import Derived.Deep.DeepCutAuto
import Derived.Test.YtaaioengebaebaaGreatDoorK9GD
import Derived.Test.YtaaioengebaebaaGreatDoorK9FD0
import Derived.Test.YtaaioengebaebaaGreatDoorK9RM3
namespace Go.Proofs.YtaaioengebaebaaGreatDoor
open Go.ChangeShapes Go.WideShapes Go.ChangeAt Go.RowKit

set_option maxRecDepth 100000 in
set_option maxHeartbeats 2000000 in
theorem markSit_any (cs : List Value) (base : Nat) (A : Option Addr) (n c k0 : Nat) (w : World) (hown : w.ownsRow base 77 3 (.slice A n c) n cs) (hn : n ≤ 1048576) (h0 : 1 ≤ k0) (h1 : k0 ≤ 33554432) :
    Calls Tryz.prog 26 #[.slice A n c, .int .i64 k0] w fun e w' => e = .returned (.int .i64 ((k0 + 3 * n : Nat) : Int)) ∧ w.grownBy w' (Value.ownBlock (.slice A n c)) := by
  rcases Nat.eq_zero_or_pos n with hz | hp
  · subst hz
    go_enter Tryz.func26, Tryz.ntmps26
    go_wp2_with fail
    refine wp_loop_rounds 1 ?_; rw [rounds_succ]
    go_wp2_with fail
    go_ret
    exact ⟨ret_int (by simp), World.grownBy.refl w _⟩
  · obtain ⟨g, cap, hv, hbg, hgl⟩ := hown.form hp
    simp only [Value.slice.injEq, true_and] at hv
    obtain ⟨rfl, rfl⟩ := hv
    have HO := Lib.hid hown; clear hown
    go_enter Tryz.func26, Tryz.ntmps26
    go_wp2_with fail
    go_loopw [1, 5] (fun v1 v5 wr => ∃ (k K : Nat) (cs' : List Value), k ≤ n ∧ 1 ≤ K ∧ K ≤ 37748736 ∧ Hid (K = k0 + 3 * k) ∧ Hid (wr.ownsRow base 77 3 (.slice (some ⟨g, 0, none⟩) n c) n cs') ∧ Hid (w.grownBy wr (some g)) ∧ v1 = .int .i64 K ∧ v5 = .int .i64 k) (fun _ i _ => n - (intOf i).toNat)
    case atStart => exact ⟨0, k0, cs, Nat.zero_le _, by omega, by omega, rfl, HO.out, World.grownBy.refl w _, rfl, rfl⟩
    case round =>
      obtain ⟨k, K, cs', hk, hK1, hK2, HK, HW0, HG0, rfl, rfl⟩ := hrel
      by_cases hlt : k < n
      · have hKn : K ≤ 33554432 + 3 * k := by have := HK.out; omega
        have MT1 := Lib.hid (fun W => markText_any K (by omega) (by omega) W)
        go_wp2_with fail
        refine (MT1.out _).mono ?_; rintro e w1 ⟨rfl, b1⟩
        have HW1 := Lib.hid (own_below HW0.out b1)
        have HG1 := Lib.hid ((HG0.out).trans (grown_of_below b1 (some g)))
        clear b1
        have q0 := HW1.out.cellAt (k * 3) (by have := HW1.out.1; omega)
        rw [List.getElem?_eq_getElem (by have := HW1.out.1; omega)] at q0
        have f0 := HW1.out.frozenAt (k * 3)
        have q1 := HW1.out.cellAt (k * 3 + 1) (by have := HW1.out.1; omega)
        rw [List.getElem?_eq_getElem (by have := HW1.out.1; omega)] at q1
        have f1 := HW1.out.frozenAt (k * 3 + 1)
        have q2 := HW1.out.cellAt (k * 3 + 2) (by have := HW1.out.1; omega)
        rw [List.getElem?_eq_getElem (by have := HW1.out.1; omega)] at q2
        have f2 := HW1.out.frozenAt (k * 3 + 2)
        have s0 := HW1.out.stored (k * 3) (.string (mT K))
        have s1 := s0.1.stored (k * 3 + 1) (.int .i64 ((K : Int) + 1))
        have s2 := s1.1.stored (k * 3 + 2) (.int .i64 ((K : Int) + 1 + 1))
        have HS1 := Lib.hid s2.1; have HT1 := Lib.hid ((((HG1.out).trans s0.2).trans s1.2).trans s2.2)
        clear s0 s1 s2
        go_wp2_with fail
        go_roundw
        case rel => exact ⟨k + 1, K + 3, _, by omega, by omega, by omega, by have := HK.out; simp [Hid]; omega, HS1.out, HT1.out, by go_num, by go_num⟩
        case measure => simp [intOf]; omega
      · obtain rfl : k = n := by omega
        go_wp2_with fail
        go_ret
        exact ⟨ret_int (by rw [HK.out]), HG0.out⟩
set_option maxRecDepth 100000 in
set_option maxHeartbeats 2000000 in
theorem markDsc_any (cs : List Value) (base : Nat) (A : Option Addr) (n c k0 : Nat) (w : World) (hown : w.ownsRow base 79 6 (.slice A n c) n cs) (hn : n ≤ 1048576) (h0 : 1 ≤ k0) (h1 : k0 ≤ 33554432) :
    Calls Tryz.prog 27 #[.slice A n c, .int .i64 k0] w fun e w' => e = .returned (.int .i64 ((k0 + 6 * n : Nat) : Int)) ∧ w.grownBy w' (Value.ownBlock (.slice A n c)) := by
  rcases Nat.eq_zero_or_pos n with hz | hp
  · subst hz
    go_enter Tryz.func27, Tryz.ntmps27
    go_wp2_with fail
    refine wp_loop_rounds 1 ?_; rw [rounds_succ]
    go_wp2_with fail
    go_ret
    exact ⟨ret_int (by simp), World.grownBy.refl w _⟩
  · obtain ⟨g, cap, hv, hbg, hgl⟩ := hown.form hp
    simp only [Value.slice.injEq, true_and] at hv
    obtain ⟨rfl, rfl⟩ := hv
    have HO := Lib.hid hown; clear hown
    go_enter Tryz.func27, Tryz.ntmps27
    go_wp2_with fail
    go_loopw [1, 5] (fun v1 v5 wr => ∃ (k K : Nat) (cs' : List Value), k ≤ n ∧ 1 ≤ K ∧ K ≤ 40894464 ∧ Hid (K = k0 + 6 * k) ∧ Hid (wr.ownsRow base 79 6 (.slice (some ⟨g, 0, none⟩) n c) n cs') ∧ Hid (w.grownBy wr (some g)) ∧ v1 = .int .i64 K ∧ v5 = .int .i64 k) (fun _ i _ => n - (intOf i).toNat)
    case atStart => exact ⟨0, k0, cs, Nat.zero_le _, by omega, by omega, rfl, HO.out, World.grownBy.refl w _, rfl, rfl⟩
    case round =>
      obtain ⟨k, K, cs', hk, hK1, hK2, HK, HW0, HG0, rfl, rfl⟩ := hrel
      by_cases hlt : k < n
      · have hKn : K ≤ 33554432 + 6 * k := by have := HK.out; omega
        have MT1 := Lib.hid (fun W => markText_any (K + 2) (by omega) (by omega) W)
        have ek1 : ((K + 2 : Nat) : Int) = (K : Int) + 1 + 1 := by omega
        rw [ek1] at MT1
        have MT2 := Lib.hid (fun W => markText_any (K + 4) (by omega) (by omega) W)
        have ek2 : ((K + 4 : Nat) : Int) = (K : Int) + 1 + 1 + 1 + 1 := by omega
        rw [ek2] at MT2
        have MT3 := Lib.hid (fun W => markText_any (K + 5) (by omega) (by omega) W)
        have ek3 : ((K + 5 : Nat) : Int) = (K : Int) + 1 + 1 + 1 + 1 + 1 := by omega
        rw [ek3] at MT3
        have q0 := HW0.out.cellAt (k * 6) (by have := HW0.out.1; omega)
        rw [List.getElem?_eq_getElem (by have := HW0.out.1; omega)] at q0
        have f0 := HW0.out.frozenAt (k * 6)
        have q1 := HW0.out.cellAt (k * 6 + 1) (by have := HW0.out.1; omega)
        rw [List.getElem?_eq_getElem (by have := HW0.out.1; omega)] at q1
        have f1 := HW0.out.frozenAt (k * 6 + 1)
        have s0 := HW0.out.stored (k * 6) (.int .i64 ((K : Int)))
        have s1 := s0.1.stored (k * 6 + 1) (.int .i64 ((K : Int) + 1))
        have HS0 := Lib.hid s1.1; have HT0 := Lib.hid (((HG0.out).trans s0.2).trans s1.2)
        clear s0 s1
        go_wp2_with fail
        refine (MT1.out _).mono ?_; rintro e w1 ⟨rfl, b1⟩
        have HW1 := Lib.hid (own_below HS0.out b1)
        have HG1 := Lib.hid ((HT0.out).trans (grown_of_below b1 (some g)))
        clear b1
        have q2 := HW1.out.cellAt (k * 6 + 2) (by have := HW1.out.1; omega)
        rw [List.getElem?_eq_getElem (by have := HW1.out.1; omega)] at q2
        have f2 := HW1.out.frozenAt (k * 6 + 2)
        have q3 := HW1.out.cellAt (k * 6 + 3) (by have := HW1.out.1; omega)
        rw [List.getElem?_eq_getElem (by have := HW1.out.1; omega)] at q3
        have f3 := HW1.out.frozenAt (k * 6 + 3)
        have s2 := HW1.out.stored (k * 6 + 2) (.string (mT (K + 2)))
        have s3 := s2.1.stored (k * 6 + 3) (.int .i64 ((K : Int) + 1 + 1 + 1))
        have HS1 := Lib.hid s3.1; have HT1 := Lib.hid (((HG1.out).trans s2.2).trans s3.2)
        clear s2 s3
        go_wp2_with fail
        refine (MT2.out _).mono ?_; rintro e w2 ⟨rfl, b2⟩
        have HW2 := Lib.hid (own_below HS1.out b2)
        have HG2 := Lib.hid ((HT1.out).trans (grown_of_below b2 (some g)))
        clear b2
        have q4 := HW2.out.cellAt (k * 6 + 4) (by have := HW2.out.1; omega)
        rw [List.getElem?_eq_getElem (by have := HW2.out.1; omega)] at q4
        have f4 := HW2.out.frozenAt (k * 6 + 4)
        have s4 := HW2.out.stored (k * 6 + 4) (.string (mT (K + 4)))
        have HS2 := Lib.hid s4.1; have HT2 := Lib.hid ((HG2.out).trans s4.2)
        clear s4
        go_wp2_with fail
        refine (MT3.out _).mono ?_; rintro e w3 ⟨rfl, b3⟩
        have HW3 := Lib.hid (own_below HS2.out b3)
        have HG3 := Lib.hid ((HT2.out).trans (grown_of_below b3 (some g)))
        clear b3
        have q5 := HW3.out.cellAt (k * 6 + 5) (by have := HW3.out.1; omega)
        rw [List.getElem?_eq_getElem (by have := HW3.out.1; omega)] at q5
        have f5 := HW3.out.frozenAt (k * 6 + 5)
        have s5 := HW3.out.stored (k * 6 + 5) (.string (mT (K + 5)))
        have HS3 := Lib.hid s5.1; have HT3 := Lib.hid ((HG3.out).trans s5.2)
        clear s5
        go_wp2_with fail
        go_roundw
        case rel => exact ⟨k + 1, K + 6, _, by omega, by omega, by omega, by have := HK.out; simp [Hid]; omega, HS3.out, HT3.out, by go_num, by go_num⟩
        case measure => simp [intOf]; omega
      · obtain rfl : k = n := by omega
        go_wp2_with fail
        go_ret
        exact ⟨ret_int (by rw [HK.out]), HG0.out⟩
/-- The marks of a row of truth values. -/
def marksB (k0 : Int) : Nat → List Bool
  | 0 => []
  | n + 1 => marksB k0 n ++ [(k0 + n) % 3 == 0]
theorem marksB_len (k0 : Int) (n : Nat) : (marksB k0 n).length = n := by
  induction n with
  | zero => rfl
  | succ n ih => simp [marksB, ih]
theorem marksB_get (k0 : Int) (n : Nat) : ∀ k (h : k < (marksB k0 n).length), (marksB k0 n)[k] = ((k0 + k) % 3 == 0) := by
  induction n with
  | zero => intro k h; simp [marksB] at h
  | succ n ih =>
    intro k h
    simp only [marksB]
    by_cases hk : k < (marksB k0 n).length
    · rw [List.getElem_append_left hk]; exact ih k hk
    · have : k = n := by rw [marksB_len] at h hk; omega
      subst this
      rw [List.getElem_append_right (by rw [marksB_len]; omega)]
      simp
theorem bC_set (ys zs : List Bool) (x a : Bool) : (bC (ys ++ x :: zs)).set ys.length (.bool a) = bC (ys ++ a :: zs) := by
  simp [bC]
set_option maxRecDepth 100000 in
theorem markBoolS_any (xs : List Bool) (base : Nat) (A : Option Addr) (n c : Nat) (k0 : Int) (w : World) (hown : w.ownsRow base 4 1 (.slice A n c) n (bC xs)) (hl : xs.length = n) (hn : n ≤ 2097152) (h0 : 0 ≤ k0) (h1 : k0 ≤ 1099511627776) :
    Calls Tryz.prog 63 #[.slice A n c, .int .i64 k0] w fun e w' => e = .returned (.int .i64 (k0 + n)) ∧ w'.ownsRow base 4 1 (.slice A n c) n (bC (marksB k0 n)) ∧ w.grownBy w' (Value.ownBlock (.slice A n c)) := by
  rcases Nat.eq_zero_or_pos n with hz | hp
  · subst hz
    have hx : xs = [] := List.eq_nil_of_length_eq_zero hl
    subst hx
    have HO := Lib.hid hown; clear hown hl
    go_enter Tryz.func63, Tryz.ntmps63
    go_wp2_with fail
    refine wp_loop_rounds 1 ?_; rw [rounds_succ]
    go_wp2_with fail
    go_ret
    exact ⟨ret_int (by simp), HO.out, World.grownBy.refl w _⟩
  · obtain ⟨g, cap, hv, hbg, hgl⟩ := hown.form hp
    simp only [Value.slice.injEq, true_and] at hv
    obtain ⟨rfl, rfl⟩ := hv
    have HO := Lib.hid hown; clear hown
    have HL := Lib.hid hl; clear hl
    go_enter Tryz.func63, Tryz.ntmps63
    go_wp2_with fail
    go_loopw [1, 5] (fun v1 v5 wr => ∃ k : Nat, k ≤ n ∧ Hid (wr.ownsRow base 4 1 (.slice (some ⟨g, 0, none⟩) n c) n (bC (marksB k0 k ++ xs.drop k))) ∧ w.grownBy wr (some g) ∧ v1 = .int .i64 (k0 + k) ∧ v5 = .int .i64 k) (fun _ i _ => n - (intOf i).toNat)
    case atStart => exact ⟨0, Nat.zero_le _, by simpa [marksB] using HO, World.grownBy.refl w _, by simp, rfl⟩
    case round =>
      obtain ⟨k, hk, HW, hg, rfl, rfl⟩ := hrel
      by_cases hlt : k < n
      · have hlx : k < xs.length := by rw [HL.out]; exact hlt
        have hd : xs.drop k = xs[k] :: xs.drop (k + 1) := List.drop_eq_getElem_cons hlx
        have hlen : (bC (marksB k0 k ++ xs.drop k)).length = n * 1 := HW.out.1
        have q0 := HW.out.cellAt k (by omega)
        rw [List.getElem?_eq_getElem (by omega)] at q0
        have f0 := HW.out.frozenAt k
        generalize (bC (marksB k0 k ++ xs.drop k))[k]'(by omega) = u0 at q0
        have s1 := HW.out.stored k (.bool ((k0 + k) % 3 == 0))
        have e := bC_set (marksB k0 k) (xs.drop (k + 1)) xs[k] ((k0 + k) % 3 == 0)
        rw [marksB_len, ← hd] at e
        rw [e] at s1
        have HS1 := Lib.hid (hg.trans s1.2); have HS2 := Lib.hid s1.1
        clear s1 e hd hlen hg
        have ht : (k0 + (k : Int)).tmod 3 = (k0 + k) % 3 := Int.tmod_eq_emod_of_nonneg (by omega)
        have hw2 : IntKind.i64.wrap ((k0 + (k : Int)) % 3) = (k0 + k) % 3 := IntWalk.i64_in _ (by omega)
        go_wp2_with fail
        go_roundw
        case rel => exact ⟨k + 1, by omega, by simpa [marksB, Hid] using HS2.out, HS1.out, by congr 1; omega, by go_num⟩
        case measure => simp [intOf]; omega
      · obtain rfl : k = n := by omega
        have HX := Lib.hid (show xs.drop k = [] from List.drop_eq_nil_of_le (by rw [HL.out]; omega))
        go_wp2_with fail
        go_ret
        exact ⟨rfl, by have := HW.out; rwa [HX.out, List.append_nil] at this, hg⟩
set_option maxRecDepth 100000 in
theorem heldBoolS_any (B : Nat) (A : Option Addr) (n c : Nat) (k0 : Int) (w : World) (hr : Reads w B 1 A n (bC (marksB k0 n))) (hn : n ≤ 2097152) (h0 : 0 ≤ k0) (h1 : k0 ≤ 1099511627776) :
    Calls Tryz.prog 64 #[.slice A n c, .int .i64 k0] w fun e w' => e = .returned (.int .i64 (k0 + n)) ∧ w = w' := by
  have HR := Lib.hid hr; clear hr
  go_enter Tryz.func64, Tryz.ntmps64
  go_wp2_with fail
  go_loopw [1, 5] (fun v1 v5 wr => ∃ k : Nat, k ≤ n ∧ w = wr ∧ v1 = .int .i64 (k0 + k) ∧ v5 = .int .i64 k) (fun _ i _ => n - (intOf i).toNat)
  case atStart => exact ⟨0, Nat.zero_le _, rfl, by simp, rfl⟩
  case round =>
    obtain ⟨k, hk, rfl, rfl, rfl⟩ := hrel
    by_cases hlt : k < n
    · obtain ⟨ab, ao, rfl, hadb, hcell⟩ := HR.out.2 (by omega)
      have hkl : k < (marksB k0 n).length := by rw [marksB_len]; exact hlt
      have e0 := bC_get (marksB k0 n) k hkl
      rw [marksB_get k0 n k hkl] at e0
      have c0 := hcell _ _ e0
      clear hcell e0
      have ht : (k0 + (k : Int)).tmod 3 = (k0 + k) % 3 := Int.tmod_eq_emod_of_nonneg (by omega)
      have hw2 : IntKind.i64.wrap ((k0 + (k : Int)) % 3) = (k0 + k) % 3 := IntWalk.i64_in _ (by omega)
      go_wp2_with fail
      go_roundw
      case rel => exact ⟨k + 1, by omega, by first | trivial | rfl, by congr 1; omega, by go_num⟩
      case measure => simp [intOf]; omega
    · obtain rfl : k = n := by omega
      go_wp2_with fail
      go_ret
      exact ⟨rfl, rfl⟩
set_option maxRecDepth 100000 in
theorem markMask_any (x y W H : Int) (xs : List Bool) (base : Nat) (A : Option Addr) (n c : Nat) (k0 : Int) (w : World) (hown : w.ownsRow base 4 1 (.slice A n c) n (bC xs)) (hl : xs.length = n) (hn : n ≤ 2097152) (h0 : 0 ≤ k0) (h1 : k0 ≤ 1099511627776) :
    Calls Tryz.prog 28 #[maskV x y W H A n c, .int .i64 k0] w fun e w' => e = .returned (.int .i64 (k0 + n)) ∧ w'.ownsRow base 4 1 (.slice A n c) n (bC (marksB k0 n)) ∧ w.grownBy w' (Value.ownBlock (.slice A n c)) := by
  have HK := Lib.hid (fun W' h => markBoolS_any xs base A n c k0 W' h hl hn h0 h1)
  have HO := Lib.hid (hown.alloc (.cells #[.int .i64 x, .int .i64 y, .int .i64 W, .int .i64 H, .slice A n c] 40))
  have HG := Lib.hid (grown_of_below ((Below.refl w.heap.size w).alloc (Nat.le_refl _) (.cells #[.int .i64 x, .int .i64 y, .int .i64 W, .int .i64 H, .slice A n c] 40)) (Value.ownBlock (.slice A n c)))
  clear hown hl
  unfold maskV
  go_enter Tryz.func28, Tryz.ntmps28
  go_wp2_with fail
  refine (HK.out _ HO.out).mono ?_; rintro e w1 ⟨rfl, o1, g1⟩
  have O1 := Lib.hid o1; have G1 := Lib.hid (HG.out.trans g1)
  clear o1 g1
  go_wp2_with fail
  go_ret
  exact ⟨rfl, O1.out, G1.out⟩
set_option maxRecDepth 100000 in
theorem heldMask_any (x y W H : Int) (A : Option Addr) (n c : Nat) (k0 : Int) (w : World) (hr : Reads w w.heap.size 1 A n (bC (marksB k0 n))) (hn : n ≤ 2097152) (h0 : 0 ≤ k0) (h1 : k0 ≤ 1099511627776) :
    Calls Tryz.prog 29 #[maskV x y W H A n c, .int .i64 k0] w fun e w' => e = .returned (.int .i64 (k0 + n)) ∧ Below w.heap.size w w' := by
  have BA := Lib.hid ((Below.refl w.heap.size w).alloc (Nat.le_refl _) (.cells #[.int .i64 x, .int .i64 y, .int .i64 W, .int .i64 H, .slice A n c] 40))
  have HK := Lib.hid (heldBoolS_any _ A n c k0 _ (hr.below BA.out) hn h0 h1)
  have hpos : ¬ k0 + (n : Int) < 0 := by omega
  clear hr
  unfold maskV
  go_enter Tryz.func29, Tryz.ntmps29
  go_wp2_with fail
  refine HK.out.mono ?_; rintro e w1 ⟨rfl, rfl⟩
  go_wp2_with fail
  go_ret
  exact ⟨rfl, BA.out⟩
end Go.Proofs.YtaaioengebaebaaGreatDoor
