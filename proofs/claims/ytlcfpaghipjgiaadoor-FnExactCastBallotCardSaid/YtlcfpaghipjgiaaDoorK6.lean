/- Ballots marked by the law, with what they then hold. -/
import Derived.Test.YtlcfpaghipjgiaaDoorRows
import Derived.Test.YtlcfpaghipjgiaaDoorL0
import Derived.Test.YtlcfpaghipjgiaaDoorM0
import Derived.WalkKit
import Derived.ProofKit
import Derived.OpenShut
import Derived.BigQuiet
import Derived.Outline
import Derived.WalkSpells
import Derived.WalkLawsBesides
import Derived.Deep.DeepCutAuto
import Derived.Test.YtlcfpaghipjgiaaDoorK4
import Derived.Test.YtlcfpaghipjgiaaDoorT4
namespace Go.Proofs.YtlcfpaghipjgiaaDoor
open Go.ChangeShapes Go.WideShapes Go.ChangeAt Go.RowKit Go.Sort

def mkB (K : Nat) : Bal := ⟨mT K, (K : Int) + 1, (K : Int) + 1 + 1⟩
def marksB (k0 n : Nat) : List Bal := (List.range n).map (fun i => mkB (k0 + 3 * i))
theorem marksB_len (k0 n : Nat) : (marksB k0 n).length = n := by simp [marksB]
theorem marksB_get (k0 n j : Nat) (h : j < n) : (marksB k0 n)[j]'(by rw [marksB_len]; exact h) = mkB (k0 + 3 * j) := by simp [marksB]
theorem marksB_set (k0 : Nat) (xs : List Bal) (k : Nat) (h : k < xs.length) : (marksB k0 k ++ xs.drop k).set k (mkB (k0 + 3 * k)) = marksB k0 (k + 1) ++ xs.drop (k + 1) := by
  rw [List.drop_eq_getElem_cons h, List.set_append_right _ _ (by rw [marksB_len]; omega), marksB_len, Nat.sub_self, List.set_cons_zero]
  simp [marksB, List.range_succ]
set_option maxRecDepth 100000 in
set_option maxHeartbeats 1000000 in
theorem markBalC_any (xs : List Bal) (base : Nat) (A : Option Addr) (n c k0 : Nat) (w : World) (hown : w.ownsRow base 49 3 (.slice A n c) n (baC xs)) (hl : xs.length = n) (hn : n ≤ 1048577) (h0 : 1 ≤ k0) (h1 : k0 ≤ 1048576) :
    Calls Tryd.prog 29 #[.slice A n c, .int .i64 k0] w fun e w' => e = .returned (.int .i64 ((k0 + 3 * n : Nat) : Int)) ∧ w'.ownsRow base 49 3 (.slice A n c) n (baC (marksB k0 n)) ∧ w.grownBy w' (Value.ownBlock (.slice A n c)) := by
  rcases Nat.eq_zero_or_pos n with hz | hp
  · subst hz
    have hx : xs = [] := List.eq_nil_of_length_eq_zero hl
    subst hx
    have HO := Lib.hid hown; clear hown hl
    go_enter Tryd.func29, Tryd.ntmps29
    go_wp2_with fail
    refine wp_loop_rounds 1 ?_; rw [rounds_succ]
    go_wp2_with fail
    go_ret
    exact ⟨ret_int (by simp), HO.out, World.grownBy.refl w _⟩
  · obtain ⟨g, cap, hv, hbg, hgl⟩ := hown.form hp
    simp only [Value.slice.injEq, true_and] at hv
    obtain ⟨rfl, rfl⟩ := hv
    have HO := Lib.hid hown; clear hown
    have HL := Lib.hid hl; clear hl
    go_enter Tryd.func29, Tryd.ntmps29
    go_wp2_with fail
    go_loopw [1, 5] (fun v1 v5 wr => ∃ (k K : Nat), k ≤ n ∧ 1 ≤ K ∧ K ≤ 8388608 ∧ Hid (K = k0 + 3 * k) ∧ Hid (wr.ownsRow base 49 3 (.slice (some ⟨g, 0, none⟩) n c) n (baC (marksB k0 k ++ xs.drop k))) ∧ Hid (w.grownBy wr (some g)) ∧ v1 = .int .i64 K ∧ v5 = .int .i64 k) (fun _ i _ => n - (intOf i).toNat)
    case atStart => exact ⟨0, k0, Nat.zero_le _, by omega, by omega, rfl, by simpa [marksB] using HO, World.grownBy.refl w _, rfl, rfl⟩
    case round =>
      obtain ⟨k, K, hk, hK1, hK2, HK, HW, HG, rfl, rfl⟩ := hrel
      by_cases hlt : k < n
      · have MT := Lib.hid (markText_any K (by omega) (by omega) wr)
        go_wp2_with fail
        refine MT.out.mono ?_; rintro e w1 ⟨rfl, b1⟩
        have HW1 := Lib.hid (own_below HW.out b1)
        have HG1 := Lib.hid (HG.out.trans (grown_of_below b1 (some g)))
        clear b1 MT
        have HST := Lib.hid (show baC (marksB k0 (k + 1) ++ xs.drop (k + 1)) = (((baC (marksB k0 k ++ xs.drop k)).set (k * 3) (.string (mT K))).set (k * 3 + 1) (.int .i64 ((K : Int) + 1))).set (k * 3 + 2) (.int .i64 ((K : Int) + 1 + 1)) by
          rw [← marksB_set k0 xs k (by rw [HL.out]; exact hlt), ← HK.out]
          exact baC_set3 _ k (mkB K) (by rw [List.length_append, marksB_len, List.length_drop]; have := HL.out; omega))
        have hlen : (baC (marksB k0 k ++ xs.drop k)).length = n * 3 := HW1.out.1
        generalize baC (marksB k0 k ++ xs.drop k) = cs' at HW1 hlen HST
        have q0 := HW1.out.cellAt (k * 3) (by omega)
        rw [List.getElem?_eq_getElem (by omega)] at q0
        have q1 := HW1.out.cellAt (k * 3 + 1) (by omega)
        rw [List.getElem?_eq_getElem (by omega)] at q1
        have q2 := HW1.out.cellAt (k * 3 + 2) (by omega)
        rw [List.getElem?_eq_getElem (by omega)] at q2
        have f0 := HW1.out.frozenAt (k * 3)
        have f1 := HW1.out.frozenAt (k * 3 + 1)
        have f2 := HW1.out.frozenAt (k * 3 + 2)
        generalize cs'[k * 3]'(by omega) = u0 at q0
        generalize cs'[k * 3 + 1]'(by omega) = u1 at q1
        generalize cs'[k * 3 + 2]'(by omega) = u2 at q2
        have s1 := HW1.out.stored (k * 3) (.string (mT K))
        have s2 := s1.1.stored (k * 3 + 1) (.int .i64 ((K : Int) + 1))
        have s3 := s2.1.stored (k * 3 + 2) (.int .i64 ((K : Int) + 1 + 1))
        have HS1 := Lib.hid (((HG1.out.trans s1.2).trans s2.2).trans s3.2); have HS2 := Lib.hid s3.1
        clear s1 s2 s3 hlen
        go_wp2_with fail
        go_roundw
        case rel => exact ⟨k + 1, K + 3, by omega, by omega, by have := HK.out; omega, by have := HK.out; simp [Hid]; omega, by rw [HST.out]; exact HS2.out, HS1.out, by go_num, by go_num⟩
        case measure => simp [intOf]; omega
      · obtain rfl : k = n := by omega
        have HX := Lib.hid (show xs.drop k = [] from List.drop_eq_nil_of_le (by rw [HL.out]; omega))
        go_wp2_with fail
        go_ret
        exact ⟨ret_int (by rw [HK.out]), by have := HW.out; rwa [HX.out, List.append_nil] at this, HG.out⟩
set_option maxRecDepth 100000 in
set_option maxHeartbeats 1000000 in
theorem heldBal_any (A : Option Addr) (n c k0 : Nat) (w : World) (hr : Reads w w.heap.size 3 A n (baC (marksB k0 n))) (hn : n ≤ 1048577) (h0 : 1 ≤ k0) (h1 : k0 ≤ 1048576) :
    Calls Tryd.prog 36 #[.slice A n c, .int .i64 k0] w fun e w' => e = .returned (.int .i64 ((k0 + 3 * n : Nat) : Int)) ∧ Below w.heap.size w w' := by
  have HR := Lib.hid hr; clear hr
  go_enter Tryd.func36, Tryd.ntmps36
  go_wp2_with fail
  go_loopw [1, 5] (fun v1 v5 wr => ∃ k K : Nat, k ≤ n ∧ 1 ≤ K ∧ K ≤ 8388608 ∧ Hid (K = k0 + 3 * k) ∧ Hid (Below w.heap.size w wr) ∧ v1 = .int .i64 K ∧ v5 = .int .i64 k) (fun _ i _ => n - (intOf i).toNat)
  case atStart => exact ⟨0, k0, Nat.zero_le _, by omega, by omega, rfl, Below.refl _ _, rfl, rfl⟩
  case round =>
    obtain ⟨k, K, hk, hK1, hK2, HK, BW, rfl, rfl⟩ := hrel
    by_cases hlt : k < n
    · have HCL := Lib.hid (fun W (hb : Below w.heap.size w W) => (HR.out.below hb).2 (by omega))
      obtain ⟨ab, ao, rfl, hadb, hcell⟩ := HCL.out wr BW.out
      have HE := Lib.hid (show (baC (marksB k0 n))[k * 3]? = some (.string (mT K)) ∧ (baC (marksB k0 n))[k * 3 + 1]? = some (.int .i64 ((K : Int) + 1)) ∧ (baC (marksB k0 n))[k * 3 + 2]? = some (.int .i64 ((K : Int) + 1 + 1)) by
        have e := baC_get (marksB k0 n) k (by rw [marksB_len]; exact hlt)
        rw [marksB_get k0 n k hlt, ← HK.out] at e
        exact e)
      have HC := Lib.hid (fun W (hb : Below w.heap.size w W) => (show W.cell? ⟨ab, ao + k * 3, none⟩ = some (.string (mT K)) ∧ W.cell? ⟨ab, ao + k * 3 + 1, none⟩ = some (.int .i64 ((K : Int) + 1)) ∧ W.cell? ⟨ab, ao + k * 3 + 2, none⟩ = some (.int .i64 ((K : Int) + 1 + 1)) from by
        obtain ⟨ab', ao', hA, _, hc⟩ := HCL.out W hb
        cases hA
        have h1 := hc _ _ HE.out.2.1
        have h2 := hc _ _ HE.out.2.2
        rw [← Nat.add_assoc] at h1 h2
        exact ⟨hc _ _ HE.out.1, h1, h2⟩))
      clear hcell
      obtain ⟨c0, _, _⟩ := HC.out wr BW.out
      have d0 := cell_regrown c0
      have r1 : ∀ d os, Calls Tryd.prog 63 #[.int .i64 K] (grow (redrawn wr d) os) (fun e w'' => e = .returned (.string (mT K)) ∧ ∃ p : Regrown, w'' = grow (redrawn wr p.d) p.os) := fun d os => Calls.regrown_of (markText_any K hK1 (by omega) _)
      have hk0 : (0 : Int) ≤ (k : Int) := by omega
      have hkn : (k : Int) < (n : Int) := by omega
      go_upto_region 4 with (fail)
      refine wp_region_quiet_below (by kernel_rfl) (by kernel_rfl) ?_; (repeat (first | go_big_quiet_step ((first | with_reducible exact r1 _ _)))); refine wpQuiet_nil ?_; intro _ hw'; obtain ⟨⟨dq, osq⟩, rfl⟩ := hw'
      generalize hw2 : grow (redrawn wr dq) osq = w2
      have W2 := Lib.hid (hw2 ▸ BW.out.trans ((below_regrown wr dq osq).mono BW.out.size) : Below w.heap.size w w2)
      clear hw2 c0 d0 r1
      obtain ⟨c0, c1, c2⟩ := HC.out w2 W2.out
      go_wp2_with fail
      go_roundw
      case rel => exact ⟨k + 1, K + 3, by omega, by omega, by have := HK.out; omega, by have := HK.out; simp [Hid]; omega, W2.out, by go_num, by go_num⟩
      case measure => simp [intOf]; omega
    · obtain rfl : k = n := by omega
      go_wp2_with fail
      go_ret
      exact ⟨ret_int (by rw [HK.out]), BW.out⟩
end Go.Proofs.YtlcfpaghipjgiaaDoor
