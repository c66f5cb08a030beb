/- Lists of ballots or texts that are alike; whether a list holds a text; helpers of the laws. -/
import Derived.Test.YtihhpmhigmegjaaDoorRows
import Derived.Test.YtihhpmhigmegjaaDoorL0
import Derived.Test.YtihhpmhigmegjaaDoorM0
import Derived.WalkKit
import Derived.ProofKit
import Derived.OpenShut
import Derived.BigQuiet
import Derived.Outline
import Derived.WalkSpells
import Derived.WalkLawsBesides
import Derived.Deep.DeepCutAuto
import Derived.Test.YtihhpmhigmegjaaDoorV5
import Derived.Test.YtihhpmhigmegjaaDoorT0
import Derived.Test.YtihhpmhigmegjaaDoorI6
import Derived.Test.YtihhpmhigmegjaaDoorFA
import Derived.Lib.QuietBelow
import Derived.Deep.QuietTactic
namespace Go.Proofs.YtihhpmhigmegjaaDoor
open Go.ChangeShapes Go.WideShapes Go.ChangeAt Go.RowKit Go.Sort

theorem own_none {w : World} {base : Nat} {e : TypeId} {size n c : Nat} {A : Option Addr} {xs : List Value} (h : w.ownsRow base e size (.slice A n c) n xs) : A = none → c = 0 := by
  intro hA
  subst hA
  rcases h.2 with ⟨h1, _⟩ | ⟨g, cap, cs, h1, _⟩
  · injection h1 with _ _ h2
  · injection h1 with h2; cases h2
set_option maxRecDepth 100000 in
theorem likeBal_same (L : List Bal) (hm : L.length ≤ 1048576) (A A' : Option Addr) (c c' : Nat) (w : World) (hr : Reads w w.heap.size 3 A L.length (baC L)) (hr' : Reads w w.heap.size 3 A' L.length (baC L)) :
    Calls Tryd.prog 17 #[.slice A L.length c, .slice A' L.length c'] w fun e w' => e = .returned (.bool true) ∧ Below w.heap.size w w' := by
  have HR := Lib.hid hr; have HR' := Lib.hid hr'; clear hr hr'
  go_enter Tryd.func17, Tryd.ntmps17
  go_wp2_with fail
  go_loopw [5] (fun v5 wr => ∃ k : Nat, k ≤ L.length ∧ Hid (Below w.heap.size w wr) ∧ v5 = .int .i64 k) (fun i _ => L.length - (intOf i).toNat)
  case atStart => exact ⟨0, by omega, Below.refl _ _, rfl⟩
  case round =>
    obtain ⟨k, hk, BW, rfl⟩ := hrel
    by_cases hlt : k < L.length
    · obtain ⟨ab, ao, rfl, hadb, hcell⟩ := (HR.out.below BW.out).2 (by omega)
      obtain ⟨ab', ao', rfl, hadb', hcell'⟩ := (HR'.out.below BW.out).2 (by omega)
      obtain ⟨e0, e1, e2⟩ := baC_get L k hlt
      have c0 := hcell _ _ e0
      have c1 := hcell _ _ e1
      have c2 := hcell _ _ e2
      have d0 := hcell' _ _ e0
      have d1 := hcell' _ _ e1
      have d2 := hcell' _ _ e2
      rw [← Nat.add_assoc] at c1 c2 d1 d2
      clear hcell hcell' e0 e1 e2
      have t0 := cell_regrown c0
      have t1 := cell_regrown c1
      have t2 := cell_regrown c2
      have s0 := cell_regrown d0
      have s1 := cell_regrown d1
      have s2 := cell_regrown d2
      clear c0 c1 c2 d0 d1 d2
      generalize L[k] = x at t0 t1 t2 s0 s1 s2
      have k1 : (0 : Int) ≤ (k : Int) := by omega
      have k2 : (k : Int) < (L.length : Int) := by omega
      go_upto_region 6 with (fail)
      refine wp_region_quiet_below (by kernel_rfl) (by kernel_rfl) ?_; (repeat (first | go_big_quiet_step (fail))); refine wpQuiet_nil ?_; intro _ hw'; obtain ⟨⟨dq, osq⟩, rfl⟩ := hw'
      have B2 := Lib.hid (BW.out.trans ((below_regrown wr dq osq).mono BW.out.size))
      generalize grow (redrawn wr dq) osq = w2 at B2 ⊢
      clear t0 t1 t2 s0 s1 s2
      go_wp2_with fail
      go_roundw
      case rel => exact ⟨k + 1, by omega, B2.out, by go_num⟩
      case measure => simp [intOf]; omega
    · obtain rfl : k = L.length := by omega
      go_wp2_with fail
      go_ret
      exact ⟨rfl, BW.out⟩
set_option maxRecDepth 100000 in
theorem likeTx_same (L : List ByteArray) (hm : L.length ≤ 1048576) (A A' : Option Addr) (c c' : Nat) (w : World) (hr : Reads w w.heap.size 1 A L.length (txC L)) (hr' : Reads w w.heap.size 1 A' L.length (txC L)) :
    Calls Tryd.prog 26 #[.slice A L.length c, .slice A' L.length c'] w fun e w' => e = .returned (.bool true) ∧ Below w.heap.size w w' := by
  have HR := Lib.hid hr; have HR' := Lib.hid hr'; clear hr hr'
  go_enter Tryd.func26, Tryd.ntmps26
  go_wp2_with fail
  go_loopw [5] (fun v5 wr => ∃ k : Nat, k ≤ L.length ∧ Hid (Below w.heap.size w wr) ∧ v5 = .int .i64 k) (fun i _ => L.length - (intOf i).toNat)
  case atStart => exact ⟨0, by omega, Below.refl _ _, rfl⟩
  case round =>
    obtain ⟨k, hk, BW, rfl⟩ := hrel
    by_cases hlt : k < L.length
    · obtain ⟨ab, ao, rfl, hadb, hcell⟩ := (HR.out.below BW.out).2 (by omega)
      obtain ⟨ab', ao', rfl, hadb', hcell'⟩ := (HR'.out.below BW.out).2 (by omega)
      have c0 := cell_regrown (hcell _ _ (txC_get L k hlt))
      have c1 := cell_regrown (hcell' _ _ (txC_get L k hlt))
      clear hcell hcell'
      generalize L[k] = x at c0 c1
      have k1 : (0 : Int) ≤ (k : Int) := by omega
      have k2 : (k : Int) < (L.length : Int) := by omega
      go_upto_region 6 with (fail)
      refine wp_region_quiet_below (by kernel_rfl) (by kernel_rfl) ?_; (repeat (first | go_big_quiet_step (fail))); refine wpQuiet_nil ?_; intro _ hw'; obtain ⟨⟨dq, osq⟩, rfl⟩ := hw'
      have B2 := Lib.hid (BW.out.trans ((below_regrown wr dq osq).mono BW.out.size))
      generalize grow (redrawn wr dq) osq = w2 at B2 ⊢
      clear c0 c1
      go_wp2_with fail
      go_roundw
      case rel => exact ⟨k + 1, by omega, B2.out, by go_num⟩
      case measure => simp [intOf]; omega
    · obtain rfl : k = L.length := by omega
      go_wp2_with fail
      go_ret
      exact ⟨rfl, BW.out⟩
/-- Whether a list holds a text. -/
def inT (L : List ByteArray) (s : ByteArray) : Bool := decide (0 ≤ ixS s L)
theorem inT_drop (L : List ByteArray) (s : ByteArray) {k : Nat} (h : k < L.length) : inT (L.drop k) s = ((L[k].toList == s.toList) || inT (L.drop (k + 1)) s) := by
  unfold inT
  rw [str_eq, Bool.eq_iff_iff]
  simp only [decide_eq_true_eq, Bool.or_eq_true, ixS_mem]
  rw [List.drop_eq_getElem_cons h, List.mem_cons]
  exact ⟨fun h => h.imp (fun h => h.symm) id, fun h => h.imp (fun h => h.symm) id⟩
set_option maxRecDepth 100000 in
theorem hasText_any (L : List ByteArray) (v : ByteArray) (hm : L.length ≤ 1048576) (A : Option Addr) (c : Nat) (w : World) (hr : Reads w w.heap.size 1 A L.length (txC L)) :
    Calls Tryd.prog 27 #[.slice A L.length c, .string v] w fun e w' => e = .returned (.bool (inT L v)) ∧ Below w.heap.size w w' := by
  have HR := Lib.hid hr; clear hr
  have HD := Lib.hid (fun k (h : k < L.length) => inT_drop L v h)
  have HE := Lib.hid (show inT (L.drop L.length) v = false by rw [List.drop_length]; unfold inT; rw [decide_eq_false_iff_not, ixS_mem]; simp)
  obtain ⟨r, hr⟩ : ∃ r, inT L v = r := ⟨_, rfl⟩
  have H0 := Lib.hid (show inT (L.drop 0) v = r from hr)
  rw [hr]
  clear hr
  go_enter Tryd.func27, Tryd.ntmps27
  go_wp2_with fail
  go_loopw [5] (fun v5 wr => ∃ k : Nat, k ≤ L.length ∧ Hid (inT (L.drop k) v = r) ∧ Hid (Below w.heap.size w wr) ∧ v5 = .int .i64 k) (fun i _ => L.length - (intOf i).toNat)
  case atStart => exact ⟨0, by omega, H0.out, Below.refl _ _, rfl⟩
  case round =>
    obtain ⟨k, hk, HK, BW, rfl⟩ := hrel
    by_cases hlt : k < L.length
    · obtain ⟨ab, ao, rfl, hadb, hcell⟩ := (HR.out.below BW.out).2 (by omega)
      have c0 := hcell _ _ (txC_get L k hlt)
      have HN := Lib.hid ((HD.out k hlt).symm.trans HK.out)
      clear hcell
      generalize L[k] = x at c0 HN
      cases hq : (x.toList == v.toList)
      · have HK1 := Lib.hid (show inT (L.drop (k + 1)) v = r by have := HN.out; rw [hq, Bool.false_or] at this; exact this)
        clear HN HK
        go_wp2_with fail
        go_roundw
        case rel => exact ⟨k + 1, by omega, HK1.out, BW.out, by go_num⟩
        case measure => simp [intOf]; omega
      · have HR1 := Lib.hid (show true = r by have := HN.out; rw [hq, Bool.true_or] at this; exact this)
        clear HN HK
        go_wp2_with fail
        go_ret
        exact ⟨ret_bool HR1.out, BW.out⟩
    · obtain rfl : k = L.length := by omega
      have HR1 := Lib.hid (show false = r from HE.out.symm.trans HK.out)
      clear HK
      go_wp2_with fail
      go_ret
      exact ⟨ret_bool HR1.out, BW.out⟩
set_option maxRecDepth 100000 in
theorem big_any (A : Option Addr) (n c : Nat) (hn : n ≤ 9223372036854775807) (w : World) :
    Calls Tryd.prog 5 #[.slice A n c] w fun e w' => e = .returned (.bool (decide ((4096 : Int) < n))) ∧ w = w' := by
  go_enter Tryd.func5, Tryd.ntmps5
  go_wp2
  go_ret
  exact ⟨rfl, rfl⟩
end Go.Proofs.YtihhpmhigmegjaaDoor
