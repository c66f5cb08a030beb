/- Lists of texts that are alike; whether a list holds a text; helpers of the law FnDescriptions. -/
import Derived.Test.YtnbpbidflacoiaaDoorRows
import Derived.Test.YtnbpbidflacoiaaDoorL0
import Derived.Test.YtnbpbidflacoiaaDoorM0
import Derived.WalkKit
import Derived.ProofKit
import Derived.OpenShut
import Derived.BigQuiet
import Derived.Outline
import Derived.WalkSpells
import Derived.WalkLawsBesides
import Derived.Deep.DeepCutAuto
import Derived.Test.YtnbpbidflacoiaaDoorW0
import Derived.Test.YtnbpbidflacoiaaDoorT0
import Derived.Test.YtnbpbidflacoiaaDoorI6
import Derived.Test.YtnbpbidflacoiaaDoorFA
import Derived.Lib.QuietBelow
import Derived.Deep.QuietTactic
namespace Go.Proofs.YtnbpbidflacoiaaDoor
open Go.ChangeShapes Go.WideShapes Go.ChangeAt Go.RowKit Go.Sort

set_option maxRecDepth 100000 in
theorem likeTx_same (L : List ByteArray) (hm : L.length ≤ 1048576) (A A' : Option Addr) (c c' : Nat) (w : World) (hr : Reads w w.heap.size 1 A L.length (txC L)) (hr' : Reads w w.heap.size 1 A' L.length (txC L)) :
    Calls Tryd.prog 23 #[.slice A L.length c, .slice A' L.length c'] w fun e w' => e = .returned (.bool true) ∧ Below w.heap.size w w' := by
  have HR := Lib.hid hr; have HR' := Lib.hid hr'; clear hr hr'
  go_enter Tryd.func23, Tryd.ntmps23
  go_wp2_with fail
  go_loopw [5] (fun v5 wr => ∃ k : Nat, k ≤ L.length ∧ Hid (Below w.heap.size w wr) ∧ v5 = .int .i64 k) (fun i _ => L.length - (intOf i).toNat)
  case atStart => exact ⟨0, by omega, Below.refl _ _, rfl⟩
  case round =>
    obtain ⟨k, hk, BW, rfl⟩ := hrel
    by_cases hlt : k < L.length
    · obtain ⟨ab, ao, rfl, hadb, hcell⟩ := (HR.out.below BW.out).2 (by omega)
      obtain ⟨ab', ao', rfl, hadb', hcell'⟩ := (HR'.out.below BW.out).2 (by omega)
      have c0 := cell_regrown (hcell _ _ (txC_get L k hlt))
      have c1 := cell_regrown (hcell' _ _ (txC_get L k hlt))
      clear hcell hcell'
      generalize L[k] = x at c0 c1
      have k1 : (0 : Int) ≤ (k : Int) := by omega
      have k2 : (k : Int) < (L.length : Int) := by omega
      go_upto_region 6 with (fail)
      refine wp_region_quiet_below (by kernel_rfl) (by kernel_rfl) ?_; (repeat (first | go_big_quiet_step (fail))); refine wpQuiet_nil ?_; intro _ hw'; obtain ⟨⟨dq, osq⟩, rfl⟩ := hw'
      have B2 := Lib.hid (BW.out.trans ((below_regrown wr dq osq).mono BW.out.size))
      generalize grow (redrawn wr dq) osq = w2 at B2 ⊢
      clear c0 c1
      go_wp2_with fail
      go_roundw
      case rel => exact ⟨k + 1, by omega, B2.out, by go_num⟩
      case measure => simp [intOf]; omega
    · obtain rfl : k = L.length := by omega
      go_wp2_with fail
      go_ret
      exact ⟨rfl, BW.out⟩
/-- Whether a list holds a text. -/
def inT (L : List ByteArray) (s : ByteArray) : Bool := decide (0 ≤ ixS s L)
theorem inT_drop (L : List ByteArray) (s : ByteArray) {k : Nat} (h : k < L.length) : inT (L.drop k) s = ((L[k].toList == s.toList) || inT (L.drop (k + 1)) s) := by
  unfold inT
  rw [str_eq, Bool.eq_iff_iff]
  simp only [decide_eq_true_eq, Bool.or_eq_true, ixS_mem]
  rw [List.drop_eq_getElem_cons h, List.mem_cons]
  exact ⟨fun h => h.imp (fun h => h.symm) id, fun h => h.imp (fun h => h.symm) id⟩
set_option maxRecDepth 100000 in
theorem hasText_any (L : List ByteArray) (v : ByteArray) (hm : L.length ≤ 1048576) (A : Option Addr) (c : Nat) (w : World) (hr : Reads w w.heap.size 1 A L.length (txC L)) :
    Calls Tryd.prog 25 #[.slice A L.length c, .string v] w fun e w' => e = .returned (.bool (inT L v)) ∧ Below w.heap.size w w' := by
  have HR := Lib.hid hr; clear hr
  have HD := Lib.hid (fun k (h : k < L.length) => inT_drop L v h)
  have HE := Lib.hid (show inT (L.drop L.length) v = false by rw [List.drop_length]; unfold inT; rw [decide_eq_false_iff_not, ixS_mem]; simp)
  obtain ⟨r, hr⟩ : ∃ r, inT L v = r := ⟨_, rfl⟩
  have H0 := Lib.hid (show inT (L.drop 0) v = r from hr)
  rw [hr]
  clear hr
  go_enter Tryd.func25, Tryd.ntmps25
  go_wp2_with fail
  go_loopw [5] (fun v5 wr => ∃ k : Nat, k ≤ L.length ∧ Hid (inT (L.drop k) v = r) ∧ Hid (Below w.heap.size w wr) ∧ v5 = .int .i64 k) (fun i _ => L.length - (intOf i).toNat)
  case atStart => exact ⟨0, by omega, H0.out, Below.refl _ _, rfl⟩
  case round =>
    obtain ⟨k, hk, HK, BW, rfl⟩ := hrel
    by_cases hlt : k < L.length
    · obtain ⟨ab, ao, rfl, hadb, hcell⟩ := (HR.out.below BW.out).2 (by omega)
      have c0 := hcell _ _ (txC_get L k hlt)
      have HN := Lib.hid ((HD.out k hlt).symm.trans HK.out)
      clear hcell
      generalize L[k] = x at c0 HN
      cases hq : (x.toList == v.toList)
      · have HK1 := Lib.hid (show inT (L.drop (k + 1)) v = r by have := HN.out; rw [hq, Bool.false_or] at this; exact this)
        clear HN HK
        go_wp2_with fail
        go_roundw
        case rel => exact ⟨k + 1, by omega, HK1.out, BW.out, by go_num⟩
        case measure => simp [intOf]; omega
      · have HR1 := Lib.hid (show true = r by have := HN.out; rw [hq, Bool.true_or] at this; exact this)
        clear HN HK
        go_wp2_with fail
        go_ret
        exact ⟨ret_bool HR1.out, BW.out⟩
    · obtain rfl : k = L.length := by omega
      have HR1 := Lib.hid (show false = r from HE.out.symm.trans HK.out)
      clear HK
      go_wp2_with fail
      go_ret
      exact ⟨ret_bool HR1.out, BW.out⟩
set_option maxRecDepth 100000 in
theorem big_any (A : Option Addr) (n c : Nat) (hn : n ≤ 9223372036854775807) (w : World) :
    Calls Tryd.prog 8 #[.slice A n c] w fun e w' => e = .returned (.bool (decide ((4096 : Int) < n))) ∧ w = w' := by
  go_enter Tryd.func8, Tryd.ntmps8
  go_wp2
  go_ret
  exact ⟨rfl, rfl⟩
end Go.Proofs.YtnbpbidflacoiaaDoor
