/- The law's helpers over slices of int64: comparison, marks. -/
import Derived.Test.YthlpclnfnfbeiaaDoorRows
import Derived.Test.YthlpclnfnfbeiaaDoorL0
import Derived.Test.YthlpclnfnfbeiaaDoorM0
import Derived.WalkKit
import Derived.ProofKit
import Derived.OpenShut
import Derived.BigQuiet
import Derived.Outline
import Derived.WalkSpells
import Derived.WalkLawsBesides
import Derived.Deep.DeepCutAuto
import Derived.Test.YthlpclnfnfbeiaaDoorI0
import Derived.Deep.QuietTactic
import Derived.Lib.Hide
namespace Go.Proofs.YthlpclnfnfbeiaaDoor
open Go.ChangeShapes Go.WideShapes Go.ChangeAt Go.RowKit

theorem take_step {α : Type} {xs ys : List α} {k : Nat} (hl : xs.length = ys.length) (hlt : k < xs.length) (ht : xs.take k = ys.take k) (h1 : xs[k] = ys[k]) : xs.take (k + 1) = ys.take (k + 1) := by
  rw [List.take_succ_eq_append_getElem hlt, List.take_succ_eq_append_getElem (by omega), ht, h1]

set_option maxRecDepth 100000 in
theorem eqInt64S_same (L : List Int) (n : Nat) (hl : L.length = n) (A A' : Option Addr) (c c' : Nat) (w : World) (hr : Reads w w.heap.size 1 A n (inC L)) (hr' : Reads w w.heap.size 1 A' n (inC L)) (hm : n ≤ 9223372036854775807) :
    Calls Tryd.prog 12 #[.slice A n c, .slice A' n c'] w fun e w' => e = .returned (.bool true) ∧ Below w.heap.size w w' := by
  have HL := Lib.hid hl; clear hl
  have HR := Lib.hid hr; have HR' := Lib.hid hr'; clear hr hr'
  go_enter Tryd.func12, Tryd.ntmps12
  go_wp2_with fail
  go_loopw [5] (fun v5 wr => ∃ k : Nat, k ≤ n ∧ Below w.heap.size w wr ∧ v5 = .int .i64 k) (fun i _ => n - (intOf i).toNat)
  case atStart => exact ⟨0, Nat.zero_le _, Below.refl _ _, rfl⟩
  case round =>
    obtain ⟨k, hk, hb, rfl⟩ := hrel
    by_cases hlt : k < n
    · obtain ⟨ab, ao, rfl, hadb, hcell⟩ := (HR.out.below hb).2 (by omega)
      obtain ⟨ab', ao', rfl, hadb', hcell'⟩ := (HR'.out.below hb).2 (by omega)
      have c0 := hcell _ _ (inC_get L k (by rw [HL.out]; exact hlt))
      have c0' := hcell' _ _ (inC_get L k (by rw [HL.out]; exact hlt))
      have hlt' : (k : Int) < (n : Int) := by omega
      clear hcell hcell'
      go_wp2_with fail
      go_quiet (fail)
      go_wp2_with fail
      go_roundw
      case rel => exact ⟨k + 1, by omega, below_drewN' hb _, by go_num⟩
      case measure => simp [intOf]; omega
    · obtain rfl : k = n := by omega
      go_wp2_with fail
      go_ret
      exact ⟨rfl, hb⟩

/-- n marks, the numbers from k0 on. -/
def marksI (k0 : Int) : Nat → List Int
  | 0 => []
  | n + 1 => marksI k0 n ++ [k0 + n]
theorem marksI_len (k0 : Int) (n : Nat) : (marksI k0 n).length = n := by
  induction n with
  | zero => rfl
  | succ n ih => simp [marksI, ih]
theorem marksI_get (k0 : Int) (n : Nat) : ∀ k (h : k < (marksI k0 n).length), (marksI k0 n)[k] = k0 + k := by
  induction n with
  | zero => intro k h; simp [marksI] at h
  | succ n ih =>
    intro k h
    simp only [marksI]
    by_cases hk : k < (marksI k0 n).length
    · rw [List.getElem_append_left hk]; exact ih k hk
    · have : k = n := by rw [marksI_len] at h hk; omega
      subst this
      rw [List.getElem_append_right (by rw [marksI_len]; omega)]
      simp
set_option maxRecDepth 100000 in
theorem markInt64S_any (xs : List Int) (base : Nat) (A : Option Addr) (n c : Nat) (k0 : Int) (w : World) (hown : w.ownsRow base 2 1 (.slice A n c) n (inC xs)) (hl : xs.length = n) (hn : n ≤ 2097152) (h0 : 0 ≤ k0) (h1 : k0 ≤ 1099511627776) :
    Calls Tryd.prog 15 #[.slice A n c, .int .i64 k0] w fun e w' => e = .returned (.int .i64 (k0 + n)) ∧ w'.ownsRow base 2 1 (.slice A n c) n (inC (marksI k0 n)) ∧ w.grownBy w' (Value.ownBlock (.slice A n c)) := by
  rcases Nat.eq_zero_or_pos n with hz | hp
  · subst hz
    have hx : xs = [] := List.eq_nil_of_length_eq_zero hl
    subst hx
    have HO := Lib.hid hown; clear hown hl
    go_enter Tryd.func15, Tryd.ntmps15
    go_wp2_with fail
    refine wp_loop_rounds 1 ?_; rw [rounds_succ]
    go_wp2_with fail
    go_ret
    exact ⟨ret_int (by simp), HO.out, World.grownBy.refl w _⟩
  · obtain ⟨g, cap, hv, hbg, hgl⟩ := hown.form hp
    simp only [Value.slice.injEq, true_and] at hv
    obtain ⟨rfl, rfl⟩ := hv
    have HO := Lib.hid hown; clear hown
    have HL := Lib.hid hl; clear hl
    go_enter Tryd.func15, Tryd.ntmps15
    go_wp2_with fail
    go_loopw [1, 5] (fun v1 v5 wr => ∃ k : Nat, k ≤ n ∧ Hid (wr.ownsRow base 2 1 (.slice (some ⟨g, 0, none⟩) n c) n (inC (marksI k0 k ++ xs.drop k))) ∧ w.grownBy wr (some g) ∧ v1 = .int .i64 (k0 + k) ∧ v5 = .int .i64 k) (fun _ i _ => n - (intOf i).toNat)
    case atStart => exact ⟨0, Nat.zero_le _, by simpa [marksI] using HO, World.grownBy.refl w _, by simp, rfl⟩
    case round =>
      obtain ⟨k, hk, HW, hg, rfl, rfl⟩ := hrel
      by_cases hlt : k < n
      · have hlx : k < xs.length := by rw [HL.out]; exact hlt
        have hd : xs.drop k = xs[k] :: xs.drop (k + 1) := List.drop_eq_getElem_cons hlx
        have hlen : (inC (marksI k0 k ++ xs.drop k)).length = n * 1 := HW.out.1
        have q0 := HW.out.cellAt k (by omega)
        rw [List.getElem?_eq_getElem (by omega)] at q0
        have f0 := HW.out.frozenAt k
        generalize (inC (marksI k0 k ++ xs.drop k))[k]'(by omega) = u0 at q0
        have s1 := HW.out.stored k (.int .i64 (k0 + k))
        have e := inC_set (marksI k0 k) (xs.drop (k + 1)) xs[k] (k0 + k)
        rw [marksI_len, ← hd] at e
        rw [e] at s1
        have HS1 := Lib.hid (hg.trans s1.2); have HS2 := Lib.hid s1.1
        clear s1 e hd hlen hg
        go_wp2_with fail
        go_roundw
        case rel => exact ⟨k + 1, by omega, by simpa [marksI, Hid] using HS2.out, HS1.out, by congr 1; omega, by go_num⟩
        case measure => simp [intOf]; omega
      · obtain rfl : k = n := by omega
        have HX := Lib.hid (show xs.drop k = [] from List.drop_eq_nil_of_le (by rw [HL.out]; omega))
        go_wp2_with fail
        go_ret
        exact ⟨rfl, by have := HW.out; rwa [HX.out, List.append_nil] at this, hg⟩

set_option maxRecDepth 100000 in
theorem heldInt64S_any (B : Nat) (A : Option Addr) (n c : Nat) (k0 : Int) (w : World) (hr : Reads w B 1 A n (inC (marksI k0 n))) (hn : n ≤ 2097152) (h0 : 0 ≤ k0) (h1 : k0 ≤ 1099511627776) :
    Calls Tryd.prog 16 #[.slice A n c, .int .i64 k0] w fun e w' => e = .returned (.int .i64 (k0 + n)) ∧ w = w' := by
  have HR := Lib.hid hr; clear hr
  go_enter Tryd.func16, Tryd.ntmps16
  go_wp2_with fail
  go_loopw [1, 5] (fun v1 v5 wr => ∃ k : Nat, k ≤ n ∧ w = wr ∧ v1 = .int .i64 (k0 + k) ∧ v5 = .int .i64 k) (fun _ i _ => n - (intOf i).toNat)
  case atStart => exact ⟨0, Nat.zero_le _, rfl, by simp, rfl⟩
  case round =>
    obtain ⟨k, hk, rfl, rfl, rfl⟩ := hrel
    by_cases hlt : k < n
    · obtain ⟨ab, ao, rfl, hadb, hcell⟩ := HR.out.2 (by omega)
      have hkl : k < (marksI k0 n).length := by rw [marksI_len]; exact hlt
      have e0 := inC_get (marksI k0 n) k hkl
      rw [marksI_get k0 n k hkl] at e0
      have c0 := hcell _ _ e0
      clear hcell e0
      go_wp2_with fail
      go_roundw
      case rel => exact ⟨k + 1, by omega, by first | trivial | rfl, by congr 1; omega, by go_num⟩
      case measure => simp [intOf]; omega
    · obtain rfl : k = n := by omega
      go_wp2_with fail
      go_ret
      exact ⟨rfl, rfl⟩
end Go.Proofs.YthlpclnfnfbeiaaDoor
