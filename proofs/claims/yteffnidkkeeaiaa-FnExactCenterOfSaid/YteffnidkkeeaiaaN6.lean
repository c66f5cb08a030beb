/- The law's helpers over masks and points. -/
import Derived.Test.YteffnidkkeeaiaaRows
import Derived.Test.YteffnidkkeeaiaaL0
import Derived.Test.YteffnidkkeeaiaaM0
import Derived.WalkKit
import Derived.ProofKit
import Derived.OpenShut
import Derived.BigQuiet
import Derived.Outline
import Derived.WalkSpells
import Derived.WalkLawsBesides
import Derived.Deep.DeepCutAuto
import Derived.Test.YteffnidkkeeaiaaN5
import Derived.Test.YteffnidkkeeaiaaD1
import Derived.Test.YteffnidkkeeaiaaC5
namespace Go.Proofs.Yteffnidkkeeaiaa
open Go.ChangeShapes Go.WideShapes Go.ChangeAt Go.RowKit Go.Sort

theorem bC_len (xs : List Bool) : (bC xs).length = xs.length * 1 := by simp [bC]
theorem szB_big (A : Option Addr) (n c : Nat) (hn : n ≤ 9223372036854775807) (h : 1048576 < n) (w : World) :
    Calls Try.prog 50 #[.slice A n c, .int .i64 1048576] w fun e w' => e = .returned (.int .i64 (-1)) ∧ w = w' := by
  go_enter Try.func50, Try.ntmps50
  go_wp2
  go_ret
  exact ⟨rfl, rfl⟩
theorem szB_small (A : Option Addr) (n c : Nat) (h : n ≤ 1048576) (w : World) :
    Calls Try.prog 50 #[.slice A n c, .int .i64 1048576] w fun e w' => e = .returned (.int .i64 (1048576 - n)) ∧ w = w' := by
  go_enter Try.func50, Try.ntmps50
  go_wp2
  go_ret
  exact ⟨rfl, rfl⟩
theorem szM_big (x y W H : Int) (A : Option Addr) (n c : Nat) (hn : n ≤ 9223372036854775807) (h : 1048576 < n) (w : World) :
    Calls Try.prog 13 #[maskV x y W H A n c, .int .i64 1048576] w fun e w' => e = .returned (.int .i64 (-1)) ∧ Below w.heap.size w w' := by
  unfold maskV
  go_enter Try.func13, Try.ntmps13
  go_wp2_with (go_at_call 50; refine (szB_big _ _ _ hn h _).mono ?_; rintro e w' ⟨rfl, rfl⟩)
  go_ret
  exact ⟨rfl, by (repeat (first | exact Below.refl _ _ | assumption | refine Below.drew ?_ | refine below_drewN' ?_ _ | refine Below.alloc ?_ (by (try simp); (try omega)) _ | refine Below.setCell ?_ (by (try simp); (try omega)) _))⟩
theorem szM_small (x y W H : Int) (A : Option Addr) (n c : Nat) (h : n ≤ 1048576) (w : World) :
    Calls Try.prog 13 #[maskV x y W H A n c, .int .i64 1048576] w fun e w' => e = .returned (.int .i64 (1048576 - n)) ∧ Below w.heap.size w w' := by
  unfold maskV
  go_enter Try.func13, Try.ntmps13
  go_wp2_with (go_at_call 50; refine (szB_small _ _ _ h _).mono ?_; rintro e w' ⟨rfl, rfl⟩)
  go_ret
  exact ⟨rfl, by (repeat (first | exact Below.refl _ _ | assumption | refine Below.drew ?_ | refine below_drewN' ?_ _ | refine Below.alloc ?_ (by (try simp); (try omega)) _ | refine Below.setCell ?_ (by (try simp); (try omega)) _))⟩

theorem toPoint_any (d k : Int) (w : World) :
    Calls Try.prog 54 #[.agg #[.int .i64 d, .int .i64 k]] w fun e w' => e = .returned (.agg #[.int .i64 d, .int .i64 k]) ∧ Below w.heap.size w w' := by
  go_enter Try.func54, Try.ntmps54
  go_wp2
  refine bodyPost_ret (v := .agg #[.int .i64 d, .int .i64 k]) (by simp [results, Try.results54, go_sem]) rfl ⟨rfl, ?_⟩
  (repeat (first | exact Below.refl _ _ | assumption | refine Below.drew ?_ | refine below_drewN' ?_ _ | refine Below.alloc ?_ (by (try simp); (try omega)) _ | refine Below.setCell ?_ (by (try simp); (try omega)) _))
theorem eqPoint_same (d k : Int) (w : World) :
    Calls Try.prog 17 #[.agg #[.int .i64 d, .int .i64 k], .agg #[.int .i64 d, .int .i64 k]] w fun e w' => e = .returned (.bool true) ∧ Below w.heap.size w w' := by
  go_enter Try.func17, Try.ntmps17
  go_wp2
  go_ret
  exact ⟨rfl, by (repeat (first | exact Below.refl _ _ | assumption | refine Below.drew ?_ | refine below_drewN' ?_ _ | refine Below.alloc ?_ (by (try simp); (try omega)) _ | refine Below.setCell ?_ (by (try simp); (try omega)) _))⟩

theorem infoBool : (Try.prog.info? 4).map (fun i => (i.zero, i.size, i.bytes)) = some (some (.bool false), 1, 1) := by kernel_rfl
set_option maxRecDepth 100000 in
theorem toBoolS_any (xs : List Bool) (A : Option Addr) (c : Nat) (w : World) (hr : Reads w w.heap.size 1 A xs.length (bC xs)) (hm : xs.length ≤ 1048576) :
    Calls Try.prog 55 #[.slice A xs.length c] w fun e w' => e = .returned (.slice (some ⟨w.heap.size, 0, none⟩) xs.length xs.length) ∧ Blk w' w.heap.size 4 (bC xs).toArray ∧ Below w.heap.size w w' := by
  obtain ⟨i0, hi, hz, hsz, hby⟩ := info_parts infoBool
  have hmk := fun W => run_make_rowN (P := Try.prog) 24 4 i0 _ Try.underlying24 hi hz .i64 .i64 xs.length xs.length (Nat.le_refl _) (by rw [hby]; omega) (by omega) W
  go_enter Try.func55, Try.ntmps55
  go_wp2
  go_loopw [4] (fun v4 wr => ∃ k : Nat, k ≤ xs.length ∧ Copied wr w.heap.size 4 k (bC xs) ∧ Below w.heap.size w wr ∧ v4 = .int .i64 k) (fun i _ => xs.length - (intOf i).toNat)
  case atStart => exact ⟨0, Nat.zero_le _, Copied.start w _ _ (by rw [size_madeCells, bC_len]; omega), (Below.refl _ _).alloc (Nat.le_refl _) _, rfl⟩
  case round =>
    obtain ⟨k, hk, hcp, hb, rfl⟩ := hrel
    have hg := hcp.lt
    by_cases hlt : k < xs.length
    · obtain ⟨ab, ao, rfl, hadb, hcell⟩ := (hr.below hb).2 (by omega)
      have e0 := bC_get xs k hlt
      have c0 := hcell _ _ e0
      clear hcell hr
      obtain ⟨⟨u0, d0⟩, f0⟩ := hcp.cell (j := k) (by rw [bC_len]; omega)
      have E0 := Lib.hid e0; clear e0
      go_wp2_with fail
      go_roundw
      case rel => exact ⟨k + 1, by omega, hcp.set_ E0.out, hb.setCell (Nat.le_refl _) _, by go_num⟩
      case measure => simp [intOf]; omega
    · obtain rfl : k = xs.length := by omega
      go_wp2
      go_ret
      exact ⟨rfl, Copied.done (by rw [bC_len, Nat.mul_one]; exact hcp), hb⟩

set_option maxRecDepth 100000 in
theorem eqBoolS_same (L : List Bool) (n : Nat) (hl : L.length = n) (A A' : Option Addr) (c c' : Nat) (w : World) (hr : Reads w w.heap.size 1 A n (bC L)) (hr' : Reads w w.heap.size 1 A' n (bC L)) (hm : n ≤ 9223372036854775807) :
    Calls Try.prog 59 #[.slice A n c, .slice A' n c'] w fun e w' => e = .returned (.bool true) ∧ Below w.heap.size w w' := by
  have HL := Lib.hid hl; clear hl
  have HR := Lib.hid hr; have HR' := Lib.hid hr'; clear hr hr'
  go_enter Try.func59, Try.ntmps59
  go_wp2_with fail
  go_loopw [5] (fun v5 wr => ∃ k : Nat, k ≤ n ∧ Below w.heap.size w wr ∧ v5 = .int .i64 k) (fun i _ => n - (intOf i).toNat)
  case atStart => exact ⟨0, Nat.zero_le _, Below.refl _ _, rfl⟩
  case round =>
    obtain ⟨k, hk, hb, rfl⟩ := hrel
    by_cases hlt : k < n
    · obtain ⟨ab, ao, rfl, hadb, hcell⟩ := (HR.out.below hb).2 (by omega)
      obtain ⟨ab', ao', rfl, hadb', hcell'⟩ := (HR'.out.below hb).2 (by omega)
      have c0 := hcell _ _ (bC_get L k (by rw [HL.out]; exact hlt))
      have c0' := hcell' _ _ (bC_get L k (by rw [HL.out]; exact hlt))
      have hlt' : (k : Int) < (n : Int) := by omega
      clear hcell hcell'
      go_wp2_with fail
      go_quiet (fail)
      go_wp2_with fail
      go_roundw
      case rel => exact ⟨k + 1, by omega, below_drewN' hb _, by go_num⟩
      case measure => simp [intOf]; omega
    · obtain rfl : k = n := by omega
      go_wp2_with fail
      go_ret
      exact ⟨rfl, hb⟩
end Go.Proofs.Yteffnidkkeeaiaa
