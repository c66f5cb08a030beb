/- The law's own helpers over steps: sizes, copies, comparisons. -/
import Derived.Test.YteeonojcihcfiaaDoorRows
import Derived.Test.YteeonojcihcfiaaDoorK9GA
import Derived.WalkKit
import Derived.ProofKit
import Derived.OpenShut
import Derived.BigQuiet
import Derived.Outline
import Derived.WalkSpells
import Derived.WalkLawsBesides
import Derived.Deep.DeepCutAuto
import Derived.Test.YteeonojcihcfiaaDoorK9A3
import Derived.Lib.Hide
namespace Go.Proofs.YteeonojcihcfiaaDoor
open Go.ChangeShapes Go.WideShapes Go.ChangeAt Go.RowKit

theorem sz_big (A : Option Addr) (n c : Nat) (hn : n ≤ 9223372036854775807) (h : 1048576 < n) (w : World) :
    Calls Tryd.prog 6 #[.slice A n c, .int .i64 1048576] w fun e w' => e = .returned (.int .i64 (-1)) ∧ w = w' := by
  go_enter Tryd.func6, Tryd.ntmps6
  go_wp2
  go_ret
  exact ⟨rfl, rfl⟩
theorem sz_small (A : Option Addr) (n c : Nat) (h : n ≤ 1048576) (w : World) :
    Calls Tryd.prog 6 #[.slice A n c, .int .i64 1048576] w fun e w' => e = .returned (.int .i64 (1048576 - n)) ∧ w = w' := by
  go_enter Tryd.func6, Tryd.ntmps6
  go_wp2
  go_ret
  exact ⟨rfl, rfl⟩

theorem toStep_any (d k : Int) (w : World) :
    Calls Tryd.prog 22 #[.agg #[.int .i64 d, .int .i64 k]] w fun e w' => e = .returned (.agg #[.int .i64 d, .int .i64 k]) ∧ Below w.heap.size w w' := by
  go_enter Tryd.func22, Tryd.ntmps22
  go_wp2
  refine bodyPost_ret (v := .agg #[.int .i64 d, .int .i64 k]) (by simp [results, Tryd.results22, go_sem]) rfl ⟨rfl, ?_⟩
  (repeat (first | exact Below.refl _ _ | assumption | refine Below.drew ?_ | refine below_drewN' ?_ _ | refine Below.alloc ?_ (by (try simp); (try omega)) _ | refine Below.setCell ?_ (by (try simp); (try omega)) _))
theorem eqStep_any (d k d' k' : Int) (w : World) :
    Calls Tryd.prog 25 #[.agg #[.int .i64 d, .int .i64 k], .agg #[.int .i64 d', .int .i64 k']] w fun e w' => e = .returned (.bool (decide (d = d' ∧ k = k'))) ∧ Below w.heap.size w w' := by
  go_enter Tryd.func25, Tryd.ntmps25
  go_wp2
  all_goals
    go_ret
    refine ⟨ret_bool ?_, ?_⟩
    · simp only [bne_iff_ne, bne_eq_false_iff_eq, ne_eq] at *; simp [*]
    · (repeat (first | exact Below.refl _ _ | assumption | refine Below.drew ?_ | refine below_drewN' ?_ _ | refine Below.alloc ?_ (by (try simp); (try omega)) _ | refine Below.setCell ?_ (by (try simp); (try omega)) _))

theorem info50 : (Tryd.prog.info? 41).map (fun i => (i.zero, i.size, i.bytes)) = some (some (.agg #[.int .i64 0, .int .i64 0]), 2, 16) := by kernel_rfl

set_option maxRecDepth 100000 in
theorem toStepS_any (xs : List Stp) (A : Option Addr) (c : Nat) (w : World) (hr : Reads w w.heap.size 2 A xs.length (stC xs)) (hm : xs.length ≤ 1048576) :
    Calls Tryd.prog 8 #[.slice A xs.length c] w fun e w' => e = .returned (.slice (some ⟨w.heap.size, 0, none⟩) xs.length xs.length) ∧ Blk w' w.heap.size 41 (stC xs).toArray ∧ Below w.heap.size w w' := by
  obtain ⟨i0, hi, hz, hsz, hby⟩ := info_parts info50
  have hmk := fun W => run_make_rowN (P := Tryd.prog) 26 41 i0 _ Tryd.underlying26 hi hz .i64 .i64 xs.length xs.length (Nat.le_refl _) (by rw [hby]; omega) (by omega) W
  go_enter Tryd.func8, Tryd.ntmps8
  go_wp2
  go_loopw [4] (fun v4 wr => ∃ k : Nat, k ≤ xs.length ∧ Copied wr w.heap.size 41 (k * 2) (stC xs) ∧ Below w.heap.size w wr ∧ v4 = .int .i64 k) (fun i _ => xs.length - (intOf i).toNat)
  case atStart => exact ⟨0, Nat.zero_le _, Copied.start w _ _ (by rw [size_madeCells, stC_len]), (Below.refl _ _).alloc (Nat.le_refl _) _, rfl⟩
  case round =>
    obtain ⟨k, hk, hcp, hb, rfl⟩ := hrel
    have hg := hcp.lt
    have hb' := (Below.refl wr.heap.size wr)
    by_cases hlt : k < xs.length
    · obtain ⟨ab, ao, rfl, hadb, hcell⟩ := (hr.below hb).2 (by omega)
      obtain ⟨e0, e1⟩ := stC_get xs k hlt
      have c0 := hcell _ _ e0
      have c1 := hcell _ _ e1
      rw [← Nat.add_assoc] at c1
      clear hcell hr
      obtain ⟨⟨u0, d0⟩, f0⟩ := hcp.cell (j := k * 2) (by rw [stC_len]; omega)
      obtain ⟨⟨u1, d1⟩, f1⟩ := hcp.cell (j := k * 2 + 1) (by rw [stC_len]; omega)
      have E0 := Lib.hid e0; clear e0
      have E1 := Lib.hid e1; clear e1
      go_wp2_with (go_at_call 22; refine (toStep_any _ _ _).mono ?_; rintro e w1 ⟨rfl, hb1⟩; obtain ⟨hc1, hf1⟩ := bcell hb1)
      go_roundw
      case rel => exact ⟨k + 1, by omega, by rw [show (k + 1) * 2 = k * 2 + 1 + 1 from by omega]; exact ((hcp.below hb1 hg).set_ E0.out).set_ E1.out, ((hb.trans (hb1.mono (by omega))).setCell (Nat.le_refl _) _).setCell (Nat.le_refl _) _, by go_num⟩
      case measure => simp [intOf]; omega
    · obtain rfl : k = xs.length := by omega
      go_wp2
      go_ret
      exact ⟨rfl, Copied.done (by rw [stC_len]; exact hcp), hb⟩
end Go.Proofs.YteeonojcihcfiaaDoor
