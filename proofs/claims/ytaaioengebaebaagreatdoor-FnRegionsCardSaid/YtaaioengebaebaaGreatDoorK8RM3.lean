/- The law's helpers over masks: sizes, copies, comparisons. -/
import Derived.Test.YtaaioengebaebaaGreatDoorRows
import Derived.Test.YtaaioengebaebaaGreatDoorK8GA
import Derived.WalkKit
import Derived.ProofKit
import Derived.OpenShut
import Derived.BigQuiet
import Derived.Outline
import Derived.WalkSpells
import Derived.WalkLawsBesides
import Derived.Deep.DeepCutAuto
import Derived.Test.YtaaioengebaebaaGreatDoorK8HF
import Derived.Test.YtaaioengebaebaaGreatDoorK8GG
namespace Go.Proofs.YtaaioengebaebaaGreatDoor
open Go.ChangeShapes Go.WideShapes Go.ChangeAt Go.RowKit Go.Sort

theorem bC_len (xs : List Bool) : (bC xs).length = xs.length * 1 := by simp [bC]
def szM (left : Int) (n : Nat) : Int := if left - n < 0 then -1 else left - n
theorem szBL_any (A : Option Addr) (n c : Nat) (left : Int) (h0 : 0 ≤ left) (h1 : left ≤ 1048576) (hn : n ≤ 9223372036854775807) (w : World) :
    Calls Tryz.prog 43 #[.slice A n c, .int .i64 left] w fun e w' => e = .returned (.int .i64 (szM left n)) ∧ w = w' := by
  unfold szM
  have hw : IntKind.i64.wrap (left - (n : Int)) = left - (n : Int) := IntWalk.i64_in _ (by omega)
  by_cases h : left - (n : Int) < 0
  · rw [if_pos h]
    go_enter Tryz.func43, Tryz.ntmps43
    go_wp2
    go_ret
    exact ⟨rfl, rfl⟩
  · rw [if_neg h]
    go_enter Tryz.func43, Tryz.ntmps43
    go_wp2
    go_ret
    exact ⟨rfl, rfl⟩
theorem szML_any (x y W H : Int) (A : Option Addr) (n c : Nat) (left : Int) (h0 : 0 ≤ left) (h1 : left ≤ 1048576) (hn : n ≤ 9223372036854775807) (w : World) :
    Calls Tryz.prog 10 #[maskV x y W H A n c, .int .i64 left] w fun e w' => e = .returned (.int .i64 (szM left n)) ∧ Below w.heap.size w w' := by
  have HB := Lib.hid (szBL_any A n c left h0 h1 hn)
  have hb : szM left n = -1 ∧ left - n < 0 ∨ szM left n = left - n ∧ ¬ left - n < 0 := by
    unfold szM; split
    · exact .inl ⟨rfl, by assumption⟩
    · exact .inr ⟨rfl, by assumption⟩
  generalize szM left n = r at HB hb ⊢
  unfold maskV
  rcases hb with ⟨h2, h3⟩ | ⟨h2, h3⟩
  · have hr : r < 0 := by omega
    go_enter Tryz.func10, Tryz.ntmps10
    go_wp2_with fail
    refine (HB.out _).mono ?_; rintro e w' ⟨rfl, rfl⟩
    go_wp2_with fail
    go_ret
    exact ⟨by rw [h2]; rfl, by (repeat (first | exact Below.refl _ _ | assumption | refine Below.drew ?_ | refine below_drewN' ?_ _ | refine Below.alloc ?_ (by (try simp); (try omega)) _ | refine Below.setCell ?_ (by (try simp); (try omega)) _))⟩
  · have hr : ¬ r < 0 := by omega
    go_enter Tryz.func10, Tryz.ntmps10
    go_wp2_with fail
    refine (HB.out _).mono ?_; rintro e w' ⟨rfl, rfl⟩
    go_wp2_with fail
    go_ret
    exact ⟨by rw [h2]; rfl, by (repeat (first | exact Below.refl _ _ | assumption | refine Below.drew ?_ | refine below_drewN' ?_ _ | refine Below.alloc ?_ (by (try simp); (try omega)) _ | refine Below.setCell ?_ (by (try simp); (try omega)) _))⟩
theorem toPoint_any (d k : Int) (w : World) :
    Calls Tryz.prog 49 #[.agg #[.int .i64 d, .int .i64 k]] w fun e w' => e = .returned (.agg #[.int .i64 d, .int .i64 k]) ∧ Below w.heap.size w w' := by
  go_enter Tryz.func49, Tryz.ntmps49
  go_wp2
  refine bodyPost_ret (v := .agg #[.int .i64 d, .int .i64 k]) (by simp [results, Tryz.results49, go_sem]) rfl ⟨rfl, ?_⟩
  (repeat (first | exact Below.refl _ _ | assumption | refine Below.drew ?_ | refine below_drewN' ?_ _ | refine Below.alloc ?_ (by (try simp); (try omega)) _ | refine Below.setCell ?_ (by (try simp); (try omega)) _))
theorem eqPoint_same (d k : Int) (w : World) :
    Calls Tryz.prog 16 #[.agg #[.int .i64 d, .int .i64 k], .agg #[.int .i64 d, .int .i64 k]] w fun e w' => e = .returned (.bool true) ∧ Below w.heap.size w w' := by
  go_enter Tryz.func16, Tryz.ntmps16
  go_wp2
  go_ret
  exact ⟨rfl, by (repeat (first | exact Below.refl _ _ | assumption | refine Below.drew ?_ | refine below_drewN' ?_ _ | refine Below.alloc ?_ (by (try simp); (try omega)) _ | refine Below.setCell ?_ (by (try simp); (try omega)) _))⟩
theorem infoBool : (Tryz.prog.info? 4).map (fun i => (i.zero, i.size, i.bytes)) = some (some (.bool false), 1, 1) := by kernel_rfl
set_option maxRecDepth 100000 in
theorem toBoolS_any (xs : List Bool) (A : Option Addr) (c : Nat) (w : World) (hr : Reads w w.heap.size 1 A xs.length (bC xs)) (hm : xs.length ≤ 1048576) :
    Calls Tryz.prog 50 #[.slice A xs.length c] w fun e w' => e = .returned (.slice (some ⟨w.heap.size, 0, none⟩) xs.length xs.length) ∧ Blk w' w.heap.size 4 (bC xs).toArray ∧ Below w.heap.size w w' := by
  obtain ⟨i0, hi, hz, hsz, hby⟩ := info_parts infoBool
  have hmk := fun W => run_make_rowN (P := Tryz.prog) 26 4 i0 _ Tryz.underlying26 hi hz .i64 .i64 xs.length xs.length (Nat.le_refl _) (by rw [hby]; omega) (by omega) W
  go_enter Tryz.func50, Tryz.ntmps50
  go_wp2
  go_loopw [4] (fun v4 wr => ∃ k : Nat, k ≤ xs.length ∧ Copied wr w.heap.size 4 k (bC xs) ∧ Below w.heap.size w wr ∧ v4 = .int .i64 k) (fun i _ => xs.length - (intOf i).toNat)
  case atStart => exact ⟨0, Nat.zero_le _, Copied.start w _ _ (by rw [size_madeCells, bC_len]; omega), (Below.refl _ _).alloc (Nat.le_refl _) _, rfl⟩
  case round =>
    obtain ⟨k, hk, hcp, hb, rfl⟩ := hrel
    have hg := hcp.lt
    by_cases hlt : k < xs.length
    · obtain ⟨ab, ao, rfl, hadb, hcell⟩ := (hr.below hb).2 (by omega)
      have e0 := bC_get xs k hlt
      have c0 := hcell _ _ e0
      clear hcell hr
      obtain ⟨⟨u0, d0⟩, f0⟩ := hcp.cell (j := k) (by rw [bC_len]; omega)
      have E0 := Lib.hid e0; clear e0
      go_wp2_with fail
      go_roundw
      case rel => exact ⟨k + 1, by omega, hcp.set_ E0.out, hb.setCell (Nat.le_refl _) _, by go_num⟩
      case measure => simp [intOf]; omega
    · obtain rfl : k = xs.length := by omega
      go_wp2
      go_ret
      exact ⟨rfl, Copied.done (by rw [bC_len, Nat.mul_one]; exact hcp), hb⟩
set_option maxRecDepth 100000 in
theorem eqBoolS_same (L : List Bool) (n : Nat) (hl : L.length = n) (A A' : Option Addr) (c c' : Nat) (w : World) (hr : Reads w w.heap.size 1 A n (bC L)) (hr' : Reads w w.heap.size 1 A' n (bC L)) (hm : n ≤ 9223372036854775807) :
    Calls Tryz.prog 57 #[.slice A n c, .slice A' n c'] w fun e w' => e = .returned (.bool true) ∧ Below w.heap.size w w' := by
  have HL := Lib.hid hl; clear hl
  have HR := Lib.hid hr; have HR' := Lib.hid hr'; clear hr hr'
  go_enter Tryz.func57, Tryz.ntmps57
  go_wp2_with fail
  go_loopw [5] (fun v5 wr => ∃ k : Nat, k ≤ n ∧ Below w.heap.size w wr ∧ v5 = .int .i64 k) (fun i _ => n - (intOf i).toNat)
  case atStart => exact ⟨0, Nat.zero_le _, Below.refl _ _, rfl⟩
  case round =>
    obtain ⟨k, hk, hb, rfl⟩ := hrel
    by_cases hlt : k < n
    · obtain ⟨ab, ao, rfl, hadb, hcell⟩ := (HR.out.below hb).2 (by omega)
      obtain ⟨ab', ao', rfl, hadb', hcell'⟩ := (HR'.out.below hb).2 (by omega)
      have c0 := hcell _ _ (bC_get L k (by rw [HL.out]; exact hlt))
      have c0' := hcell' _ _ (bC_get L k (by rw [HL.out]; exact hlt))
      have hlt' : (k : Int) < (n : Int) := by omega
      clear hcell hcell'
      go_wp2_with fail
      go_quiet (fail)
      go_wp2_with fail
      go_roundw
      case rel => exact ⟨k + 1, by omega, below_drewN' hb _, by go_num⟩
      case measure => simp [intOf]; omega
    · obtain rfl : k = n := by omega
      go_wp2_with fail
      go_ret
      exact ⟨rfl, hb⟩
set_option maxRecDepth 100000 in
set_option maxHeartbeats 4000000 in
theorem toMask_any (x y W H : Int) (xs : List Bool) (A : Option Addr) (c : Nat) (w : World) (hr : Reads w w.heap.size 1 A xs.length (bC xs)) (hm : xs.length ≤ 1048576) :
    Calls Tryz.prog 14 #[maskV x y W H A xs.length c] w fun e w' => ∃ g : Nat, e = .returned (maskV x y W H (some ⟨g, 0, none⟩) xs.length xs.length) ∧ Blk w' g 4 (bC xs).toArray ∧ Below w.heap.size w w' := by
  unfold maskV
  have HR := Lib.hid hr; clear hr
  go_enter Tryz.func14, Tryz.ntmps14
  go_wp2_with (go_at_call 49; refine (toPoint_any _ _ _).mono ?_; rintro e w1 ⟨rfl, b1⟩; obtain ⟨q1, q2⟩ := bcell b1; have z1 := b1.size; simp at z1)
  have y0 : w.heap.size < w1.heap.size := by omega
  have y1 : w.heap.size + 1 < w1.heap.size := by omega
  have y2 : w.heap.size + 1 + 1 < w1.heap.size := by omega
  have hb1 : Below w.heap.size w w1 := ((((Below.refl _ _).alloc (Nat.le_refl _) _).alloc (by simp) _).alloc (by simp; omega) _).trans (b1.mono (by simp; omega))
  clear b1
  have hb3 : Below w.heap.size w ((((w1.setCell ⟨w.heap.size + 1 + 1, 0, none⟩ (.int .i64 x)).setCell ⟨w.heap.size + 1 + 1, 1, none⟩ (.int .i64 y)).setCell ⟨w.heap.size + 1 + 1, 2, none⟩ (.int .i64 W)).setCell ⟨w.heap.size + 1 + 1, 3, none⟩ (.int .i64 H)) := by
    refine (((hb1.setCell ?_ _).setCell ?_ _).setCell ?_ _).setCell ?_ _ <;> (simp; try omega)
  refine (toBoolS_any xs A c _ ((HR.out.below hb3).more hb3.size) hm).mono ?_
  rintro e w5 ⟨rfl, h5, b5⟩
  obtain ⟨q3, q4⟩ := bcell b5
  have hb5 := hb3.trans (b5.mono hb3.size)
  clear b5 hb3 hb1
  simp only [World.size_setCell] at h5 hb5 q3 q4 ⊢
  have H5 := Lib.hid h5; clear h5
  have HB5 := Lib.hid hb5; clear hb5
  go_wp2_with fail
  refine bodyPost_ret (v := .agg #[.int .i64 x, .int .i64 y, .int .i64 W, .int .i64 H, .slice (some ⟨w1.heap.size, 0, none⟩) xs.length xs.length]) (by simp [results, Tryz.results14, go_sem, *]) rfl ⟨w1.heap.size, rfl, ?_, ?_⟩
  · exact (((((H5.out.far (by simp; omega) _).far (by simp; omega) _).far (by simp; omega) _).far (by simp; omega) _).far (by simp; omega) _).far (by simp; omega) _
  · exact (((((HB5.out.setCell (by simp; omega) _).setCell (by simp) _).setCell (by simp) _).setCell (by simp) _).setCell (by simp) _).setCell (by simp) _
set_option maxRecDepth 100000 in
set_option maxHeartbeats 4000000 in
theorem eqMask_same (x y W H : Int) (xs : List Bool) (A A' : Option Addr) (c c' : Nat) (w : World) (hr : Reads w w.heap.size 1 A xs.length (bC xs)) (hr' : Reads w w.heap.size 1 A' xs.length (bC xs)) (hm : xs.length ≤ 9223372036854775807) :
    Calls Tryz.prog 19 #[maskV x y W H A xs.length c, maskV x y W H A' xs.length c'] w fun e w' => e = .returned (.bool true) ∧ Below w.heap.size w w' := by
  unfold maskV
  have RR : ∀ W, Below w.heap.size w W → Reads W W.heap.size 1 A xs.length (bC xs) := fun W hb => (hr.below hb).more hb.size
  have RR' : ∀ W, Below w.heap.size w W → Reads W W.heap.size 1 A' xs.length (bC xs) := fun W hb => (hr'.below hb).more hb.size
  have HR := Lib.hid RR; have HR' := Lib.hid RR'; clear hr hr' RR RR'
  go_enter Tryz.func19, Tryz.ntmps19
  go_wp2_with (go_at_call 16; refine (eqPoint_same _ _ _).mono ?_; rintro e w1 ⟨rfl, b1⟩; have BW := Lib.hid b1; obtain ⟨q1, q2⟩ := bcell b1; have z1 := b1.size; simp at z1; clear b1)
  have hb1 : Below w.heap.size w w1 := (((Below.refl _ _).alloc (Nat.le_refl _) _).alloc (by simp) _).trans (BW.out.mono (by simp; omega))
  refine (eqBoolS_same xs xs.length rfl _ _ _ _ _ (HR.out _ hb1) (HR'.out _ hb1) hm).mono ?_
  rintro e w2 ⟨rfl, b2⟩
  have HB := Lib.hid (hb1.trans (b2.mono hb1.size)); clear b2
  go_wp2_with fail
  go_ret
  exact ⟨rfl, HB.out⟩
end Go.Proofs.YtaaioengebaebaaGreatDoor
