/- Description: their cells; the law's own helpers over them: sizes, copies, comparisons. -/
import Derived.Test.YtaaioengebaebaaGreatDoorRows
import Derived.Test.YtaaioengebaebaaGreatDoorK8GA
import Derived.WalkKit
import Derived.ProofKit
import Derived.OpenShut
import Derived.BigQuiet
import Derived.Outline
import Derived.WalkSpells
import Derived.WalkLawsBesides
import Derived.Deep.DeepCutAuto
import Derived.Lib.Hide
import Derived.StillTailTactics
import Derived.Test.YtaaioengebaebaaGreatDoorK8Q0
namespace Go.Proofs.YtaaioengebaebaaGreatDoor
open Go.ChangeShapes Go.WideShapes Go.ChangeAt Go.RowKit

def Dsc.cells (b : Dsc) : List Value := [.int .i64 b.kind, .int .i64 b.count, .string b.unit, .int .i64 b.dir, .string b.a, .string b.b]
def dsC (xs : List Dsc) : List Value := xs.flatMap Dsc.cells
theorem dsC_len (xs : List Dsc) : (dsC xs).length = xs.length * 6 := by
  induction xs with
  | nil => rfl
  | cons x r ih => simp [dsC, Dsc.cells] at *; omega
theorem dsC_get (xs : List Dsc) (k : Nat) (h : k < xs.length) : (dsC xs)[k * 6]? = some (.int .i64 xs[k].kind) ∧ (dsC xs)[k * 6 + 1]? = some (.int .i64 xs[k].count) ∧ (dsC xs)[k * 6 + 2]? = some (.string xs[k].unit) ∧ (dsC xs)[k * 6 + 3]? = some (.int .i64 xs[k].dir) ∧ (dsC xs)[k * 6 + 4]? = some (.string xs[k].a) ∧ (dsC xs)[k * 6 + 5]? = some (.string xs[k].b) := by
  induction xs generalizing k with
  | nil => simp at h
  | cons x r ih =>
    cases k with
    | zero => simp [dsC, Dsc.cells]
    | succ k =>
      obtain ⟨i0, i1, i2, i3, i4, i5⟩ := ih k (by simpa using h)
      simp only [dsC, List.flatMap_cons, Dsc.cells] at i0 i1 i2 i3 i4 i5 ⊢
      refine ⟨?_, ?_, ?_, ?_, ?_, ?_⟩
      · rw [show (k + 1) * 6 = k * 6 + 1 + 1 + 1 + 1 + 1 + 1 from by omega]; simpa using i0
      · rw [show (k + 1) * 6 + 1 = k * 6 + 1 + 1 + 1 + 1 + 1 + 1 + 1 from by omega]; simpa using i1
      · rw [show (k + 1) * 6 + 2 = k * 6 + 2 + 1 + 1 + 1 + 1 + 1 + 1 from by omega]; simpa using i2
      · rw [show (k + 1) * 6 + 3 = k * 6 + 3 + 1 + 1 + 1 + 1 + 1 + 1 from by omega]; simpa using i3
      · rw [show (k + 1) * 6 + 4 = k * 6 + 4 + 1 + 1 + 1 + 1 + 1 + 1 from by omega]; simpa using i4
      · rw [show (k + 1) * 6 + 5 = k * 6 + 5 + 1 + 1 + 1 + 1 + 1 + 1 from by omega]; simpa using i5
theorem dsC_one (xs : List Dsc) : ∀ u ∈ dsC xs, u.oneCell' = true := by
  intro u hu
  simp only [dsC, List.mem_flatMap] at hu
  obtain ⟨s, _, h⟩ := hu
  simp [Dsc.cells] at h
  rcases h with rfl | rfl | rfl | rfl | rfl | rfl <;> rfl

/-- What is left of the size: -1 if it is too large. -/
def szDsc (left : Int) (b : Dsc) : Int := if left - b.unit.size < 0 then -1 else if left - b.unit.size - b.a.size < 0 then -1 else if left - b.unit.size - b.a.size - b.b.size < 0 then -1 else left - b.unit.size - b.a.size - b.b.size
theorem szDsc_pos {left : Int} {b : Dsc} (h : 0 ≤ szDsc left b) : (b.unit.size : Int) ≤ left ∧ (b.a.size : Int) ≤ left ∧ (b.b.size : Int) ≤ left ∧ szDsc left b ≤ left := by
  unfold szDsc at h ⊢
  repeat' split at h
  all_goals first | omega | (simp only [*, if_false]; omega)
def szDscTo (left : Int) : List Dsc → Int
  | [] => left
  | b :: r => if szDsc left b < 0 then -1 else szDscTo (szDsc left b) r
def szDscS (left : Int) (xs : List Dsc) : Int := if left - xs.length < 0 then -1 else szDscTo (left - xs.length) xs
theorem szDscTo_pos {left : Int} (xs : List Dsc) (h : 0 ≤ szDscTo left xs) : (∀ b ∈ xs, (b.unit.size : Int) ≤ left ∧ (b.a.size : Int) ≤ left ∧ (b.b.size : Int) ≤ left) ∧ szDscTo left xs ≤ left := by
  induction xs generalizing left with
  | nil => exact ⟨fun b hb => by simp at hb, Int.le_refl _⟩
  | cons x r ih =>
    unfold szDscTo at h ⊢
    split at h
    · omega
    · rename_i hn
      have hp := szDsc_pos (left := left) (b := x) (by omega)
      obtain ⟨i1, i2⟩ := ih h
      rw [if_neg hn]
      refine ⟨fun b hb => ?_, by omega⟩
      rcases List.mem_cons.1 hb with rfl | hb
      · simp only [hp, and_self]
      · have := i1 b hb; omega
theorem szDscS_pos {left : Int} {xs : List Dsc} (hl : left ≤ 1048576) (h : 0 ≤ szDscS left xs) : xs.length ≤ 1048576 ∧ (∀ b ∈ xs, b.unit.size ≤ 1048576 ∧ b.a.size ≤ 1048576 ∧ b.b.size ≤ 1048576) ∧ szDscS left xs ≤ left := by
  unfold szDscS at h ⊢
  split at h
  · omega
  · rename_i hn
    rw [if_neg hn]
    obtain ⟨h1, h2⟩ := szDscTo_pos xs h
    exact ⟨by omega, fun b hb => (by have := h1 b hb; omega), by omega⟩
set_option maxRecDepth 100000 in
theorem szDsc_any (b : Dsc) (hb : b.Ok) (left : Int) (h0 : 0 ≤ left) (h1 : left ≤ 1048576) (w : World) :
    Calls Tryz.prog 42 #[b.val, .int .i64 left] w fun e w' => e = .returned (.int .i64 (szDsc left b)) ∧ Below w.heap.size w w' := by
  obtain ⟨kind, count, unit, dir, a, b⟩ := b
  obtain ⟨s0, s1, s2⟩ := hb
  dsimp only at s0 s1 s2
  unfold Dsc.val szDsc
  dsimp only
  by_cases c0 : left - unit.size < 0
  · rw [if_pos c0]
    go_enter Tryz.func42, Tryz.ntmps42
    go_wp2
    go_ret
    exact ⟨rfl, by (repeat (first | exact Below.refl _ _ | assumption | refine Below.drew ?_ | refine below_drewN' ?_ _ | refine Below.alloc ?_ (by (try simp); (try omega)) _ | refine Below.setCell ?_ (by (try simp); (try omega)) _))⟩
  · rw [if_neg c0]
    by_cases c1 : left - unit.size - a.size < 0
    · rw [if_pos c1]
      go_enter Tryz.func42, Tryz.ntmps42
      go_wp2
      go_ret
      exact ⟨rfl, by (repeat (first | exact Below.refl _ _ | assumption | refine Below.drew ?_ | refine below_drewN' ?_ _ | refine Below.alloc ?_ (by (try simp); (try omega)) _ | refine Below.setCell ?_ (by (try simp); (try omega)) _))⟩
    · rw [if_neg c1]
      by_cases c2 : left - unit.size - a.size - b.size < 0
      · rw [if_pos c2]
        go_enter Tryz.func42, Tryz.ntmps42
        go_wp2
        go_ret
        exact ⟨rfl, by (repeat (first | exact Below.refl _ _ | assumption | refine Below.drew ?_ | refine below_drewN' ?_ _ | refine Below.alloc ?_ (by (try simp); (try omega)) _ | refine Below.setCell ?_ (by (try simp); (try omega)) _))⟩
      · rw [if_neg c2]
        go_enter Tryz.func42, Tryz.ntmps42
        go_wp2
        go_ret
        exact ⟨rfl, by (repeat (first | exact Below.refl _ _ | assumption | refine Below.drew ?_ | refine below_drewN' ?_ _ | refine Below.alloc ?_ (by (try simp); (try omega)) _ | refine Below.setCell ?_ (by (try simp); (try omega)) _))⟩
set_option maxRecDepth 100000 in
theorem szDscS_any (xs : List Dsc) (A : Option Addr) (c : Nat) (left : Int) (h0 : 0 ≤ left) (h1 : left ≤ 1048576) (w : World) (hr : Reads w w.heap.size 6 A xs.length (dsC xs)) (hm : xs.length ≤ 9223372036854775807) (hn : ∀ b ∈ xs, b.Ok) :
    Calls Tryz.prog 9 #[.slice A xs.length c, .int .i64 left] w fun e w' => e = .returned (.int .i64 (szDscS left xs)) ∧ Below w.heap.size w w' := by
  have HR := Lib.hid hr; clear hr
  have HN := Lib.hid hn; clear hn
  by_cases hbig : left - xs.length < 0
  · rw [szDscS, if_pos hbig]
    go_enter Tryz.func9, Tryz.ntmps9
    go_wp2
    go_ret
    exact ⟨rfl, Below.refl _ _⟩
  · have HZ := Lib.hid (show szDscS left xs = szDscTo (left - xs.length) xs by rw [szDscS, if_neg hbig])
    generalize szDscS left xs = z at HZ ⊢
    go_enter Tryz.func9, Tryz.ntmps9
    go_wp2_with fail
    go_loopw [1, 5] (fun v1 v5 wr => ∃ (k : Nat) (lf : Int), k ≤ xs.length ∧ 0 ≤ lf ∧ lf ≤ 1048576 ∧ Hid (szDscTo (left - xs.length) xs = szDscTo lf (xs.drop k)) ∧ Hid (Below w.heap.size w wr) ∧ v1 = .int .i64 lf ∧ v5 = .int .i64 k) (fun _ i _ => xs.length - (intOf i).toNat)
    case atStart => exact ⟨0, left - xs.length, by omega, by omega, by omega, rfl, Below.refl _ _, rfl, rfl⟩
    case round =>
      obtain ⟨k, lf, hk, hl0, hl1, HL, BW, rfl, rfl⟩ := hrel
      by_cases hlt : k < xs.length
      · obtain ⟨ab, ao, rfl, hadb, hcell⟩ := (HR.out.below BW.out).2 (by omega)
        obtain ⟨e0, e1, e2, e3, e4, e5⟩ := dsC_get xs k hlt
        have c0 := hcell _ _ e0
        have c1 := hcell _ _ e1
        have c2 := hcell _ _ e2
        have c3 := hcell _ _ e3
        have c4 := hcell _ _ e4
        have c5 := hcell _ _ e5
        rw [← Nat.add_assoc] at c1 c2 c3 c4 c5
        clear hcell e0 e1 e2 e3 e4 e5
        have hok := Lib.hid (HN.out xs[k] (List.getElem_mem hlt))
        have HD := Lib.hid (show szDscTo lf (xs.drop k) = if szDsc lf xs[k] < 0 then -1 else szDscTo (szDsc lf xs[k]) (xs.drop (k + 1)) by rw [List.drop_eq_getElem_cons hlt]; rfl)
        have HC := Lib.hid (szDsc_any xs[k] hok.out lf hl0 hl1)
        have HP := Lib.hid (fun (h : 0 ≤ szDsc lf xs[k]) => (szDsc_pos (left := lf) (b := xs[k]) h).2.2.2)
        generalize szDsc lf xs[k] = r at HD HC HP
        generalize xs[k] = b at c0 c1 c2 c3 c4 c5 HC
        unfold Dsc.val at HC
        go_wp2_with fail
        refine (HC.out wr).mono ?_
        by_cases hneg : r < 0
        · rw [if_pos hneg] at HD
          rintro e w1 ⟨rfl, b1⟩
          go_wp2_with fail
          go_ret
          exact ⟨ret_int (by rw [HZ.out, HL.out, HD.out]), BW.out.trans (b1.mono BW.out.size)⟩
        · rw [if_neg hneg] at HD
          have hp := HP.out (by omega)
          rintro e w1 ⟨rfl, b1⟩
          go_wp2_with fail
          go_roundw
          case rel => exact ⟨k + 1, r, by omega, by omega, by omega, HL.out.trans HD.out, BW.out.trans (b1.mono BW.out.size), rfl, by go_num⟩
          case measure => simp [intOf]; omega
      · obtain rfl : k = xs.length := by omega
        go_wp2_with fail
        go_ret
        exact ⟨ret_int (by rw [HZ.out, HL.out]; simp [szDscTo]), BW.out⟩
theorem infoDsc : (Tryz.prog.info? 79).map (fun i => (i.zero, i.size, i.bytes)) = some (some (.agg #[.int .i64 0, .int .i64 0, .string ⟨#[]⟩, .int .i64 0, .string ⟨#[]⟩, .string ⟨#[]⟩]), 6, 72) := by kernel_rfl
instance : DecidableEq Dsc := fun a b => by
  cases a; cases b
  rw [Dsc.mk.injEq]
  infer_instance
set_option maxRecDepth 100000 in
theorem eqDsc_any (u1 u2 : Dsc) (w : World) :
    Calls Tryz.prog 56 #[u1.val, u2.val] w fun e w' => e = .returned (.bool (decide (u1 = u2))) ∧ Below w.heap.size w w' := by
  obtain ⟨kind, count, unit, dir, a, b⟩ := u1
  obtain ⟨kind', count', unit', dir', a', b'⟩ := u2
  have HX := Lib.hid (show decide ((⟨kind, count, unit, dir, a, b⟩ : Dsc) = ⟨kind', count', unit', dir', a', b'⟩) = (decide (kind = kind') && (decide (count = count') && (decide (unit = unit') && (decide (dir = dir') && (decide (a = a') && decide (b = b')))))) by simp [Bool.and_assoc])
  generalize decide ((⟨kind, count, unit, dir, a, b⟩ : Dsc) = ⟨kind', count', unit', dir', a', b'⟩) = r at HX ⊢
  unfold Dsc.val
  dsimp only
  by_cases h0 : kind = kind'
  rotate_left
  · have q0 : (kind != kind') = true := by simpa using h0
    rw [decide_eq_false h0] at HX
    clear h0
    go_enter Tryz.func56, Tryz.ntmps56
    go_wp2_with fail
    go_ret
    exact ⟨ret_bool (by rw [HX.out]; rfl), by (repeat (first | exact Below.refl _ _ | assumption | refine Below.drew ?_ | refine below_drewN' ?_ _ | refine Below.alloc ?_ (by (try simp); (try omega)) _ | refine Below.setCell ?_ (by (try simp); (try omega)) _))⟩
  have q0 : (kind != kind') = false := by simpa using h0
  rw [decide_eq_true h0] at HX
  clear h0
  by_cases h1 : count = count'
  rotate_left
  · have q1 : (count != count') = true := by simpa using h1
    rw [decide_eq_false h1] at HX
    clear h1
    go_enter Tryz.func56, Tryz.ntmps56
    go_wp2_with fail
    go_ret
    exact ⟨ret_bool (by rw [HX.out]; rfl), by (repeat (first | exact Below.refl _ _ | assumption | refine Below.drew ?_ | refine below_drewN' ?_ _ | refine Below.alloc ?_ (by (try simp); (try omega)) _ | refine Below.setCell ?_ (by (try simp); (try omega)) _))⟩
  have q1 : (count != count') = false := by simpa using h1
  rw [decide_eq_true h1] at HX
  clear h1
  have q2 := str_eq unit unit'
  by_cases h2 : unit = unit'
  rotate_left
  · rw [decide_eq_false h2] at HX q2
    clear h2
    go_enter Tryz.func56, Tryz.ntmps56
    go_wp2_with fail
    go_ret
    exact ⟨ret_bool (by rw [HX.out]; rfl), by (repeat (first | exact Below.refl _ _ | assumption | refine Below.drew ?_ | refine below_drewN' ?_ _ | refine Below.alloc ?_ (by (try simp); (try omega)) _ | refine Below.setCell ?_ (by (try simp); (try omega)) _))⟩
  rw [decide_eq_true h2] at HX q2
  clear h2
  by_cases h3 : dir = dir'
  rotate_left
  · have q3 : (dir != dir') = true := by simpa using h3
    rw [decide_eq_false h3] at HX
    clear h3
    go_enter Tryz.func56, Tryz.ntmps56
    go_wp2_with fail
    go_ret
    exact ⟨ret_bool (by rw [HX.out]; rfl), by (repeat (first | exact Below.refl _ _ | assumption | refine Below.drew ?_ | refine below_drewN' ?_ _ | refine Below.alloc ?_ (by (try simp); (try omega)) _ | refine Below.setCell ?_ (by (try simp); (try omega)) _))⟩
  have q3 : (dir != dir') = false := by simpa using h3
  rw [decide_eq_true h3] at HX
  clear h3
  have q4 := str_eq a a'
  by_cases h4 : a = a'
  rotate_left
  · rw [decide_eq_false h4] at HX q4
    clear h4
    go_enter Tryz.func56, Tryz.ntmps56
    go_wp2_with fail
    go_ret
    exact ⟨ret_bool (by rw [HX.out]; rfl), by (repeat (first | exact Below.refl _ _ | assumption | refine Below.drew ?_ | refine below_drewN' ?_ _ | refine Below.alloc ?_ (by (try simp); (try omega)) _ | refine Below.setCell ?_ (by (try simp); (try omega)) _))⟩
  rw [decide_eq_true h4] at HX q4
  clear h4
  have q5 := str_eq b b'
  by_cases h5 : b = b'
  rotate_left
  · rw [decide_eq_false h5] at HX q5
    clear h5
    go_enter Tryz.func56, Tryz.ntmps56
    go_wp2_with fail
    go_ret
    exact ⟨ret_bool (by rw [HX.out]; rfl), by (repeat (first | exact Below.refl _ _ | assumption | refine Below.drew ?_ | refine below_drewN' ?_ _ | refine Below.alloc ?_ (by (try simp); (try omega)) _ | refine Below.setCell ?_ (by (try simp); (try omega)) _))⟩
  rw [decide_eq_true h5] at HX q5
  clear h5
  go_enter Tryz.func56, Tryz.ntmps56
  go_wp2_with fail
  go_ret
  exact ⟨ret_bool (by rw [HX.out]; rfl), by (repeat (first | exact Below.refl _ _ | assumption | refine Below.drew ?_ | refine below_drewN' ?_ _ | refine Below.alloc ?_ (by (try simp); (try omega)) _ | refine Below.setCell ?_ (by (try simp); (try omega)) _))⟩
set_option maxRecDepth 100000 in
theorem toDscS_any (xs : List Dsc) (A : Option Addr) (c : Nat) (w : World) (hr : Reads w w.heap.size 6 A xs.length (dsC xs)) (hm : xs.length ≤ 1048576) :
    Calls Tryz.prog 13 #[.slice A xs.length c] w fun e w' => e = .returned (.slice (some ⟨w.heap.size, 0, none⟩) xs.length xs.length) ∧ Blk w' w.heap.size 79 (dsC xs).toArray ∧ Below w.heap.size w w' := by
  obtain ⟨i0, hi, hz, hsz, hby⟩ := info_parts infoDsc
  have hmk := fun W => run_make_rowN (P := Tryz.prog) 37 79 i0 _ Tryz.underlying37 hi hz .i64 .i64 xs.length xs.length (Nat.le_refl _) (by rw [hby]; omega) (by omega) W
  go_enter Tryz.func13, Tryz.ntmps13
  go_wp2
  go_loopw [4] (fun v4 wr => ∃ k : Nat, k ≤ xs.length ∧ Copied wr w.heap.size 79 (k * 6) (dsC xs) ∧ Below w.heap.size w wr ∧ v4 = .int .i64 k) (fun i _ => xs.length - (intOf i).toNat)
  case atStart => exact ⟨0, Nat.zero_le _, by simpa using Copied.start w _ _ (by rw [size_madeCells, dsC_len]), (Below.refl _ _).alloc (Nat.le_refl _) _, rfl⟩
  case round =>
    obtain ⟨k, hk, hcp, hb, rfl⟩ := hrel
    have hg := hcp.lt
    by_cases hlt : k < xs.length
    · obtain ⟨ab, ao, rfl, hadb, hcell⟩ := (hr.below hb).2 (by omega)
      obtain ⟨e0, e1, e2, e3, e4, e5⟩ := dsC_get xs k hlt
      have c0 := hcell _ _ e0
      have c1 := hcell _ _ e1
      have c2 := hcell _ _ e2
      have c3 := hcell _ _ e3
      have c4 := hcell _ _ e4
      have c5 := hcell _ _ e5
      rw [← Nat.add_assoc] at c1 c2 c3 c4 c5
      clear hcell hr
      obtain ⟨⟨u0, d0⟩, f0⟩ := hcp.cell (j := k * 6) (by rw [dsC_len]; omega)
      obtain ⟨⟨u1, d1⟩, f1⟩ := hcp.cell (j := k * 6 + 1) (by rw [dsC_len]; omega)
      obtain ⟨⟨u2, d2⟩, f2⟩ := hcp.cell (j := k * 6 + 2) (by rw [dsC_len]; omega)
      obtain ⟨⟨u3, d3⟩, f3⟩ := hcp.cell (j := k * 6 + 3) (by rw [dsC_len]; omega)
      obtain ⟨⟨u4, d4⟩, f4⟩ := hcp.cell (j := k * 6 + 4) (by rw [dsC_len]; omega)
      obtain ⟨⟨u5, d5⟩, f5⟩ := hcp.cell (j := k * 6 + 5) (by rw [dsC_len]; omega)
      have E0 := Lib.hid e0; clear e0
      have E1 := Lib.hid e1; clear e1
      have E2 := Lib.hid e2; clear e2
      have E3 := Lib.hid e3; clear e3
      have E4 := Lib.hid e4; clear e4
      have E5 := Lib.hid e5; clear e5
      generalize xs[k] = b at c0 c1 c2 c3 c4 c5 E0 E1 E2 E3 E4 E5
      go_wp2_with fail
      refine (toD_any b _).mono ?_; rintro e w1 ⟨rfl, hb1⟩
      obtain ⟨hc1, hf1⟩ := bcell hb1
      unfold Dsc.val
      go_wp2_with fail
      go_roundw
      case rel => exact ⟨k + 1, by omega, by rw [show (k + 1) * 6 = k * 6 + 1 + 1 + 1 + 1 + 1 + 1 from by omega]; exact ((((((hcp.below hb1 hg).set_ E0.out).set_ E1.out).set_ E2.out).set_ E3.out).set_ E4.out).set_ E5.out, (((((((hb.trans (hb1.mono hb.size)).setCell (Nat.le_refl _) _).setCell (Nat.le_refl _) _).setCell (Nat.le_refl _) _).setCell (Nat.le_refl _) _).setCell (Nat.le_refl _) _).setCell (Nat.le_refl _) _), by go_num⟩
      case measure => simp [intOf]; omega
    · obtain rfl : k = xs.length := by omega
      go_wp2
      go_ret
      exact ⟨rfl, Copied.done (by rw [dsC_len]; exact hcp), hb⟩
theorem dsc_pair {xs ys : List Dsc} {k : Nat} (hl : xs.length = ys.length) (hlt : k < xs.length) (ht : xs.take k = ys.take k) (h1 : xs[k] = ys[k]) : xs.take (k + 1) = ys.take (k + 1) := by
  rw [List.take_succ_eq_append_getElem hlt, List.take_succ_eq_append_getElem (by omega), ht, h1]
set_option maxRecDepth 100000 in
theorem eqDscS_any (xs ys : List Dsc) (A A' : Option Addr) (c c' : Nat) (w : World) (hr : Reads w w.heap.size 6 A xs.length (dsC xs)) (hr' : Reads w w.heap.size 6 A' ys.length (dsC ys)) (hm : xs.length ≤ 9223372036854775807) :
    Calls Tryz.prog 18 #[.slice A xs.length c, .slice A' ys.length c'] w fun e w' => e = .returned (.bool (decide (xs = ys))) ∧ Below w.heap.size w w' := by
  by_cases hl : xs.length = ys.length
  · have HL := Lib.hid hl
    have hl1 : xs.length ≤ ys.length := by omega
    have hl2 : ys.length ≤ xs.length := by omega
    have hne : ((xs.length : Int) != (ys.length : Int)) = false := by rw [bne_eq_false_iff_eq]; omega
    clear hl
    go_enter Tryz.func18, Tryz.ntmps18
    go_wp2
    go_loopw [5] (fun v5 wr => ∃ k : Nat, k ≤ xs.length ∧ Hid (xs.take k = ys.take k) ∧ Below w.heap.size w wr ∧ v5 = .int .i64 k) (fun i _ => xs.length - (intOf i).toNat)
    case atStart => exact ⟨0, Nat.zero_le _, by simp [Hid], Below.refl _ _, rfl⟩
    case round =>
      obtain ⟨k, hk, HT, hb, rfl⟩ := hrel
      by_cases hlt : k < xs.length
      · obtain ⟨ab, ao, rfl, hadb, hcell⟩ := (hr.below hb).2 (by omega)
        obtain ⟨ab', ao', rfl, hadb', hcell'⟩ := (hr'.below hb).2 (by omega)
        obtain ⟨e0, e1, e2, e3, e4, e5⟩ := dsC_get xs k hlt
        obtain ⟨e0', e1', e2', e3', e4', e5'⟩ := dsC_get ys k (by omega)
        have c0 := hcell _ _ e0
        have c1 := hcell _ _ e1
        have c2 := hcell _ _ e2
        have c3 := hcell _ _ e3
        have c4 := hcell _ _ e4
        have c5 := hcell _ _ e5
        have c0' := hcell' _ _ e0'
        have c1' := hcell' _ _ e1'
        have c2' := hcell' _ _ e2'
        have c3' := hcell' _ _ e3'
        have c4' := hcell' _ _ e4'
        have c5' := hcell' _ _ e5'
        rw [← Nat.add_assoc] at c1 c1' c2 c2' c3 c3' c4 c4' c5 c5'
        clear hcell hr hcell' hr' e0 e0' e1 e1' e2 e2' e3 e3' e4 e4' e5 e5'
        have hlt' : k < ys.length := by omega
        by_cases heq : xs[k] = ys[k]
        · have hd : decide (xs[k] = ys[k]) = true := by rw [heq]; simp
          have HN := Lib.hid (dsc_pair HL.out hlt HT.out heq)
          clear heq
          have HD := Lib.hid hd; clear hd
          go_wp2_with fail
          go_still_tail 8, (by kernel_rfl)
          change wpList _ _ _ _ _ (World.drew _)
          go_wp2_with fail
          refine (eqDsc_any xs[k] ys[k] _).mono ?_; rw [HD.out]; rintro e w1 ⟨rfl, hb1⟩
          go_wp2_with fail
          go_roundw
          case rel => exact ⟨k + 1, by omega, HN, hb.drew.trans (hb1.mono hb.size), by go_num⟩
          case measure => simp [intOf]; omega
        · have hd : decide (xs[k] = ys[k]) = false := by rw [decide_eq_false_iff_not]; exact heq
          have HN := Lib.hid (show xs ≠ ys from fun h => heq (by subst h; rfl))
          clear heq
          have HD := Lib.hid hd; clear hd
          go_wp2_with fail
          go_still_tail 8, (by kernel_rfl)
          change wpList _ _ _ _ _ (World.drew _)
          go_wp2_with fail
          refine (eqDsc_any xs[k] ys[k] _).mono ?_; rw [HD.out]; rintro e w1 ⟨rfl, hb1⟩
          go_wp2_with fail
          go_ret
          exact ⟨ret_bool (decide_eq_false HN.out).symm, hb.drew.trans (hb1.mono hb.size)⟩
      · obtain rfl : k = xs.length := by omega
        go_wp2
        go_ret
        refine ⟨ret_bool (decide_eq_true ?_).symm, hb⟩
        have := HT.out
        rwa [List.take_length, HL.out, List.take_length] at this
  · have hne : ((xs.length : Int) != (ys.length : Int)) = true := by rw [bne_iff_ne]; omega
    have HN := Lib.hid (show xs ≠ ys from fun h => hl (by rw [h]))
    clear hl
    go_enter Tryz.func18, Tryz.ntmps18
    go_wp2
    go_ret
    exact ⟨ret_bool (decide_eq_false HN.out).symm, Below.refl _ _⟩
/-- What a walk needs: the list lies in memory, and its strings are not too long. -/
def HasDsc (w : World) (xs : List Dsc) (A : Option Addr) : Prop := Reads w w.heap.size 6 A xs.length (dsC xs) ∧ xs.length ≤ 9223372036854775807 ∧ ∀ b ∈ xs, b.Ok
theorem HasDsc.below {w w' : World} {xs : List Dsc} {A : Option Addr} (h : HasDsc w xs A) (hb : Below w.heap.size w w') : HasDsc w' xs A := ⟨(h.1.below hb).more hb.size, h.2⟩
end Go.Proofs.YtaaioengebaebaaGreatDoor
