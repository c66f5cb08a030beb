/- Claim: their cells; the law's own helpers over them: sizes, copies, comparisons. -/
import Derived.Test.YthlpclnfnfbeiaaGreatDoorRows
import Derived.Test.YthlpclnfnfbeiaaGreatDoorL0
import Derived.Test.YthlpclnfnfbeiaaGreatDoorM0
import Derived.WalkKit
import Derived.ProofKit
import Derived.OpenShut
import Derived.BigQuiet
import Derived.Outline
import Derived.WalkSpells
import Derived.WalkLawsBesides
import Derived.Deep.DeepCutAuto
import Derived.Test.YthlpclnfnfbeiaaGreatDoorM1
import Derived.Test.YthlpclnfnfbeiaaGreatDoorW0
import Derived.Test.YthlpclnfnfbeiaaGreatDoorFA
import Derived.Lib.Hide
import Derived.StillTailTactics
namespace Go.Proofs.YthlpclnfnfbeiaaGreatDoor
open Go.ChangeShapes Go.WideShapes Go.ChangeAt Go.RowKit

structure Clm where
  src : ByteArray
  kind : Int
  place : ByteArray
  val_ : ByteArray
  lo : Int
  hi : Int
  weight : Int
def Clm.val (b : Clm) : Value := .agg #[.string b.src, .int .i64 b.kind, .string b.place, .string b.val_, .int .i64 b.lo, .int .i64 b.hi, .int .i64 b.weight]
/-- Strings that are not too long. -/
def Clm.Ok (b : Clm) : Prop := b.src.size ≤ 9223372036854775807 ∧ b.place.size ≤ 9223372036854775807 ∧ b.val_.size ≤ 9223372036854775807
def Clm.cells (b : Clm) : List Value := [.string b.src, .int .i64 b.kind, .string b.place, .string b.val_, .int .i64 b.lo, .int .i64 b.hi, .int .i64 b.weight]
def clC (xs : List Clm) : List Value := xs.flatMap Clm.cells
theorem clC_len (xs : List Clm) : (clC xs).length = xs.length * 7 := by
  induction xs with
  | nil => rfl
  | cons x r ih => simp [clC, Clm.cells] at *; omega
theorem clC_get (xs : List Clm) (k : Nat) (h : k < xs.length) : (clC xs)[k * 7]? = some (.string xs[k].src) ∧ (clC xs)[k * 7 + 1]? = some (.int .i64 xs[k].kind) ∧ (clC xs)[k * 7 + 2]? = some (.string xs[k].place) ∧ (clC xs)[k * 7 + 3]? = some (.string xs[k].val_) ∧ (clC xs)[k * 7 + 4]? = some (.int .i64 xs[k].lo) ∧ (clC xs)[k * 7 + 5]? = some (.int .i64 xs[k].hi) ∧ (clC xs)[k * 7 + 6]? = some (.int .i64 xs[k].weight) := by
  induction xs generalizing k with
  | nil => simp at h
  | cons x r ih =>
    cases k with
    | zero => simp [clC, Clm.cells]
    | succ k =>
      obtain ⟨i0, i1, i2, i3, i4, i5, i6⟩ := ih k (by simpa using h)
      simp only [clC, List.flatMap_cons, Clm.cells] at i0 i1 i2 i3 i4 i5 i6 ⊢
      refine ⟨?_, ?_, ?_, ?_, ?_, ?_, ?_⟩
      · rw [show (k + 1) * 7 = k * 7 + 1 + 1 + 1 + 1 + 1 + 1 + 1 from by omega]; simpa using i0
      · rw [show (k + 1) * 7 + 1 = k * 7 + 1 + 1 + 1 + 1 + 1 + 1 + 1 + 1 from by omega]; simpa using i1
      · rw [show (k + 1) * 7 + 2 = k * 7 + 2 + 1 + 1 + 1 + 1 + 1 + 1 + 1 from by omega]; simpa using i2
      · rw [show (k + 1) * 7 + 3 = k * 7 + 3 + 1 + 1 + 1 + 1 + 1 + 1 + 1 from by omega]; simpa using i3
      · rw [show (k + 1) * 7 + 4 = k * 7 + 4 + 1 + 1 + 1 + 1 + 1 + 1 + 1 from by omega]; simpa using i4
      · rw [show (k + 1) * 7 + 5 = k * 7 + 5 + 1 + 1 + 1 + 1 + 1 + 1 + 1 from by omega]; simpa using i5
      · rw [show (k + 1) * 7 + 6 = k * 7 + 6 + 1 + 1 + 1 + 1 + 1 + 1 + 1 from by omega]; simpa using i6
theorem clC_one (xs : List Clm) : ∀ u ∈ clC xs, u.oneCell' = true := by
  intro u hu
  simp only [clC, List.mem_flatMap] at hu
  obtain ⟨s, _, h⟩ := hu
  simp [Clm.cells] at h
  rcases h with rfl | rfl | rfl | rfl | rfl | rfl | rfl <;> rfl

/-- What is left of the size: -1 if it is too large. -/
def szClm (left : Int) (b : Clm) : Int := if left - b.src.size < 0 then -1 else if left - b.src.size - b.place.size < 0 then -1 else if left - b.src.size - b.place.size - b.val_.size < 0 then -1 else left - b.src.size - b.place.size - b.val_.size
theorem szClm_pos {left : Int} {b : Clm} (h : 0 ≤ szClm left b) : (b.src.size : Int) ≤ left ∧ (b.place.size : Int) ≤ left ∧ (b.val_.size : Int) ≤ left ∧ szClm left b ≤ left := by
  unfold szClm at h ⊢
  repeat' split at h
  all_goals first | omega | (simp only [*, if_false]; omega)
def szClmTo (left : Int) : List Clm → Int
  | [] => left
  | b :: r => if szClm left b < 0 then -1 else szClmTo (szClm left b) r
def szClmS (left : Int) (xs : List Clm) : Int := if left - xs.length < 0 then -1 else szClmTo (left - xs.length) xs
theorem szClmTo_pos {left : Int} (xs : List Clm) (h : 0 ≤ szClmTo left xs) : (∀ b ∈ xs, (b.src.size : Int) ≤ left ∧ (b.place.size : Int) ≤ left ∧ (b.val_.size : Int) ≤ left) ∧ szClmTo left xs ≤ left := by
  induction xs generalizing left with
  | nil => exact ⟨fun b hb => by simp at hb, Int.le_refl _⟩
  | cons x r ih =>
    unfold szClmTo at h ⊢
    split at h
    · omega
    · rename_i hn
      have hp := szClm_pos (left := left) (b := x) (by omega)
      obtain ⟨i1, i2⟩ := ih h
      rw [if_neg hn]
      refine ⟨fun b hb => ?_, by omega⟩
      rcases List.mem_cons.1 hb with rfl | hb
      · simp only [hp, and_self]
      · have := i1 b hb; omega
theorem szClmS_pos {left : Int} {xs : List Clm} (hl : left ≤ 1048576) (h : 0 ≤ szClmS left xs) : xs.length ≤ 1048576 ∧ (∀ b ∈ xs, b.src.size ≤ 1048576 ∧ b.place.size ≤ 1048576 ∧ b.val_.size ≤ 1048576) ∧ szClmS left xs ≤ left := by
  unfold szClmS at h ⊢
  split at h
  · omega
  · rename_i hn
    rw [if_neg hn]
    obtain ⟨h1, h2⟩ := szClmTo_pos xs h
    exact ⟨by omega, fun b hb => (by have := h1 b hb; omega), by omega⟩
set_option maxRecDepth 100000 in
theorem szClm_any (b : Clm) (hb : b.Ok) (left : Int) (h0 : 0 ≤ left) (h1 : left ≤ 1048576) (w : World) :
    Calls Tryz.prog 36 #[b.val, .int .i64 left] w fun e w' => e = .returned (.int .i64 (szClm left b)) ∧ Below w.heap.size w w' := by
  obtain ⟨src, kind, place, val_, lo, hi, weight⟩ := b
  obtain ⟨s0, s1, s2⟩ := hb
  dsimp only at s0 s1 s2
  unfold Clm.val szClm
  dsimp only
  by_cases c0 : left - src.size < 0
  · rw [if_pos c0]
    go_enter Tryz.func36, Tryz.ntmps36
    go_wp2
    go_ret
    exact ⟨rfl, by (repeat (first | exact Below.refl _ _ | assumption | refine Below.drew ?_ | refine below_drewN' ?_ _ | refine Below.alloc ?_ (by (try simp); (try omega)) _ | refine Below.setCell ?_ (by (try simp); (try omega)) _))⟩
  · rw [if_neg c0]
    by_cases c1 : left - src.size - place.size < 0
    · rw [if_pos c1]
      go_enter Tryz.func36, Tryz.ntmps36
      go_wp2
      go_ret
      exact ⟨rfl, by (repeat (first | exact Below.refl _ _ | assumption | refine Below.drew ?_ | refine below_drewN' ?_ _ | refine Below.alloc ?_ (by (try simp); (try omega)) _ | refine Below.setCell ?_ (by (try simp); (try omega)) _))⟩
    · rw [if_neg c1]
      by_cases c2 : left - src.size - place.size - val_.size < 0
      · rw [if_pos c2]
        go_enter Tryz.func36, Tryz.ntmps36
        go_wp2
        go_ret
        exact ⟨rfl, by (repeat (first | exact Below.refl _ _ | assumption | refine Below.drew ?_ | refine below_drewN' ?_ _ | refine Below.alloc ?_ (by (try simp); (try omega)) _ | refine Below.setCell ?_ (by (try simp); (try omega)) _))⟩
      · rw [if_neg c2]
        go_enter Tryz.func36, Tryz.ntmps36
        go_wp2
        go_ret
        exact ⟨rfl, by (repeat (first | exact Below.refl _ _ | assumption | refine Below.drew ?_ | refine below_drewN' ?_ _ | refine Below.alloc ?_ (by (try simp); (try omega)) _ | refine Below.setCell ?_ (by (try simp); (try omega)) _))⟩
set_option maxRecDepth 100000 in
theorem szClmS_any (xs : List Clm) (A : Option Addr) (c : Nat) (left : Int) (h0 : 0 ≤ left) (h1 : left ≤ 1048576) (w : World) (hr : Reads w w.heap.size 7 A xs.length (clC xs)) (hm : xs.length ≤ 9223372036854775807) (hn : ∀ b ∈ xs, b.Ok) :
    Calls Tryz.prog 7 #[.slice A xs.length c, .int .i64 left] w fun e w' => e = .returned (.int .i64 (szClmS left xs)) ∧ Below w.heap.size w w' := by
  have HR := Lib.hid hr; clear hr
  have HN := Lib.hid hn; clear hn
  by_cases hbig : left - xs.length < 0
  · rw [szClmS, if_pos hbig]
    go_enter Tryz.func7, Tryz.ntmps7
    go_wp2
    go_ret
    exact ⟨rfl, Below.refl _ _⟩
  · have HZ := Lib.hid (show szClmS left xs = szClmTo (left - xs.length) xs by rw [szClmS, if_neg hbig])
    generalize szClmS left xs = z at HZ ⊢
    go_enter Tryz.func7, Tryz.ntmps7
    go_wp2_with fail
    go_loopw [1, 5] (fun v1 v5 wr => ∃ (k : Nat) (lf : Int), k ≤ xs.length ∧ 0 ≤ lf ∧ lf ≤ 1048576 ∧ Hid (szClmTo (left - xs.length) xs = szClmTo lf (xs.drop k)) ∧ Hid (Below w.heap.size w wr) ∧ v1 = .int .i64 lf ∧ v5 = .int .i64 k) (fun _ i _ => xs.length - (intOf i).toNat)
    case atStart => exact ⟨0, left - xs.length, by omega, by omega, by omega, rfl, Below.refl _ _, rfl, rfl⟩
    case round =>
      obtain ⟨k, lf, hk, hl0, hl1, HL, BW, rfl, rfl⟩ := hrel
      by_cases hlt : k < xs.length
      · obtain ⟨ab, ao, rfl, hadb, hcell⟩ := (HR.out.below BW.out).2 (by omega)
        obtain ⟨e0, e1, e2, e3, e4, e5, e6⟩ := clC_get xs k hlt
        have c0 := hcell _ _ e0
        have c1 := hcell _ _ e1
        have c2 := hcell _ _ e2
        have c3 := hcell _ _ e3
        have c4 := hcell _ _ e4
        have c5 := hcell _ _ e5
        have c6 := hcell _ _ e6
        rw [← Nat.add_assoc] at c1 c2 c3 c4 c5 c6
        clear hcell e0 e1 e2 e3 e4 e5 e6
        have hok := Lib.hid (HN.out xs[k] (List.getElem_mem hlt))
        have HD := Lib.hid (show szClmTo lf (xs.drop k) = if szClm lf xs[k] < 0 then -1 else szClmTo (szClm lf xs[k]) (xs.drop (k + 1)) by rw [List.drop_eq_getElem_cons hlt]; rfl)
        have HC := Lib.hid (szClm_any xs[k] hok.out lf hl0 hl1)
        have HP := Lib.hid (fun (h : 0 ≤ szClm lf xs[k]) => (szClm_pos (left := lf) (b := xs[k]) h).2.2.2)
        generalize szClm lf xs[k] = r at HD HC HP
        generalize xs[k] = b at c0 c1 c2 c3 c4 c5 c6 HC
        unfold Clm.val at HC
        go_wp2_with fail
        refine (HC.out wr).mono ?_
        by_cases hneg : r < 0
        · rw [if_pos hneg] at HD
          rintro e w1 ⟨rfl, b1⟩
          go_wp2_with fail
          go_ret
          exact ⟨ret_int (by rw [HZ.out, HL.out, HD.out]), BW.out.trans (b1.mono BW.out.size)⟩
        · rw [if_neg hneg] at HD
          have hp := HP.out (by omega)
          rintro e w1 ⟨rfl, b1⟩
          go_wp2_with fail
          go_roundw
          case rel => exact ⟨k + 1, r, by omega, by omega, by omega, HL.out.trans HD.out, BW.out.trans (b1.mono BW.out.size), rfl, by go_num⟩
          case measure => simp [intOf]; omega
      · obtain rfl : k = xs.length := by omega
        go_wp2_with fail
        go_ret
        exact ⟨ret_int (by rw [HZ.out, HL.out]; simp [szClmTo]), BW.out⟩
theorem toSpan_any (x y : Int) (w : World) :
    Calls Tryz.prog 75 #[.agg #[.int .i64 x, .int .i64 y]] w fun e w' => e = .returned (.agg #[.int .i64 x, .int .i64 y]) ∧ Below w.heap.size w w' := by
  go_enter Tryz.func75, Tryz.ntmps75
  go_wp2
  refine bodyPost_ret (v := .agg #[.int .i64 x, .int .i64 y]) (by simp [results, Tryz.results75, go_sem]) rfl ⟨rfl, ?_⟩
  (repeat (first | exact Below.refl _ _ | assumption | refine Below.drew ?_ | refine below_drewN' ?_ _ | refine Below.alloc ?_ (by (try simp); (try omega)) _ | refine Below.setCell ?_ (by (try simp); (try omega)) _))
theorem eqSpan_any (x y x' y' : Int) (w : World) :
    Calls Tryz.prog 77 #[.agg #[.int .i64 x, .int .i64 y], .agg #[.int .i64 x', .int .i64 y']] w fun e w' => e = .returned (.bool (decide (x = x') && decide (y = y'))) ∧ Below w.heap.size w w' := by
  go_enter Tryz.func77, Tryz.ntmps77
  go_wp2
  all_goals
    go_ret
    refine ⟨ret_bool ?_, ?_⟩
    · simp only [bne_iff_ne, bne_eq_false_iff_eq, ne_eq, Bool.not_eq_true', Bool.not_eq_false', decide_eq_true_eq, decide_eq_false_iff_not] at *; simp [*]
    · (repeat (first | exact Below.refl _ _ | assumption | refine Below.drew ?_ | refine below_drewN' ?_ _ | refine Below.alloc ?_ (by (try simp); (try omega)) _ | refine Below.setCell ?_ (by (try simp); (try omega)) _))
theorem infoClm : (Tryz.prog.info? 66).map (fun i => (i.zero, i.size, i.bytes)) = some (some (.agg #[.string ⟨#[]⟩, .int .i64 0, .string ⟨#[]⟩, .string ⟨#[]⟩, .int .i64 0, .int .i64 0, .int .i64 0]), 7, 80) := by kernel_rfl
theorem toClm_any (b : Clm) (w : World) :
    Calls Tryz.prog 39 #[b.val] w fun e w' => e = .returned b.val ∧ Below w.heap.size w w' := by
  obtain ⟨src, kind, place, val_, lo, hi, weight⟩ := b
  unfold Clm.val
  dsimp only
  have KN := Lib.hid (blks_three w 60 66 66 #[.string src, .int .i64 kind, .string place, .string val_, .int .i64 lo, .int .i64 hi, .int .i64 weight] #[.string ⟨#[]⟩, .int .i64 0, .string ⟨#[]⟩, .string ⟨#[]⟩, .int .i64 0, .int .i64 0, .int .i64 0] #[.string src, .int .i64 kind, .string place, .string val_, .int .i64 0, .int .i64 0, .int .i64 0])
  have HP := Lib.hid (toSpan_any lo hi)
  go_enter Tryz.func39, Tryz.ntmps39
  go_wp2_with fail
  generalize hW : ((w.alloc (.cells #[.string src, .int .i64 kind, .string place, .string val_, .int .i64 lo, .int .i64 hi, .int .i64 weight] 60)).alloc (.cells #[.string ⟨#[]⟩, .int .i64 0, .string ⟨#[]⟩, .string ⟨#[]⟩, .int .i64 0, .int .i64 0, .int .i64 0] 66)).alloc (.cells #[.string src, .int .i64 kind, .string place, .string val_, .int .i64 0, .int .i64 0, .int .i64 0] 66) = W
  obtain ⟨b0, b1, b2, bw, _⟩ := KN.out W hW.symm
  clear hW
  refine (HP.out W).mono ?_; rintro e w1 ⟨rfl, c1⟩
  have B1 := Lib.hid (bw.trans (c1.mono bw.size))
  have K0 := b0.below c1 b0.lt
  have K1 := b1.below c1 b1.lt
  have K2 := b2.below c1 b2.lt
  have K3 := K2.set_ 4 (.int .i64 lo)
  have K4 := K3.set_ 5 (.int .i64 hi)
  have K5 := K4.set_ 6 (.int .i64 weight)
  simp only [List.setIfInBounds_toArray, List.set_cons_succ, List.set_cons_zero] at K3 K4 K5
  have R4 := (((K1.far (p := ⟨w.heap.size + 2, 4, none⟩) (by simp) (.int .i64 lo)).far (p := ⟨w.heap.size + 2, 5, none⟩) (by simp) (.int .i64 hi)).far (p := ⟨w.heap.size + 2, 6, none⟩) (by simp) (.int .i64 weight))
  obtain ⟨p4_0, p4_1, p4_2, p4_3, p4_4, p4_5, p4_6⟩ := cells_7 (K0.far (p := ⟨w.heap.size + 2, 4, none⟩) (by simp) (.int .i64 lo))
  obtain ⟨p5_0, p5_1, p5_2, p5_3, p5_4, p5_5, p5_6⟩ := cells_7 ((K0.far (p := ⟨w.heap.size + 2, 4, none⟩) (by simp) (.int .i64 lo)).far (p := ⟨w.heap.size + 2, 5, none⟩) (by simp) (.int .i64 hi))
  obtain ⟨p6_0, p6_1, p6_2, p6_3, p6_4, p6_5, p6_6⟩ := cells_7 (((K0.far (p := ⟨w.heap.size + 2, 4, none⟩) (by simp) (.int .i64 lo)).far (p := ⟨w.heap.size + 2, 5, none⟩) (by simp) (.int .i64 hi)).far (p := ⟨w.heap.size + 2, 6, none⟩) (by simp) (.int .i64 weight))
  obtain ⟨p_0, p_1, p_2, p_3, p_4, p_5, p_6⟩ := cells_7 K0
  obtain ⟨m2_0, m2_1, m2_2, m2_3, m2_4, m2_5, m2_6⟩ := cells_7 K2
  obtain ⟨m3_0, m3_1, m3_2, m3_3, m3_4, m3_5, m3_6⟩ := cells_7 K3
  obtain ⟨m4_0, m4_1, m4_2, m4_3, m4_4, m4_5, m4_6⟩ := cells_7 K4
  obtain ⟨m5_0, m5_1, m5_2, m5_3, m5_4, m5_5, m5_6⟩ := cells_7 K5
  have f4 := K2.frozen 4
  have f5 := K3.frozen 5
  have f6 := K4.frozen 6
  obtain ⟨g0, g1, g2, g3, g4, g5, g6, g7, g8, g9, g10, g11, g12, g13, g14, g15, g16, g17, g18, g19, g20⟩ := facts_7 R4
  clear b0 b1 b2 bw c1
  go_wp2_with fail
  refine bodyPost_ret (v := .agg #[.string src, .int .i64 kind, .string place, .string val_, .int .i64 lo, .int .i64 hi, .int .i64 weight]) (by simp [results, Tryz.results39, go_sem, g14, g15, g16, g17, g18, g19, g20]) rfl ⟨rfl, ?_⟩
  exact ((((((((((B1.out.setCell (by dsimp only; omega) _).setCell (by dsimp only; omega) _).setCell (by dsimp only; omega) _).setCell (by dsimp only; omega) _).setCell (by dsimp only; omega) _).setCell (by dsimp only; omega) _).setCell (by dsimp only; omega) _).setCell (by dsimp only; omega) _).setCell (by dsimp only; omega) _).setCell (by dsimp only; omega) _)
instance : DecidableEq Clm := fun a b => by
  cases a; cases b
  rw [Clm.mk.injEq]
  infer_instance
set_option maxRecDepth 100000 in
theorem eqClm_any (u1 u2 : Clm) (w : World) :
    Calls Tryz.prog 42 #[u1.val, u2.val] w fun e w' => e = .returned (.bool (decide (u1 = u2))) ∧ Below w.heap.size w w' := by
  obtain ⟨src, kind, place, val_, lo, hi, weight⟩ := u1
  obtain ⟨src', kind', place', val_', lo', hi', weight'⟩ := u2
  have HX := Lib.hid (show decide ((⟨src, kind, place, val_, lo, hi, weight⟩ : Clm) = ⟨src', kind', place', val_', lo', hi', weight'⟩) = (decide (src = src') && (decide (kind = kind') && (decide (place = place') && (decide (val_ = val_') && ((decide (lo = lo') && decide (hi = hi')) && decide (weight = weight')))))) by simp [Bool.and_assoc])
  generalize decide ((⟨src, kind, place, val_, lo, hi, weight⟩ : Clm) = ⟨src', kind', place', val_', lo', hi', weight'⟩) = r at HX ⊢
  have HP := Lib.hid (eqSpan_any lo hi lo' hi')
  generalize (decide (lo = lo') && decide (hi = hi')) = q at HX HP
  have KN := Lib.hid (blks_two w 66 66 #[.string src, .int .i64 kind, .string place, .string val_, .int .i64 lo, .int .i64 hi, .int .i64 weight] #[.string src', .int .i64 kind', .string place', .string val_', .int .i64 lo', .int .i64 hi', .int .i64 weight'])
  unfold Clm.val
  dsimp only
  have q0 := str_eq src src'
  by_cases h0 : src = src'
  rotate_left
  · rw [decide_eq_false h0] at HX q0
    clear h0
    go_enter Tryz.func42, Tryz.ntmps42
    go_wp2_with fail
    go_ret
    exact ⟨ret_bool (by rw [HX.out]; rfl), by (repeat (first | exact Below.refl _ _ | assumption | refine Below.drew ?_ | refine below_drewN' ?_ _ | refine Below.alloc ?_ (by (try simp); (try omega)) _ | refine Below.setCell ?_ (by (try simp); (try omega)) _))⟩
  rw [decide_eq_true h0] at HX q0
  clear h0
  by_cases h1 : kind = kind'
  rotate_left
  · have q1 : (kind != kind') = true := by simpa using h1
    rw [decide_eq_false h1] at HX
    clear h1
    go_enter Tryz.func42, Tryz.ntmps42
    go_wp2_with fail
    go_ret
    exact ⟨ret_bool (by rw [HX.out]; rfl), by (repeat (first | exact Below.refl _ _ | assumption | refine Below.drew ?_ | refine below_drewN' ?_ _ | refine Below.alloc ?_ (by (try simp); (try omega)) _ | refine Below.setCell ?_ (by (try simp); (try omega)) _))⟩
  have q1 : (kind != kind') = false := by simpa using h1
  rw [decide_eq_true h1] at HX
  clear h1
  have q2 := str_eq place place'
  by_cases h2 : place = place'
  rotate_left
  · rw [decide_eq_false h2] at HX q2
    clear h2
    go_enter Tryz.func42, Tryz.ntmps42
    go_wp2_with fail
    go_ret
    exact ⟨ret_bool (by rw [HX.out]; rfl), by (repeat (first | exact Below.refl _ _ | assumption | refine Below.drew ?_ | refine below_drewN' ?_ _ | refine Below.alloc ?_ (by (try simp); (try omega)) _ | refine Below.setCell ?_ (by (try simp); (try omega)) _))⟩
  rw [decide_eq_true h2] at HX q2
  clear h2
  have q3 := str_eq val_ val_'
  by_cases h3 : val_ = val_'
  rotate_left
  · rw [decide_eq_false h3] at HX q3
    clear h3
    go_enter Tryz.func42, Tryz.ntmps42
    go_wp2_with fail
    go_ret
    exact ⟨ret_bool (by rw [HX.out]; rfl), by (repeat (first | exact Below.refl _ _ | assumption | refine Below.drew ?_ | refine below_drewN' ?_ _ | refine Below.alloc ?_ (by (try simp); (try omega)) _ | refine Below.setCell ?_ (by (try simp); (try omega)) _))⟩
  rw [decide_eq_true h3] at HX q3
  clear h3
  cases q
  · go_enter Tryz.func42, Tryz.ntmps42
    go_wp2_with fail
    generalize hW : (w.alloc (.cells #[.string src, .int .i64 kind, .string place, .string val_, .int .i64 lo, .int .i64 hi, .int .i64 weight] 66)).alloc (.cells #[.string src', .int .i64 kind', .string place', .string val_', .int .i64 lo', .int .i64 hi', .int .i64 weight'] 66) = W
    obtain ⟨b0, b1, bw, _⟩ := KN.out W hW.symm
    clear hW
    refine (HP.out W).mono ?_; rintro e w1 ⟨rfl, c1⟩
    have B1 := Lib.hid (bw.trans (c1.mono bw.size))
    obtain ⟨k0, k1, k2, k3, k4, k5, k6⟩ := cells_7 (b0.below c1 b0.lt)
    obtain ⟨l0, l1, l2, l3, l4, l5, l6⟩ := cells_7 (b1.below c1 b1.lt)
    clear b0 b1 bw c1
    go_wp2_with fail
    go_ret
    exact ⟨ret_bool (by rw [HX.out]; rfl), B1.out⟩
  by_cases h6 : weight = weight'
  rotate_left
  · have q6 : (weight != weight') = true := by simpa using h6
    rw [decide_eq_false h6] at HX
    clear h6
    go_enter Tryz.func42, Tryz.ntmps42
    go_wp2_with fail
    generalize hW : (w.alloc (.cells #[.string src, .int .i64 kind, .string place, .string val_, .int .i64 lo, .int .i64 hi, .int .i64 weight] 66)).alloc (.cells #[.string src', .int .i64 kind', .string place', .string val_', .int .i64 lo', .int .i64 hi', .int .i64 weight'] 66) = W
    obtain ⟨b0, b1, bw, _⟩ := KN.out W hW.symm
    clear hW
    refine (HP.out W).mono ?_; rintro e w1 ⟨rfl, c1⟩
    have B1 := Lib.hid (bw.trans (c1.mono bw.size))
    obtain ⟨k0, k1, k2, k3, k4, k5, k6⟩ := cells_7 (b0.below c1 b0.lt)
    obtain ⟨l0, l1, l2, l3, l4, l5, l6⟩ := cells_7 (b1.below c1 b1.lt)
    clear b0 b1 bw c1
    go_wp2_with fail
    go_ret
    exact ⟨ret_bool (by rw [HX.out]; rfl), B1.out⟩
  have q6 : (weight != weight') = false := by simpa using h6
  rw [decide_eq_true h6] at HX
  clear h6
  go_enter Tryz.func42, Tryz.ntmps42
  go_wp2_with fail
  generalize hW : (w.alloc (.cells #[.string src, .int .i64 kind, .string place, .string val_, .int .i64 lo, .int .i64 hi, .int .i64 weight] 66)).alloc (.cells #[.string src', .int .i64 kind', .string place', .string val_', .int .i64 lo', .int .i64 hi', .int .i64 weight'] 66) = W
  obtain ⟨b0, b1, bw, _⟩ := KN.out W hW.symm
  clear hW
  refine (HP.out W).mono ?_; rintro e w1 ⟨rfl, c1⟩
  have B1 := Lib.hid (bw.trans (c1.mono bw.size))
  obtain ⟨k0, k1, k2, k3, k4, k5, k6⟩ := cells_7 (b0.below c1 b0.lt)
  obtain ⟨l0, l1, l2, l3, l4, l5, l6⟩ := cells_7 (b1.below c1 b1.lt)
  clear b0 b1 bw c1
  go_wp2_with fail
  go_ret
  exact ⟨ret_bool (by rw [HX.out]; rfl), B1.out⟩
set_option maxRecDepth 100000 in
theorem toClmS_any (xs : List Clm) (A : Option Addr) (c : Nat) (w : World) (hr : Reads w w.heap.size 7 A xs.length (clC xs)) (hm : xs.length ≤ 1048576) :
    Calls Tryz.prog 10 #[.slice A xs.length c] w fun e w' => e = .returned (.slice (some ⟨w.heap.size, 0, none⟩) xs.length xs.length) ∧ Blk w' w.heap.size 66 (clC xs).toArray ∧ Below w.heap.size w w' := by
  obtain ⟨i0, hi, hz, hsz, hby⟩ := info_parts infoClm
  have hmk := fun W => run_make_rowN (P := Tryz.prog) 29 66 i0 _ Tryz.underlying29 hi hz .i64 .i64 xs.length xs.length (Nat.le_refl _) (by rw [hby]; omega) (by omega) W
  go_enter Tryz.func10, Tryz.ntmps10
  go_wp2
  go_loopw [4] (fun v4 wr => ∃ k : Nat, k ≤ xs.length ∧ Copied wr w.heap.size 66 (k * 7) (clC xs) ∧ Below w.heap.size w wr ∧ v4 = .int .i64 k) (fun i _ => xs.length - (intOf i).toNat)
  case atStart => exact ⟨0, Nat.zero_le _, by simpa using Copied.start w _ _ (by rw [size_madeCells, clC_len]), (Below.refl _ _).alloc (Nat.le_refl _) _, rfl⟩
  case round =>
    obtain ⟨k, hk, hcp, hb, rfl⟩ := hrel
    have hg := hcp.lt
    by_cases hlt : k < xs.length
    · obtain ⟨ab, ao, rfl, hadb, hcell⟩ := (hr.below hb).2 (by omega)
      obtain ⟨e0, e1, e2, e3, e4, e5, e6⟩ := clC_get xs k hlt
      have c0 := hcell _ _ e0
      have c1 := hcell _ _ e1
      have c2 := hcell _ _ e2
      have c3 := hcell _ _ e3
      have c4 := hcell _ _ e4
      have c5 := hcell _ _ e5
      have c6 := hcell _ _ e6
      rw [← Nat.add_assoc] at c1 c2 c3 c4 c5 c6
      clear hcell hr
      obtain ⟨⟨u0, d0⟩, f0⟩ := hcp.cell (j := k * 7) (by rw [clC_len]; omega)
      obtain ⟨⟨u1, d1⟩, f1⟩ := hcp.cell (j := k * 7 + 1) (by rw [clC_len]; omega)
      obtain ⟨⟨u2, d2⟩, f2⟩ := hcp.cell (j := k * 7 + 2) (by rw [clC_len]; omega)
      obtain ⟨⟨u3, d3⟩, f3⟩ := hcp.cell (j := k * 7 + 3) (by rw [clC_len]; omega)
      obtain ⟨⟨u4, d4⟩, f4⟩ := hcp.cell (j := k * 7 + 4) (by rw [clC_len]; omega)
      obtain ⟨⟨u5, d5⟩, f5⟩ := hcp.cell (j := k * 7 + 5) (by rw [clC_len]; omega)
      obtain ⟨⟨u6, d6⟩, f6⟩ := hcp.cell (j := k * 7 + 6) (by rw [clC_len]; omega)
      have E0 := Lib.hid e0; clear e0
      have E1 := Lib.hid e1; clear e1
      have E2 := Lib.hid e2; clear e2
      have E3 := Lib.hid e3; clear e3
      have E4 := Lib.hid e4; clear e4
      have E5 := Lib.hid e5; clear e5
      have E6 := Lib.hid e6; clear e6
      generalize xs[k] = b at c0 c1 c2 c3 c4 c5 c6 E0 E1 E2 E3 E4 E5 E6
      go_wp2_with fail
      refine (toClm_any b _).mono ?_; rintro e w1 ⟨rfl, hb1⟩
      obtain ⟨hc1, hf1⟩ := bcell hb1
      unfold Clm.val
      go_wp2_with fail
      go_roundw
      case rel => exact ⟨k + 1, by omega, by rw [show (k + 1) * 7 = k * 7 + 1 + 1 + 1 + 1 + 1 + 1 + 1 from by omega]; exact (((((((hcp.below hb1 hg).set_ E0.out).set_ E1.out).set_ E2.out).set_ E3.out).set_ E4.out).set_ E5.out).set_ E6.out, ((((((((hb.trans (hb1.mono hb.size)).setCell (Nat.le_refl _) _).setCell (Nat.le_refl _) _).setCell (Nat.le_refl _) _).setCell (Nat.le_refl _) _).setCell (Nat.le_refl _) _).setCell (Nat.le_refl _) _).setCell (Nat.le_refl _) _), by go_num⟩
      case measure => simp [intOf]; omega
    · obtain rfl : k = xs.length := by omega
      go_wp2
      go_ret
      exact ⟨rfl, Copied.done (by rw [clC_len]; exact hcp), hb⟩
theorem clm_pair {xs ys : List Clm} {k : Nat} (hl : xs.length = ys.length) (hlt : k < xs.length) (ht : xs.take k = ys.take k) (h1 : xs[k] = ys[k]) : xs.take (k + 1) = ys.take (k + 1) := by
  rw [List.take_succ_eq_append_getElem hlt, List.take_succ_eq_append_getElem (by omega), ht, h1]
set_option maxRecDepth 100000 in
theorem eqClmS_any (xs ys : List Clm) (A A' : Option Addr) (c c' : Nat) (w : World) (hr : Reads w w.heap.size 7 A xs.length (clC xs)) (hr' : Reads w w.heap.size 7 A' ys.length (clC ys)) (hm : xs.length ≤ 9223372036854775807) :
    Calls Tryz.prog 13 #[.slice A xs.length c, .slice A' ys.length c'] w fun e w' => e = .returned (.bool (decide (xs = ys))) ∧ Below w.heap.size w w' := by
  by_cases hl : xs.length = ys.length
  · have HL := Lib.hid hl
    have hl1 : xs.length ≤ ys.length := by omega
    have hl2 : ys.length ≤ xs.length := by omega
    have hne : ((xs.length : Int) != (ys.length : Int)) = false := by rw [bne_eq_false_iff_eq]; omega
    clear hl
    go_enter Tryz.func13, Tryz.ntmps13
    go_wp2
    go_loopw [5] (fun v5 wr => ∃ k : Nat, k ≤ xs.length ∧ Hid (xs.take k = ys.take k) ∧ Below w.heap.size w wr ∧ v5 = .int .i64 k) (fun i _ => xs.length - (intOf i).toNat)
    case atStart => exact ⟨0, Nat.zero_le _, by simp [Hid], Below.refl _ _, rfl⟩
    case round =>
      obtain ⟨k, hk, HT, hb, rfl⟩ := hrel
      by_cases hlt : k < xs.length
      · obtain ⟨ab, ao, rfl, hadb, hcell⟩ := (hr.below hb).2 (by omega)
        obtain ⟨ab', ao', rfl, hadb', hcell'⟩ := (hr'.below hb).2 (by omega)
        obtain ⟨e0, e1, e2, e3, e4, e5, e6⟩ := clC_get xs k hlt
        obtain ⟨e0', e1', e2', e3', e4', e5', e6'⟩ := clC_get ys k (by omega)
        have c0 := hcell _ _ e0
        have c1 := hcell _ _ e1
        have c2 := hcell _ _ e2
        have c3 := hcell _ _ e3
        have c4 := hcell _ _ e4
        have c5 := hcell _ _ e5
        have c6 := hcell _ _ e6
        have c0' := hcell' _ _ e0'
        have c1' := hcell' _ _ e1'
        have c2' := hcell' _ _ e2'
        have c3' := hcell' _ _ e3'
        have c4' := hcell' _ _ e4'
        have c5' := hcell' _ _ e5'
        have c6' := hcell' _ _ e6'
        rw [← Nat.add_assoc] at c1 c1' c2 c2' c3 c3' c4 c4' c5 c5' c6 c6'
        clear hcell hr hcell' hr' e0 e0' e1 e1' e2 e2' e3 e3' e4 e4' e5 e5' e6 e6'
        have hlt' : k < ys.length := by omega
        by_cases heq : xs[k] = ys[k]
        · have hd : decide (xs[k] = ys[k]) = true := by rw [heq]; simp
          have HN := Lib.hid (clm_pair HL.out hlt HT.out heq)
          clear heq
          have HD := Lib.hid hd; clear hd
          go_wp2_with fail
          go_still_tail 8, (by kernel_rfl)
          change wpList _ _ _ _ _ (World.drew _)
          go_wp2_with fail
          refine (eqClm_any xs[k] ys[k] _).mono ?_; rw [HD.out]; rintro e w1 ⟨rfl, hb1⟩
          go_wp2_with fail
          go_roundw
          case rel => exact ⟨k + 1, by omega, HN, hb.drew.trans (hb1.mono hb.size), by go_num⟩
          case measure => simp [intOf]; omega
        · have hd : decide (xs[k] = ys[k]) = false := by rw [decide_eq_false_iff_not]; exact heq
          have HN := Lib.hid (show xs ≠ ys from fun h => heq (by subst h; rfl))
          clear heq
          have HD := Lib.hid hd; clear hd
          go_wp2_with fail
          go_still_tail 8, (by kernel_rfl)
          change wpList _ _ _ _ _ (World.drew _)
          go_wp2_with fail
          refine (eqClm_any xs[k] ys[k] _).mono ?_; rw [HD.out]; rintro e w1 ⟨rfl, hb1⟩
          go_wp2_with fail
          go_ret
          exact ⟨ret_bool (decide_eq_false HN.out).symm, hb.drew.trans (hb1.mono hb.size)⟩
      · obtain rfl : k = xs.length := by omega
        go_wp2
        go_ret
        refine ⟨ret_bool (decide_eq_true ?_).symm, hb⟩
        have := HT.out
        rwa [List.take_length, HL.out, List.take_length] at this
  · have hne : ((xs.length : Int) != (ys.length : Int)) = true := by rw [bne_iff_ne]; omega
    have HN := Lib.hid (show xs ≠ ys from fun h => hl (by rw [h]))
    clear hl
    go_enter Tryz.func13, Tryz.ntmps13
    go_wp2
    go_ret
    exact ⟨ret_bool (decide_eq_false HN.out).symm, Below.refl _ _⟩
/-- What a walk needs: the list lies in memory, and its strings are not too long. -/
def HasClm (w : World) (xs : List Clm) (A : Option Addr) : Prop := Reads w w.heap.size 7 A xs.length (clC xs) ∧ xs.length ≤ 9223372036854775807 ∧ ∀ b ∈ xs, b.Ok
theorem HasClm.below {w w' : World} {xs : List Clm} {A : Option Addr} (h : HasClm w xs A) (hb : Below w.heap.size w w') : HasClm w' xs A := ⟨(h.1.below hb).more hb.size, h.2⟩
end Go.Proofs.YthlpclnfnfbeiaaGreatDoor
