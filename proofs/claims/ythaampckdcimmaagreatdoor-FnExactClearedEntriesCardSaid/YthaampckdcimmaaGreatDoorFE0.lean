/- Entry: their cells; the law's own helpers over them: sizes, copies, comparisons. -/
import Derived.Test.YthaampckdcimmaaGreatDoorRows
import Derived.Test.YthaampckdcimmaaGreatDoorL0
import Derived.Test.YthaampckdcimmaaGreatDoorM0
import Derived.WalkKit
import Derived.ProofKit
import Derived.OpenShut
import Derived.BigQuiet
import Derived.Outline
import Derived.WalkSpells
import Derived.WalkLawsBesides
import Derived.Deep.DeepCutAuto
import Derived.Test.YthaampckdcimmaaGreatDoorM1
import Derived.Test.YthaampckdcimmaaGreatDoorW0
import Derived.Test.YthaampckdcimmaaGreatDoorFA
import Derived.Lib.Hide
import Derived.StillTailTactics
namespace Go.Proofs.YthaampckdcimmaaGreatDoor
open Go.ChangeShapes Go.WideShapes Go.ChangeAt Go.RowKit

structure Ent where
  text : ByteArray
  x : Int
  y : Int
  since : Int
def Ent.val (b : Ent) : Value := .agg #[.string b.text, .int .i64 b.x, .int .i64 b.y, .int .i64 b.since]
/-- Strings that are not too long. -/
def Ent.Ok (b : Ent) : Prop := b.text.size ≤ 9223372036854775807
def Ent.cells (b : Ent) : List Value := [.string b.text, .int .i64 b.x, .int .i64 b.y, .int .i64 b.since]
def enC (xs : List Ent) : List Value := xs.flatMap Ent.cells
theorem enC_len (xs : List Ent) : (enC xs).length = xs.length * 4 := by
  induction xs with
  | nil => rfl
  | cons x r ih => simp [enC, Ent.cells] at *; omega
theorem enC_get (xs : List Ent) (k : Nat) (h : k < xs.length) : (enC xs)[k * 4]? = some (.string xs[k].text) ∧ (enC xs)[k * 4 + 1]? = some (.int .i64 xs[k].x) ∧ (enC xs)[k * 4 + 2]? = some (.int .i64 xs[k].y) ∧ (enC xs)[k * 4 + 3]? = some (.int .i64 xs[k].since) := by
  induction xs generalizing k with
  | nil => simp at h
  | cons x r ih =>
    cases k with
    | zero => simp [enC, Ent.cells]
    | succ k =>
      obtain ⟨i0, i1, i2, i3⟩ := ih k (by simpa using h)
      simp only [enC, List.flatMap_cons, Ent.cells] at i0 i1 i2 i3 ⊢
      refine ⟨?_, ?_, ?_, ?_⟩
      · rw [show (k + 1) * 4 = k * 4 + 1 + 1 + 1 + 1 from by omega]; simpa using i0
      · rw [show (k + 1) * 4 + 1 = k * 4 + 1 + 1 + 1 + 1 + 1 from by omega]; simpa using i1
      · rw [show (k + 1) * 4 + 2 = k * 4 + 2 + 1 + 1 + 1 + 1 from by omega]; simpa using i2
      · rw [show (k + 1) * 4 + 3 = k * 4 + 3 + 1 + 1 + 1 + 1 from by omega]; simpa using i3
theorem enC_one (xs : List Ent) : ∀ u ∈ enC xs, u.oneCell' = true := by
  intro u hu
  simp only [enC, List.mem_flatMap] at hu
  obtain ⟨s, _, h⟩ := hu
  simp [Ent.cells] at h
  rcases h with rfl | rfl | rfl | rfl <;> rfl

/-- What is left of the size: -1 if it is too large. -/
def szEnt (left : Int) (b : Ent) : Int := if left - b.text.size < 0 then -1 else left - b.text.size
theorem szEnt_pos {left : Int} {b : Ent} (h : 0 ≤ szEnt left b) : (b.text.size : Int) ≤ left ∧ szEnt left b ≤ left := by
  unfold szEnt at h ⊢
  repeat' split at h
  all_goals first | omega | (simp only [*, if_false]; omega)
def szEntTo (left : Int) : List Ent → Int
  | [] => left
  | b :: r => if szEnt left b < 0 then -1 else szEntTo (szEnt left b) r
def szEntS (left : Int) (xs : List Ent) : Int := if left - xs.length < 0 then -1 else szEntTo (left - xs.length) xs
theorem szEntTo_pos {left : Int} (xs : List Ent) (h : 0 ≤ szEntTo left xs) : (∀ b ∈ xs, (b.text.size : Int) ≤ left) ∧ szEntTo left xs ≤ left := by
  induction xs generalizing left with
  | nil => exact ⟨fun b hb => by simp at hb, Int.le_refl _⟩
  | cons x r ih =>
    unfold szEntTo at h ⊢
    split at h
    · omega
    · rename_i hn
      have hp := szEnt_pos (left := left) (b := x) (by omega)
      obtain ⟨i1, i2⟩ := ih h
      rw [if_neg hn]
      refine ⟨fun b hb => ?_, by omega⟩
      rcases List.mem_cons.1 hb with rfl | hb
      · simp only [hp, and_self]
      · have := i1 b hb; omega
theorem szEntS_pos {left : Int} {xs : List Ent} (hl : left ≤ 1048576) (h : 0 ≤ szEntS left xs) : xs.length ≤ 1048576 ∧ (∀ b ∈ xs, b.text.size ≤ 1048576) ∧ szEntS left xs ≤ left := by
  unfold szEntS at h ⊢
  split at h
  · omega
  · rename_i hn
    rw [if_neg hn]
    obtain ⟨h1, h2⟩ := szEntTo_pos xs h
    exact ⟨by omega, fun b hb => (by have := h1 b hb; omega), by omega⟩
set_option maxRecDepth 100000 in
theorem szEnt_any (b : Ent) (hb : b.Ok) (left : Int) (h0 : 0 ≤ left) (h1 : left ≤ 1048576) (w : World) :
    Calls Tryz.prog 55 #[b.val, .int .i64 left] w fun e w' => e = .returned (.int .i64 (szEnt left b)) ∧ Below w.heap.size w w' := by
  obtain ⟨text, x, y, since⟩ := b
  have s0 := hb
  unfold Ent.Ok at s0
  dsimp only at s0
  unfold Ent.val szEnt
  dsimp only
  by_cases c0 : left - text.size < 0
  · rw [if_pos c0]
    go_enter Tryz.func55, Tryz.ntmps55
    go_wp2
    go_ret
    exact ⟨rfl, by (repeat (first | exact Below.refl _ _ | assumption | refine Below.drew ?_ | refine below_drewN' ?_ _ | refine Below.alloc ?_ (by (try simp); (try omega)) _ | refine Below.setCell ?_ (by (try simp); (try omega)) _))⟩
  · rw [if_neg c0]
    go_enter Tryz.func55, Tryz.ntmps55
    go_wp2
    go_ret
    exact ⟨rfl, by (repeat (first | exact Below.refl _ _ | assumption | refine Below.drew ?_ | refine below_drewN' ?_ _ | refine Below.alloc ?_ (by (try simp); (try omega)) _ | refine Below.setCell ?_ (by (try simp); (try omega)) _))⟩
set_option maxRecDepth 100000 in
theorem szEntS_any (xs : List Ent) (A : Option Addr) (c : Nat) (left : Int) (h0 : 0 ≤ left) (h1 : left ≤ 1048576) (w : World) (hr : Reads w w.heap.size 4 A xs.length (enC xs)) (hm : xs.length ≤ 9223372036854775807) (hn : ∀ b ∈ xs, b.Ok) :
    Calls Tryz.prog 18 #[.slice A xs.length c, .int .i64 left] w fun e w' => e = .returned (.int .i64 (szEntS left xs)) ∧ Below w.heap.size w w' := by
  have HR := Lib.hid hr; clear hr
  have HN := Lib.hid hn; clear hn
  by_cases hbig : left - xs.length < 0
  · rw [szEntS, if_pos hbig]
    go_enter Tryz.func18, Tryz.ntmps18
    go_wp2
    go_ret
    exact ⟨rfl, Below.refl _ _⟩
  · have HZ := Lib.hid (show szEntS left xs = szEntTo (left - xs.length) xs by rw [szEntS, if_neg hbig])
    generalize szEntS left xs = z at HZ ⊢
    go_enter Tryz.func18, Tryz.ntmps18
    go_wp2_with fail
    go_loopw [1, 5] (fun v1 v5 wr => ∃ (k : Nat) (lf : Int), k ≤ xs.length ∧ 0 ≤ lf ∧ lf ≤ 1048576 ∧ Hid (szEntTo (left - xs.length) xs = szEntTo lf (xs.drop k)) ∧ Hid (Below w.heap.size w wr) ∧ v1 = .int .i64 lf ∧ v5 = .int .i64 k) (fun _ i _ => xs.length - (intOf i).toNat)
    case atStart => exact ⟨0, left - xs.length, by omega, by omega, by omega, rfl, Below.refl _ _, rfl, rfl⟩
    case round =>
      obtain ⟨k, lf, hk, hl0, hl1, HL, BW, rfl, rfl⟩ := hrel
      by_cases hlt : k < xs.length
      · obtain ⟨ab, ao, rfl, hadb, hcell⟩ := (HR.out.below BW.out).2 (by omega)
        obtain ⟨e0, e1, e2, e3⟩ := enC_get xs k hlt
        have c0 := hcell _ _ e0
        have c1 := hcell _ _ e1
        have c2 := hcell _ _ e2
        have c3 := hcell _ _ e3
        rw [← Nat.add_assoc] at c1 c2 c3
        clear hcell e0 e1 e2 e3
        have hok := Lib.hid (HN.out xs[k] (List.getElem_mem hlt))
        have HD := Lib.hid (show szEntTo lf (xs.drop k) = if szEnt lf xs[k] < 0 then -1 else szEntTo (szEnt lf xs[k]) (xs.drop (k + 1)) by rw [List.drop_eq_getElem_cons hlt]; rfl)
        have HC := Lib.hid (szEnt_any xs[k] hok.out lf hl0 hl1)
        have HP := Lib.hid (fun (h : 0 ≤ szEnt lf xs[k]) => (szEnt_pos (left := lf) (b := xs[k]) h).2)
        generalize szEnt lf xs[k] = r at HD HC HP
        generalize xs[k] = b at c0 c1 c2 c3 HC
        unfold Ent.val at HC
        go_wp2_with fail
        refine (HC.out wr).mono ?_
        by_cases hneg : r < 0
        · rw [if_pos hneg] at HD
          rintro e w1 ⟨rfl, b1⟩
          go_wp2_with fail
          go_ret
          exact ⟨ret_int (by rw [HZ.out, HL.out, HD.out]), BW.out.trans (b1.mono BW.out.size)⟩
        · rw [if_neg hneg] at HD
          have hp := HP.out (by omega)
          rintro e w1 ⟨rfl, b1⟩
          go_wp2_with fail
          go_roundw
          case rel => exact ⟨k + 1, r, by omega, by omega, by omega, HL.out.trans HD.out, BW.out.trans (b1.mono BW.out.size), rfl, by go_num⟩
          case measure => simp [intOf]; omega
      · obtain rfl : k = xs.length := by omega
        go_wp2_with fail
        go_ret
        exact ⟨ret_int (by rw [HZ.out, HL.out]; simp [szEntTo]), BW.out⟩
theorem toPoint_any (x y : Int) (w : World) :
    Calls Tryz.prog 89 #[.agg #[.int .i64 x, .int .i64 y]] w fun e w' => e = .returned (.agg #[.int .i64 x, .int .i64 y]) ∧ Below w.heap.size w w' := by
  go_enter Tryz.func89, Tryz.ntmps89
  go_wp2
  refine bodyPost_ret (v := .agg #[.int .i64 x, .int .i64 y]) (by simp [results, Tryz.results89, go_sem]) rfl ⟨rfl, ?_⟩
  (repeat (first | exact Below.refl _ _ | assumption | refine Below.drew ?_ | refine below_drewN' ?_ _ | refine Below.alloc ?_ (by (try simp); (try omega)) _ | refine Below.setCell ?_ (by (try simp); (try omega)) _))
theorem eqPoint_any (x y x' y' : Int) (w : World) :
    Calls Tryz.prog 97 #[.agg #[.int .i64 x, .int .i64 y], .agg #[.int .i64 x', .int .i64 y']] w fun e w' => e = .returned (.bool (decide (x = x') && decide (y = y'))) ∧ Below w.heap.size w w' := by
  go_enter Tryz.func97, Tryz.ntmps97
  go_wp2
  all_goals
    go_ret
    refine ⟨ret_bool ?_, ?_⟩
    · simp only [bne_iff_ne, bne_eq_false_iff_eq, ne_eq, Bool.not_eq_true', Bool.not_eq_false', decide_eq_true_eq, decide_eq_false_iff_not] at *; simp [*]
    · (repeat (first | exact Below.refl _ _ | assumption | refine Below.drew ?_ | refine below_drewN' ?_ _ | refine Below.alloc ?_ (by (try simp); (try omega)) _ | refine Below.setCell ?_ (by (try simp); (try omega)) _))
theorem infoEnt : (Tryz.prog.info? 28).map (fun i => (i.zero, i.size, i.bytes)) = some (some (.agg #[.string ⟨#[]⟩, .int .i64 0, .int .i64 0, .int .i64 0]), 4, 40) := by kernel_rfl
theorem toEnt_any (b : Ent) (w : World) :
    Calls Tryz.prog 60 #[b.val] w fun e w' => e = .returned b.val ∧ Below w.heap.size w w' := by
  obtain ⟨text, x, y, since⟩ := b
  unfold Ent.val
  dsimp only
  have KN := Lib.hid (blks_three w 77 28 28 #[.string text, .int .i64 x, .int .i64 y, .int .i64 since] #[.string ⟨#[]⟩, .int .i64 0, .int .i64 0, .int .i64 0] #[.string text, .int .i64 0, .int .i64 0, .int .i64 0])
  have HP := Lib.hid (toPoint_any x y)
  go_enter Tryz.func60, Tryz.ntmps60
  go_wp2_with fail
  generalize hW : ((w.alloc (.cells #[.string text, .int .i64 x, .int .i64 y, .int .i64 since] 77)).alloc (.cells #[.string ⟨#[]⟩, .int .i64 0, .int .i64 0, .int .i64 0] 28)).alloc (.cells #[.string text, .int .i64 0, .int .i64 0, .int .i64 0] 28) = W
  obtain ⟨b0, b1, b2, bw, _⟩ := KN.out W hW.symm
  clear hW
  refine (HP.out W).mono ?_; rintro e w1 ⟨rfl, c1⟩
  have B1 := Lib.hid (bw.trans (c1.mono bw.size))
  have K0 := b0.below c1 b0.lt
  have K1 := b1.below c1 b1.lt
  have K2 := b2.below c1 b2.lt
  have K3 := K2.set_ 1 (.int .i64 x)
  have K4 := K3.set_ 2 (.int .i64 y)
  have K5 := K4.set_ 3 (.int .i64 since)
  simp only [List.setIfInBounds_toArray, List.set_cons_succ, List.set_cons_zero] at K3 K4 K5
  have R4 := (((K1.far (p := ⟨w.heap.size + 2, 1, none⟩) (by simp) (.int .i64 x)).far (p := ⟨w.heap.size + 2, 2, none⟩) (by simp) (.int .i64 y)).far (p := ⟨w.heap.size + 2, 3, none⟩) (by simp) (.int .i64 since))
  obtain ⟨p1_0, p1_1, p1_2, p1_3⟩ := cells_4 (K0.far (p := ⟨w.heap.size + 2, 1, none⟩) (by simp) (.int .i64 x))
  obtain ⟨p2_0, p2_1, p2_2, p2_3⟩ := cells_4 ((K0.far (p := ⟨w.heap.size + 2, 1, none⟩) (by simp) (.int .i64 x)).far (p := ⟨w.heap.size + 2, 2, none⟩) (by simp) (.int .i64 y))
  obtain ⟨p3_0, p3_1, p3_2, p3_3⟩ := cells_4 (((K0.far (p := ⟨w.heap.size + 2, 1, none⟩) (by simp) (.int .i64 x)).far (p := ⟨w.heap.size + 2, 2, none⟩) (by simp) (.int .i64 y)).far (p := ⟨w.heap.size + 2, 3, none⟩) (by simp) (.int .i64 since))
  obtain ⟨p_0, p_1, p_2, p_3⟩ := cells_4 K0
  obtain ⟨m2_0, m2_1, m2_2, m2_3⟩ := cells_4 K2
  obtain ⟨m3_0, m3_1, m3_2, m3_3⟩ := cells_4 K3
  obtain ⟨m4_0, m4_1, m4_2, m4_3⟩ := cells_4 K4
  obtain ⟨m5_0, m5_1, m5_2, m5_3⟩ := cells_4 K5
  have f1 := K2.frozen 1
  have f2 := K3.frozen 2
  have f3 := K4.frozen 3
  obtain ⟨g0, g1, g2, g3, g4, g5, g6, g7, g8, g9, g10, g11⟩ := facts_4 R4
  clear b0 b1 b2 bw c1
  go_wp2_with fail
  refine bodyPost_ret (v := .agg #[.string text, .int .i64 x, .int .i64 y, .int .i64 since]) (by simp [results, Tryz.results60, go_sem, g8, g9, g10, g11]) rfl ⟨rfl, ?_⟩
  exact (((((((B1.out.setCell (by dsimp only; omega) _).setCell (by dsimp only; omega) _).setCell (by dsimp only; omega) _).setCell (by dsimp only; omega) _).setCell (by dsimp only; omega) _).setCell (by dsimp only; omega) _).setCell (by dsimp only; omega) _)
instance : DecidableEq Ent := fun a b => by
  cases a; cases b
  rw [Ent.mk.injEq]
  infer_instance
set_option maxRecDepth 100000 in
theorem eqEnt_any (u1 u2 : Ent) (w : World) :
    Calls Tryz.prog 66 #[u1.val, u2.val] w fun e w' => e = .returned (.bool (decide (u1 = u2))) ∧ Below w.heap.size w w' := by
  obtain ⟨text, x, y, since⟩ := u1
  obtain ⟨text', x', y', since'⟩ := u2
  have HX := Lib.hid (show decide ((⟨text, x, y, since⟩ : Ent) = ⟨text', x', y', since'⟩) = (decide (text = text') && ((decide (x = x') && decide (y = y')) && decide (since = since'))) by simp [Bool.and_assoc])
  generalize decide ((⟨text, x, y, since⟩ : Ent) = ⟨text', x', y', since'⟩) = r at HX ⊢
  have HP := Lib.hid (eqPoint_any x y x' y')
  generalize (decide (x = x') && decide (y = y')) = q at HX HP
  have KN := Lib.hid (blks_two w 28 28 #[.string text, .int .i64 x, .int .i64 y, .int .i64 since] #[.string text', .int .i64 x', .int .i64 y', .int .i64 since'])
  unfold Ent.val
  dsimp only
  have q0 := str_eq text text'
  by_cases h0 : text = text'
  rotate_left
  · rw [decide_eq_false h0] at HX q0
    clear h0
    go_enter Tryz.func66, Tryz.ntmps66
    go_wp2_with fail
    go_ret
    exact ⟨ret_bool (by rw [HX.out]; rfl), by (repeat (first | exact Below.refl _ _ | assumption | refine Below.drew ?_ | refine below_drewN' ?_ _ | refine Below.alloc ?_ (by (try simp); (try omega)) _ | refine Below.setCell ?_ (by (try simp); (try omega)) _))⟩
  rw [decide_eq_true h0] at HX q0
  clear h0
  cases q
  · go_enter Tryz.func66, Tryz.ntmps66
    go_wp2_with fail
    generalize hW : (w.alloc (.cells #[.string text, .int .i64 x, .int .i64 y, .int .i64 since] 28)).alloc (.cells #[.string text', .int .i64 x', .int .i64 y', .int .i64 since'] 28) = W
    obtain ⟨b0, b1, bw, _⟩ := KN.out W hW.symm
    clear hW
    refine (HP.out W).mono ?_; rintro e w1 ⟨rfl, c1⟩
    have B1 := Lib.hid (bw.trans (c1.mono bw.size))
    obtain ⟨k0, k1, k2, k3⟩ := cells_4 (b0.below c1 b0.lt)
    obtain ⟨l0, l1, l2, l3⟩ := cells_4 (b1.below c1 b1.lt)
    clear b0 b1 bw c1
    go_wp2_with fail
    go_ret
    exact ⟨ret_bool (by rw [HX.out]; rfl), B1.out⟩
  by_cases h3 : since = since'
  rotate_left
  · have q3 : (since != since') = true := by simpa using h3
    rw [decide_eq_false h3] at HX
    clear h3
    go_enter Tryz.func66, Tryz.ntmps66
    go_wp2_with fail
    generalize hW : (w.alloc (.cells #[.string text, .int .i64 x, .int .i64 y, .int .i64 since] 28)).alloc (.cells #[.string text', .int .i64 x', .int .i64 y', .int .i64 since'] 28) = W
    obtain ⟨b0, b1, bw, _⟩ := KN.out W hW.symm
    clear hW
    refine (HP.out W).mono ?_; rintro e w1 ⟨rfl, c1⟩
    have B1 := Lib.hid (bw.trans (c1.mono bw.size))
    obtain ⟨k0, k1, k2, k3⟩ := cells_4 (b0.below c1 b0.lt)
    obtain ⟨l0, l1, l2, l3⟩ := cells_4 (b1.below c1 b1.lt)
    clear b0 b1 bw c1
    go_wp2_with fail
    go_ret
    exact ⟨ret_bool (by rw [HX.out]; rfl), B1.out⟩
  have q3 : (since != since') = false := by simpa using h3
  rw [decide_eq_true h3] at HX
  clear h3
  go_enter Tryz.func66, Tryz.ntmps66
  go_wp2_with fail
  generalize hW : (w.alloc (.cells #[.string text, .int .i64 x, .int .i64 y, .int .i64 since] 28)).alloc (.cells #[.string text', .int .i64 x', .int .i64 y', .int .i64 since'] 28) = W
  obtain ⟨b0, b1, bw, _⟩ := KN.out W hW.symm
  clear hW
  refine (HP.out W).mono ?_; rintro e w1 ⟨rfl, c1⟩
  have B1 := Lib.hid (bw.trans (c1.mono bw.size))
  obtain ⟨k0, k1, k2, k3⟩ := cells_4 (b0.below c1 b0.lt)
  obtain ⟨l0, l1, l2, l3⟩ := cells_4 (b1.below c1 b1.lt)
  clear b0 b1 bw c1
  go_wp2_with fail
  go_ret
  exact ⟨ret_bool (by rw [HX.out]; rfl), B1.out⟩
set_option maxRecDepth 100000 in
theorem toEntS_any (xs : List Ent) (A : Option Addr) (c : Nat) (w : World) (hr : Reads w w.heap.size 4 A xs.length (enC xs)) (hm : xs.length ≤ 1048576) :
    Calls Tryz.prog 20 #[.slice A xs.length c] w fun e w' => e = .returned (.slice (some ⟨w.heap.size, 0, none⟩) xs.length xs.length) ∧ Blk w' w.heap.size 28 (enC xs).toArray ∧ Below w.heap.size w w' := by
  obtain ⟨i0, hi, hz, hsz, hby⟩ := info_parts infoEnt
  have hmk := fun W => run_make_rowN (P := Tryz.prog) 24 28 i0 _ Tryz.underlying24 hi hz .i64 .i64 xs.length xs.length (Nat.le_refl _) (by rw [hby]; omega) (by omega) W
  go_enter Tryz.func20, Tryz.ntmps20
  go_wp2
  go_loopw [4] (fun v4 wr => ∃ k : Nat, k ≤ xs.length ∧ Copied wr w.heap.size 28 (k * 4) (enC xs) ∧ Below w.heap.size w wr ∧ v4 = .int .i64 k) (fun i _ => xs.length - (intOf i).toNat)
  case atStart => exact ⟨0, Nat.zero_le _, by simpa using Copied.start w _ _ (by rw [size_madeCells, enC_len]), (Below.refl _ _).alloc (Nat.le_refl _) _, rfl⟩
  case round =>
    obtain ⟨k, hk, hcp, hb, rfl⟩ := hrel
    have hg := hcp.lt
    by_cases hlt : k < xs.length
    · obtain ⟨ab, ao, rfl, hadb, hcell⟩ := (hr.below hb).2 (by omega)
      obtain ⟨e0, e1, e2, e3⟩ := enC_get xs k hlt
      have c0 := hcell _ _ e0
      have c1 := hcell _ _ e1
      have c2 := hcell _ _ e2
      have c3 := hcell _ _ e3
      rw [← Nat.add_assoc] at c1 c2 c3
      clear hcell hr
      obtain ⟨⟨u0, d0⟩, f0⟩ := hcp.cell (j := k * 4) (by rw [enC_len]; omega)
      obtain ⟨⟨u1, d1⟩, f1⟩ := hcp.cell (j := k * 4 + 1) (by rw [enC_len]; omega)
      obtain ⟨⟨u2, d2⟩, f2⟩ := hcp.cell (j := k * 4 + 2) (by rw [enC_len]; omega)
      obtain ⟨⟨u3, d3⟩, f3⟩ := hcp.cell (j := k * 4 + 3) (by rw [enC_len]; omega)
      have E0 := Lib.hid e0; clear e0
      have E1 := Lib.hid e1; clear e1
      have E2 := Lib.hid e2; clear e2
      have E3 := Lib.hid e3; clear e3
      generalize xs[k] = b at c0 c1 c2 c3 E0 E1 E2 E3
      go_wp2_with fail
      refine (toEnt_any b _).mono ?_; rintro e w1 ⟨rfl, hb1⟩
      obtain ⟨hc1, hf1⟩ := bcell hb1
      unfold Ent.val
      go_wp2_with fail
      go_roundw
      case rel => exact ⟨k + 1, by omega, by rw [show (k + 1) * 4 = k * 4 + 1 + 1 + 1 + 1 from by omega]; exact ((((hcp.below hb1 hg).set_ E0.out).set_ E1.out).set_ E2.out).set_ E3.out, (((((hb.trans (hb1.mono hb.size)).setCell (Nat.le_refl _) _).setCell (Nat.le_refl _) _).setCell (Nat.le_refl _) _).setCell (Nat.le_refl _) _), by go_num⟩
      case measure => simp [intOf]; omega
    · obtain rfl : k = xs.length := by omega
      go_wp2
      go_ret
      exact ⟨rfl, Copied.done (by rw [enC_len]; exact hcp), hb⟩
theorem ent_pair {xs ys : List Ent} {k : Nat} (hl : xs.length = ys.length) (hlt : k < xs.length) (ht : xs.take k = ys.take k) (h1 : xs[k] = ys[k]) : xs.take (k + 1) = ys.take (k + 1) := by
  rw [List.take_succ_eq_append_getElem hlt, List.take_succ_eq_append_getElem (by omega), ht, h1]
set_option maxRecDepth 100000 in
theorem eqEntS_any (xs ys : List Ent) (A A' : Option Addr) (c c' : Nat) (w : World) (hr : Reads w w.heap.size 4 A xs.length (enC xs)) (hr' : Reads w w.heap.size 4 A' ys.length (enC ys)) (hm : xs.length ≤ 9223372036854775807) :
    Calls Tryz.prog 23 #[.slice A xs.length c, .slice A' ys.length c'] w fun e w' => e = .returned (.bool (decide (xs = ys))) ∧ Below w.heap.size w w' := by
  by_cases hl : xs.length = ys.length
  · have HL := Lib.hid hl
    have hl1 : xs.length ≤ ys.length := by omega
    have hl2 : ys.length ≤ xs.length := by omega
    have hne : ((xs.length : Int) != (ys.length : Int)) = false := by rw [bne_eq_false_iff_eq]; omega
    clear hl
    go_enter Tryz.func23, Tryz.ntmps23
    go_wp2
    go_loopw [5] (fun v5 wr => ∃ k : Nat, k ≤ xs.length ∧ Hid (xs.take k = ys.take k) ∧ Below w.heap.size w wr ∧ v5 = .int .i64 k) (fun i _ => xs.length - (intOf i).toNat)
    case atStart => exact ⟨0, Nat.zero_le _, by simp [Hid], Below.refl _ _, rfl⟩
    case round =>
      obtain ⟨k, hk, HT, hb, rfl⟩ := hrel
      by_cases hlt : k < xs.length
      · obtain ⟨ab, ao, rfl, hadb, hcell⟩ := (hr.below hb).2 (by omega)
        obtain ⟨ab', ao', rfl, hadb', hcell'⟩ := (hr'.below hb).2 (by omega)
        obtain ⟨e0, e1, e2, e3⟩ := enC_get xs k hlt
        obtain ⟨e0', e1', e2', e3'⟩ := enC_get ys k (by omega)
        have c0 := hcell _ _ e0
        have c1 := hcell _ _ e1
        have c2 := hcell _ _ e2
        have c3 := hcell _ _ e3
        have c0' := hcell' _ _ e0'
        have c1' := hcell' _ _ e1'
        have c2' := hcell' _ _ e2'
        have c3' := hcell' _ _ e3'
        rw [← Nat.add_assoc] at c1 c1' c2 c2' c3 c3'
        clear hcell hr hcell' hr' e0 e0' e1 e1' e2 e2' e3 e3'
        have hlt' : k < ys.length := by omega
        by_cases heq : xs[k] = ys[k]
        · have hd : decide (xs[k] = ys[k]) = true := by rw [heq]; simp
          have HN := Lib.hid (ent_pair HL.out hlt HT.out heq)
          clear heq
          have HD := Lib.hid hd; clear hd
          go_wp2_with fail
          go_still_tail 8, (by kernel_rfl)
          change wpList _ _ _ _ _ (World.drew _)
          go_wp2_with fail
          refine (eqEnt_any xs[k] ys[k] _).mono ?_; rw [HD.out]; rintro e w1 ⟨rfl, hb1⟩
          go_wp2_with fail
          go_roundw
          case rel => exact ⟨k + 1, by omega, HN, hb.drew.trans (hb1.mono hb.size), by go_num⟩
          case measure => simp [intOf]; omega
        · have hd : decide (xs[k] = ys[k]) = false := by rw [decide_eq_false_iff_not]; exact heq
          have HN := Lib.hid (show xs ≠ ys from fun h => heq (by subst h; rfl))
          clear heq
          have HD := Lib.hid hd; clear hd
          go_wp2_with fail
          go_still_tail 8, (by kernel_rfl)
          change wpList _ _ _ _ _ (World.drew _)
          go_wp2_with fail
          refine (eqEnt_any xs[k] ys[k] _).mono ?_; rw [HD.out]; rintro e w1 ⟨rfl, hb1⟩
          go_wp2_with fail
          go_ret
          exact ⟨ret_bool (decide_eq_false HN.out).symm, hb.drew.trans (hb1.mono hb.size)⟩
      · obtain rfl : k = xs.length := by omega
        go_wp2
        go_ret
        refine ⟨ret_bool (decide_eq_true ?_).symm, hb⟩
        have := HT.out
        rwa [List.take_length, HL.out, List.take_length] at this
  · have hne : ((xs.length : Int) != (ys.length : Int)) = true := by rw [bne_iff_ne]; omega
    have HN := Lib.hid (show xs ≠ ys from fun h => hl (by rw [h]))
    clear hl
    go_enter Tryz.func23, Tryz.ntmps23
    go_wp2
    go_ret
    exact ⟨ret_bool (decide_eq_false HN.out).symm, Below.refl _ _⟩
/-- What a walk needs: the list lies in memory, and its strings are not too long. -/
def HasEnt (w : World) (xs : List Ent) (A : Option Addr) : Prop := Reads w w.heap.size 4 A xs.length (enC xs) ∧ xs.length ≤ 9223372036854775807 ∧ ∀ b ∈ xs, b.Ok
theorem HasEnt.below {w w' : World} {xs : List Ent} {A : Option Addr} (h : HasEnt w xs A) (hb : Below w.heap.size w w') : HasEnt w' xs A := ⟨(h.1.below hb).more hb.size, h.2⟩
end Go.Proofs.YthaampckdcimmaaGreatDoor
