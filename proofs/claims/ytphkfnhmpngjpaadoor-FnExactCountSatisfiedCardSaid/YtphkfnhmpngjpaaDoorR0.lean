/- Sites: their cells; the law's own helpers over sites: sizes, copies, comparisons. -/
import Derived.Test.YtphkfnhmpngjpaaDoorRows
import Derived.Test.YtphkfnhmpngjpaaDoorL0
import Derived.Test.YtphkfnhmpngjpaaDoorM0
import Derived.WalkKit
import Derived.ProofKit
import Derived.OpenShut
import Derived.BigQuiet
import Derived.Outline
import Derived.WalkSpells
import Derived.WalkLawsBesides
import Derived.Deep.DeepCutAuto
import Derived.Test.YtphkfnhmpngjpaaDoorM1
import Derived.Test.YtphkfnhmpngjpaaDoorW0
import Derived.Test.YtphkfnhmpngjpaaDoorFA
import Derived.Lib.Hide
import Derived.StillTailTactics
namespace Go.Proofs.YtphkfnhmpngjpaaDoor
open Go.ChangeShapes Go.WideShapes Go.ChangeAt Go.RowKit

structure Sit where
  name : ByteArray
  x : Int
  y : Int
def Sit.cells (b : Sit) : List Value := [.string b.name, .int .i64 b.x, .int .i64 b.y]
def Sit.val (b : Sit) : Value := .agg #[.string b.name, .int .i64 b.x, .int .i64 b.y]
def siC (xs : List Sit) : List Value := xs.flatMap Sit.cells
theorem siC_len (xs : List Sit) : (siC xs).length = xs.length * 3 := by
  induction xs with
  | nil => rfl
  | cons x r ih => simp [siC, Sit.cells] at *; omega
theorem siC_get (xs : List Sit) (k : Nat) (h : k < xs.length) : (siC xs)[k * 3]? = some (.string xs[k].name) ∧ (siC xs)[k * 3 + 1]? = some (.int .i64 xs[k].x) ∧ (siC xs)[k * 3 + 2]? = some (.int .i64 xs[k].y) := by
  induction xs generalizing k with
  | nil => simp at h
  | cons x r ih =>
    cases k with
    | zero => simp [siC, Sit.cells]
    | succ k =>
      obtain ⟨i0, i1, i2⟩ := ih k (by simpa using h)
      simp only [siC, List.flatMap_cons, Sit.cells] at i0 i1 i2 ⊢
      refine ⟨?_, ?_, ?_⟩
      · rw [show (k + 1) * 3 = k * 3 + 1 + 1 + 1 from by omega]; simpa using i0
      · rw [show (k + 1) * 3 + 1 = k * 3 + 1 + 1 + 1 + 1 from by omega]; simpa using i1
      · rw [show (k + 1) * 3 + 2 = k * 3 + 2 + 1 + 1 + 1 from by omega]; simpa using i2
theorem siC_one (xs : List Sit) : ∀ u ∈ siC xs, u.oneCell' = true := by
  intro u hu
  simp only [siC, List.mem_flatMap] at hu
  obtain ⟨s, _, h⟩ := hu
  simp [Sit.cells] at h
  rcases h with rfl | rfl | rfl <;> rfl

/-- What is left of the size: -1 if it is too large. -/
def szSiTo (left : Int) : List Sit → Int
  | [] => left
  | b :: r => if left - b.name.size < 0 then -1 else szSiTo (left - b.name.size) r
def szSi (xs : List Sit) : Int := if (1048576 : Int) - xs.length < 0 then -1 else szSiTo (1048576 - xs.length) xs
theorem szSiTo_pos {left : Int} (xs : List Sit) (h : 0 ≤ szSiTo left xs) : ∀ b ∈ xs, (b.name.size : Int) ≤ left := by
  induction xs generalizing left with
  | nil => intro b hb; simp at hb
  | cons x r ih =>
    unfold szSiTo at h
    split at h
    · omega
    · intro b hb
      rcases List.mem_cons.1 hb with rfl | hb
      · omega
      · have := ih h b hb; omega
theorem szSi_pos {xs : List Sit} (h : 0 ≤ szSi xs) : xs.length ≤ 1048576 ∧ ∀ b ∈ xs, b.name.size ≤ 1048576 := by
  unfold szSi at h
  split at h
  · omega
  · refine ⟨by omega, fun b hb => ?_⟩
    have := szSiTo_pos xs h b hb
    omega
theorem szSit_any (b : Sit) (left : Int) (h0 : 0 ≤ left) (h1 : left ≤ 1048576) (hb : b.name.size ≤ 9223372036854775807) (w : World) :
    Calls Tryd.prog 63 #[b.val, .int .i64 left] w fun e w' => e = .returned (.int .i64 (if left - b.name.size < 0 then -1 else left - b.name.size)) ∧ Below w.heap.size w w' := by
  obtain ⟨name, x, y⟩ := b
  dsimp only at hb ⊢
  unfold Sit.val
  dsimp only
  by_cases h : left - name.size < 0
  · rw [if_pos h]
    go_enter Tryd.func63, Tryd.ntmps63
    go_wp2
    go_ret
    exact ⟨rfl, by (repeat (first | exact Below.refl _ _ | assumption | refine Below.drew ?_ | refine below_drewN' ?_ _ | refine Below.alloc ?_ (by (try simp); (try omega)) _ | refine Below.setCell ?_ (by (try simp); (try omega)) _))⟩
  · rw [if_neg h]
    go_enter Tryd.func63, Tryd.ntmps63
    go_wp2
    go_ret
    exact ⟨rfl, by (repeat (first | exact Below.refl _ _ | assumption | refine Below.drew ?_ | refine below_drewN' ?_ _ | refine Below.alloc ?_ (by (try simp); (try omega)) _ | refine Below.setCell ?_ (by (try simp); (try omega)) _))⟩
set_option maxRecDepth 100000 in
theorem szSitS_any (xs : List Sit) (A : Option Addr) (c : Nat) (w : World) (hr : Reads w w.heap.size 3 A xs.length (siC xs)) (hm : xs.length ≤ 9223372036854775807) (hn : ∀ b ∈ xs, b.name.size ≤ 9223372036854775807) :
    Calls Tryd.prog 19 #[.slice A xs.length c, .int .i64 1048576] w fun e w' => e = .returned (.int .i64 (szSi xs)) ∧ Below w.heap.size w w' := by
  have HR := Lib.hid hr; clear hr
  have HN := Lib.hid hn; clear hn
  by_cases hbig : (1048576 : Int) - xs.length < 0
  · rw [szSi, if_pos hbig]
    go_enter Tryd.func19, Tryd.ntmps19
    go_wp2
    go_ret
    exact ⟨rfl, Below.refl _ _⟩
  · have HZ := Lib.hid (show szSi xs = szSiTo (1048576 - xs.length) xs by rw [szSi, if_neg hbig])
    go_enter Tryd.func19, Tryd.ntmps19
    go_wp2_with fail
    go_loopw [1, 5] (fun v1 v5 wr => ∃ (k : Nat) (left : Int), k ≤ xs.length ∧ 0 ≤ left ∧ left ≤ 1048576 ∧ Hid (szSiTo (1048576 - xs.length) xs = szSiTo left (xs.drop k)) ∧ Hid (Below w.heap.size w wr) ∧ v1 = .int .i64 left ∧ v5 = .int .i64 k) (fun _ i _ => xs.length - (intOf i).toNat)
    case atStart => exact ⟨0, 1048576 - xs.length, by omega, by omega, by omega, rfl, Below.refl _ _, rfl, rfl⟩
    case round =>
      obtain ⟨k, left, hk, h0, h1, HL, BW, rfl, rfl⟩ := hrel
      by_cases hlt : k < xs.length
      · obtain ⟨ab, ao, rfl, hadb, hcell⟩ := (HR.out.below BW.out).2 (by omega)
        obtain ⟨e0, e1, e2⟩ := siC_get xs k hlt
        have c0 := hcell _ _ e0
        have c1 := hcell _ _ e1
        have c2 := hcell _ _ e2
        rw [← Nat.add_assoc] at c1 c2
        clear hcell e0 e1 e2
        have hsz := HN.out xs[k] (List.getElem_mem hlt)
        have HD := Lib.hid (show szSiTo left (xs.drop k) = if left - xs[k].name.size < 0 then -1 else szSiTo (left - xs[k].name.size) (xs.drop (k + 1)) by rw [List.drop_eq_getElem_cons hlt]; rfl)
        generalize xs[k] = b at c0 c1 c2 hsz HD
        go_wp2_with fail
        refine (szSit_any b left h0 h1 hsz wr).mono ?_
        by_cases hneg : left - b.name.size < 0
        · rw [if_pos hneg] at HD ⊢
          rintro e w1 ⟨rfl, b1⟩
          go_wp2_with fail
          go_ret
          exact ⟨ret_int (by rw [HZ.out, HL.out, HD.out]), BW.out.trans (b1.mono BW.out.size)⟩
        · rw [if_neg hneg] at HD ⊢
          rintro e w1 ⟨rfl, b1⟩
          go_wp2_with fail
          go_roundw
          case rel => exact ⟨k + 1, left - b.name.size, by omega, by omega, by omega, HL.out.trans HD.out, BW.out.trans (b1.mono BW.out.size), rfl, by go_num⟩
          case measure => simp [intOf]; omega
      · obtain rfl : k = xs.length := by omega
        go_wp2_with fail
        go_ret
        exact ⟨ret_int (by rw [HZ.out, HL.out]; simp [szSiTo]), BW.out⟩

theorem infoSit : (Tryd.prog.info? 86).map (fun i => (i.zero, i.size, i.bytes)) = some (some (.agg #[.string ⟨#[]⟩, .int .i64 0, .int .i64 0]), 3, 32) := by kernel_rfl
theorem toPt_any (x y : Int) (w : World) :
    Calls Tryd.prog 48 #[.agg #[.int .i64 x, .int .i64 y]] w fun e w' => e = .returned (.agg #[.int .i64 x, .int .i64 y]) ∧ Below w.heap.size w w' := by
  go_enter Tryd.func48, Tryd.ntmps48
  go_wp2
  refine bodyPost_ret (v := .agg #[.int .i64 x, .int .i64 y]) (by simp [results, Tryd.results48, go_sem]) rfl ⟨rfl, ?_⟩
  (repeat (first | exact Below.refl _ _ | assumption | refine Below.drew ?_ | refine below_drewN' ?_ _ | refine Below.alloc ?_ (by (try simp); (try omega)) _ | refine Below.setCell ?_ (by (try simp); (try omega)) _))
theorem eqPt_any (x y x' y' : Int) (w : World) :
    Calls Tryd.prog 89 #[.agg #[.int .i64 x, .int .i64 y], .agg #[.int .i64 x', .int .i64 y']] w fun e w' => e = .returned (.bool (decide (x = x') && decide (y = y'))) ∧ Below w.heap.size w w' := by
  go_enter Tryd.func89, Tryd.ntmps89
  go_wp2
  all_goals
    go_ret
    refine ⟨ret_bool ?_, ?_⟩
    · simp only [bne_iff_ne, bne_eq_false_iff_eq, ne_eq, Bool.not_eq_true', Bool.not_eq_false', decide_eq_true_eq, decide_eq_false_iff_not] at *; simp [*]
    · (repeat (first | exact Below.refl _ _ | assumption | refine Below.drew ?_ | refine below_drewN' ?_ _ | refine Below.alloc ?_ (by (try simp); (try omega)) _ | refine Below.setCell ?_ (by (try simp); (try omega)) _))
theorem toSit_any (b : Sit) (w : World) :
    Calls Tryd.prog 65 #[b.val] w fun e w' => e = .returned b.val ∧ Below w.heap.size w w' := by
  obtain ⟨name, x, y⟩ := b
  unfold Sit.val
  dsimp only
  have KN := Lib.hid (blks_three w 84 86 86 #[.string name, .int .i64 x, .int .i64 y] #[.string ⟨#[]⟩, .int .i64 0, .int .i64 0] #[.string name, .int .i64 0, .int .i64 0])
  have HP := Lib.hid (toPt_any x y)
  go_enter Tryd.func65, Tryd.ntmps65
  go_wp2_with fail
  generalize hW : ((w.alloc (.cells #[.string name, .int .i64 x, .int .i64 y] 84)).alloc (.cells #[.string ⟨#[]⟩, .int .i64 0, .int .i64 0] 86)).alloc (.cells #[.string name, .int .i64 0, .int .i64 0] 86) = W
  obtain ⟨b0, b1, b2, bw, _⟩ := KN.out W hW.symm
  clear hW
  refine (HP.out W).mono ?_; rintro e w1 ⟨rfl, c1⟩
  have B1 := Lib.hid (bw.trans (c1.mono bw.size))
  have K1 := b1.below c1 b1.lt
  have K2 := b2.below c1 b2.lt
  have K3 := K2.set_ 1 (.int .i64 x)
  have K4 := K3.set_ 2 (.int .i64 y)
  simp only [List.setIfInBounds_toArray, List.set_cons_succ, List.set_cons_zero] at K3 K4
  have R4 := (K1.far (p := ⟨w.heap.size + 2, 1, none⟩) (by simp) (.int .i64 x)).far (p := ⟨w.heap.size + 2, 2, none⟩) (by simp) (.int .i64 y)
  obtain ⟨m0, m1, m2⟩ := cells_3 K2
  obtain ⟨n0, n1, n2⟩ := cells_3 K3
  obtain ⟨o0, o1, o2⟩ := cells_3 K4
  have f1 := K2.frozen 1
  have f2 := K3.frozen 2
  obtain ⟨g0, g1, g2, g3, g4, g5, g6, g7, g8⟩ := facts_3 R4
  clear b0 b1 b2 bw c1
  go_wp2_with fail
  refine bodyPost_ret (v := .agg #[.string name, .int .i64 x, .int .i64 y]) (by simp [results, Tryd.results65, go_sem, g6, g7, g8]) rfl ⟨rfl, ?_⟩
  exact ((((B1.out.setCell (by dsimp only; omega) _).setCell (by dsimp only; omega) _).setCell (by dsimp only; omega) _).setCell (by dsimp only; omega) _).setCell (by dsimp only; omega) _
instance : DecidableEq Sit := fun a b => by
  cases a; cases b
  rw [Sit.mk.injEq]
  infer_instance
theorem eqSit_any (a b : Sit) (w : World) :
    Calls Tryd.prog 67 #[a.val, b.val] w fun e w' => e = .returned (.bool (decide (a = b))) ∧ Below w.heap.size w w' := by
  obtain ⟨name, x, y⟩ := a
  obtain ⟨name', x', y'⟩ := b
  have HX := Lib.hid (show decide ((⟨name, x, y⟩ : Sit) = ⟨name', x', y'⟩) = (decide (name = name') && (decide (x = x') && decide (y = y'))) by simp [Bool.and_assoc])
  have HP := Lib.hid (eqPt_any x y x' y')
  generalize decide ((⟨name, x, y⟩ : Sit) = ⟨name', x', y'⟩) = r at HX ⊢
  generalize (decide (x = x') && decide (y = y')) = q at HX HP
  unfold Sit.val
  dsimp only
  have sn := str_eq name name'
  by_cases hn : name = name'
  · rw [decide_eq_true hn] at HX sn
    clear hn
    cases q
    all_goals
      go_enter Tryd.func67, Tryd.ntmps67
      go_wp2_with fail
      refine (HP.out _).mono ?_; rintro e w1 ⟨rfl, b1⟩
      go_wp2_with fail
      go_ret
      exact ⟨ret_bool (by rw [HX.out]; rfl), (((Below.refl w.heap.size w).alloc (Nat.le_refl _) _).alloc (by simp) _).trans (b1.mono (by simp; omega))⟩
  · rw [decide_eq_false hn] at HX sn
    clear hn
    go_enter Tryd.func67, Tryd.ntmps67
    go_wp2_with fail
    go_ret
    exact ⟨ret_bool (by rw [HX.out]; rfl), by (repeat (first | exact Below.refl _ _ | assumption | refine Below.drew ?_ | refine below_drewN' ?_ _ | refine Below.alloc ?_ (by (try simp); (try omega)) _ | refine Below.setCell ?_ (by (try simp); (try omega)) _))⟩

set_option maxRecDepth 100000 in
theorem toSitS_any (xs : List Sit) (A : Option Addr) (c : Nat) (w : World) (hr : Reads w w.heap.size 3 A xs.length (siC xs)) (hm : xs.length ≤ 1048576) :
    Calls Tryd.prog 21 #[.slice A xs.length c] w fun e w' => e = .returned (.slice (some ⟨w.heap.size, 0, none⟩) xs.length xs.length) ∧ Blk w' w.heap.size 86 (siC xs).toArray ∧ Below w.heap.size w w' := by
  obtain ⟨i0, hi, hz, hsz, hby⟩ := info_parts infoSit
  have hmk := fun W => run_make_rowN (P := Tryd.prog) 32 86 i0 _ Tryd.underlying32 hi hz .i64 .i64 xs.length xs.length (Nat.le_refl _) (by rw [hby]; omega) (by omega) W
  go_enter Tryd.func21, Tryd.ntmps21
  go_wp2
  go_loopw [4] (fun v4 wr => ∃ k : Nat, k ≤ xs.length ∧ Copied wr w.heap.size 86 (k * 3) (siC xs) ∧ Below w.heap.size w wr ∧ v4 = .int .i64 k) (fun i _ => xs.length - (intOf i).toNat)
  case atStart => exact ⟨0, Nat.zero_le _, Copied.start w _ _ (by rw [size_madeCells, siC_len]), (Below.refl _ _).alloc (Nat.le_refl _) _, rfl⟩
  case round =>
    obtain ⟨k, hk, hcp, hb, rfl⟩ := hrel
    have hg := hcp.lt
    by_cases hlt : k < xs.length
    · obtain ⟨ab, ao, rfl, hadb, hcell⟩ := (hr.below hb).2 (by omega)
      obtain ⟨e0, e1, e2⟩ := siC_get xs k hlt
      have c0 := hcell _ _ e0
      have c1 := hcell _ _ e1
      have c2 := hcell _ _ e2
      rw [← Nat.add_assoc] at c1 c2
      clear hcell hr
      obtain ⟨⟨u0, d0⟩, f0⟩ := hcp.cell (j := k * 3) (by rw [siC_len]; omega)
      obtain ⟨⟨u1, d1⟩, f1⟩ := hcp.cell (j := k * 3 + 1) (by rw [siC_len]; omega)
      obtain ⟨⟨u2, d2⟩, f2⟩ := hcp.cell (j := k * 3 + 2) (by rw [siC_len]; omega)
      have E0 := Lib.hid e0; clear e0
      have E1 := Lib.hid e1; clear e1
      have E2 := Lib.hid e2; clear e2
      generalize xs[k] = b at c0 c1 c2 E0 E1 E2
      go_wp2_with fail
      refine (toSit_any b _).mono ?_; rintro e w1 ⟨rfl, hb1⟩
      obtain ⟨hc1, hf1⟩ := bcell hb1
      unfold Sit.val
      go_wp2_with fail
      go_roundw
      case rel => exact ⟨k + 1, by omega, by rw [show (k + 1) * 3 = k * 3 + 1 + 1 + 1 from by omega]; exact (((hcp.below hb1 hg).set_ E0.out).set_ E1.out).set_ E2.out, (((hb.trans (hb1.mono hb.size)).setCell (Nat.le_refl _) _).setCell (Nat.le_refl _) _).setCell (Nat.le_refl _) _, by go_num⟩
      case measure => simp [intOf]; omega
    · obtain rfl : k = xs.length := by omega
      go_wp2
      go_ret
      exact ⟨rfl, Copied.done (by rw [siC_len]; exact hcp), hb⟩
theorem sit_pair {xs ys : List Sit} {k : Nat} (hl : xs.length = ys.length) (hlt : k < xs.length) (ht : xs.take k = ys.take k) (h1 : xs[k] = ys[k]) : xs.take (k + 1) = ys.take (k + 1) := by
  rw [List.take_succ_eq_append_getElem hlt, List.take_succ_eq_append_getElem (by omega), ht, h1]
set_option maxRecDepth 100000 in
theorem eqSitS_any (xs ys : List Sit) (A A' : Option Addr) (c c' : Nat) (w : World) (hr : Reads w w.heap.size 3 A xs.length (siC xs)) (hr' : Reads w w.heap.size 3 A' ys.length (siC ys)) (hm : xs.length ≤ 9223372036854775807) :
    Calls Tryd.prog 23 #[.slice A xs.length c, .slice A' ys.length c'] w fun e w' => e = .returned (.bool (decide (xs = ys))) ∧ Below w.heap.size w w' := by
  by_cases hl : xs.length = ys.length
  · have HL := Lib.hid hl
    have hl1 : xs.length ≤ ys.length := by omega
    have hl2 : ys.length ≤ xs.length := by omega
    have hne : ((xs.length : Int) != (ys.length : Int)) = false := by rw [bne_eq_false_iff_eq]; omega
    clear hl
    go_enter Tryd.func23, Tryd.ntmps23
    go_wp2
    go_loopw [5] (fun v5 wr => ∃ k : Nat, k ≤ xs.length ∧ Hid (xs.take k = ys.take k) ∧ Below w.heap.size w wr ∧ v5 = .int .i64 k) (fun i _ => xs.length - (intOf i).toNat)
    case atStart => exact ⟨0, Nat.zero_le _, by simp [Hid], Below.refl _ _, rfl⟩
    case round =>
      obtain ⟨k, hk, HT, hb, rfl⟩ := hrel
      by_cases hlt : k < xs.length
      · obtain ⟨ab, ao, rfl, hadb, hcell⟩ := (hr.below hb).2 (by omega)
        obtain ⟨ab', ao', rfl, hadb', hcell'⟩ := (hr'.below hb).2 (by omega)
        obtain ⟨e0, e1, e2⟩ := siC_get xs k hlt
        obtain ⟨e0', e1', e2'⟩ := siC_get ys k (by omega)
        have c0 := hcell _ _ e0
        have c1 := hcell _ _ e1
        have c2 := hcell _ _ e2
        have c0' := hcell' _ _ e0'
        have c1' := hcell' _ _ e1'
        have c2' := hcell' _ _ e2'
        rw [← Nat.add_assoc] at c1 c1' c2 c2'
        clear hcell hr hcell' hr' e0 e1 e0' e1' e2 e2'
        have hlt' : k < ys.length := by omega
        by_cases heq : xs[k] = ys[k]
        · have hd : decide (xs[k] = ys[k]) = true := by rw [heq]; simp
          have HN := Lib.hid (sit_pair HL.out hlt HT.out heq)
          clear heq
          have HD := Lib.hid hd; clear hd
          go_wp2_with fail
          go_still_tail 8, (by kernel_rfl)
          change wpList _ _ _ _ _ (World.drew _)
          go_wp2_with fail
          refine (eqSit_any xs[k] ys[k] _).mono ?_; rw [HD.out]; rintro e w1 ⟨rfl, hb1⟩
          go_wp2_with fail
          go_roundw
          case rel => exact ⟨k + 1, by omega, HN, hb.drew.trans (hb1.mono hb.size), by go_num⟩
          case measure => simp [intOf]; omega
        · have hd : decide (xs[k] = ys[k]) = false := by rw [decide_eq_false_iff_not]; exact heq
          have HN := Lib.hid (show xs ≠ ys from fun h => heq (by subst h; rfl))
          clear heq
          have HD := Lib.hid hd; clear hd
          go_wp2_with fail
          go_still_tail 8, (by kernel_rfl)
          change wpList _ _ _ _ _ (World.drew _)
          go_wp2_with fail
          refine (eqSit_any xs[k] ys[k] _).mono ?_; rw [HD.out]; rintro e w1 ⟨rfl, hb1⟩
          go_wp2_with fail
          go_ret
          exact ⟨ret_bool (decide_eq_false HN.out).symm, hb.drew.trans (hb1.mono hb.size)⟩
      · obtain rfl : k = xs.length := by omega
        go_wp2
        go_ret
        refine ⟨ret_bool (decide_eq_true ?_).symm, hb⟩
        have := HT.out
        rwa [List.take_length, HL.out, List.take_length] at this
  · have hne : ((xs.length : Int) != (ys.length : Int)) = true := by rw [bne_iff_ne]; omega
    have HN := Lib.hid (show xs ≠ ys from fun h => hl (by rw [h]))
    clear hl
    go_enter Tryd.func23, Tryd.ntmps23
    go_wp2
    go_ret
    exact ⟨ret_bool (decide_eq_false HN.out).symm, Below.refl _ _⟩
end Go.Proofs.YtphkfnhmpngjpaaDoor
