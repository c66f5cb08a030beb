/- Sites: their cells; the law's own helpers over sites: sizes, copies, comparisons. AreSites of the reference. AreSites of the program. The sites that a walk needs; an argument that is a slice of sites, opened. The law of AreSites returns true for all sites: the walk of the law. -/
import Derived.Test.YtaaioengebaebaaGreatDoorRows
import Derived.Test.YtaaioengebaebaaGreatDoorK8GA
import Derived.WalkKit
import Derived.ProofKit
import Derived.OpenShut
import Derived.BigQuiet
import Derived.Outline
import Derived.WalkSpells
import Derived.WalkLawsBesides
import Derived.Deep.DeepCutAuto
import Derived.Lib.Hide
import Derived.StillTailTactics
import Derived.Test.YtaaioengebaebaaGreatDoorK8GC
import Derived.Lib.QuietBelow
import Derived.Deep.QuietTactic
import Derived.IntWalk
namespace Go.Proofs.YtaaioengebaebaaGreatDoor
open Go.ChangeShapes Go.WideShapes Go.ChangeAt Go.RowKit

structure Sit where
  name : ByteArray
  x : Int
  y : Int
def Sit.cells (b : Sit) : List Value := [.string b.name, .int .i64 b.x, .int .i64 b.y]
def Sit.val (b : Sit) : Value := .agg #[.string b.name, .int .i64 b.x, .int .i64 b.y]
def siC (xs : List Sit) : List Value := xs.flatMap Sit.cells
theorem siC_len (xs : List Sit) : (siC xs).length = xs.length * 3 := by
  induction xs with
  | nil => rfl
  | cons x r ih => simp [siC, Sit.cells] at *; omega
theorem siC_get (xs : List Sit) (k : Nat) (h : k < xs.length) : (siC xs)[k * 3]? = some (.string xs[k].name) ∧ (siC xs)[k * 3 + 1]? = some (.int .i64 xs[k].x) ∧ (siC xs)[k * 3 + 2]? = some (.int .i64 xs[k].y) := by
  induction xs generalizing k with
  | nil => simp at h
  | cons x r ih =>
    cases k with
    | zero => simp [siC, Sit.cells]
    | succ k =>
      obtain ⟨i0, i1, i2⟩ := ih k (by simpa using h)
      simp only [siC, List.flatMap_cons, Sit.cells] at i0 i1 i2 ⊢
      refine ⟨?_, ?_, ?_⟩
      · rw [show (k + 1) * 3 = k * 3 + 1 + 1 + 1 from by omega]; simpa using i0
      · rw [show (k + 1) * 3 + 1 = k * 3 + 1 + 1 + 1 + 1 from by omega]; simpa using i1
      · rw [show (k + 1) * 3 + 2 = k * 3 + 2 + 1 + 1 + 1 from by omega]; simpa using i2
theorem siC_one (xs : List Sit) : ∀ u ∈ siC xs, u.oneCell' = true := by
  intro u hu
  simp only [siC, List.mem_flatMap] at hu
  obtain ⟨s, _, h⟩ := hu
  simp [Sit.cells] at h
  rcases h with rfl | rfl | rfl <;> rfl

/-- What is left of the size: -1 if it is too large. -/
def szSiTo (left : Int) : List Sit → Int
  | [] => left
  | b :: r => if left - b.name.size < 0 then -1 else szSiTo (left - b.name.size) r
def szSi (xs : List Sit) : Int := if (1048576 : Int) - xs.length < 0 then -1 else szSiTo (1048576 - xs.length) xs
theorem szSiTo_pos {left : Int} (xs : List Sit) (h : 0 ≤ szSiTo left xs) : ∀ b ∈ xs, (b.name.size : Int) ≤ left := by
  induction xs generalizing left with
  | nil => intro b hb; simp at hb
  | cons x r ih =>
    unfold szSiTo at h
    split at h
    · omega
    · intro b hb
      rcases List.mem_cons.1 hb with rfl | hb
      · omega
      · have := ih h b hb; omega
theorem szSi_pos {xs : List Sit} (h : 0 ≤ szSi xs) : xs.length ≤ 1048576 ∧ ∀ b ∈ xs, b.name.size ≤ 1048576 := by
  unfold szSi at h
  split at h
  · omega
  · refine ⟨by omega, fun b hb => ?_⟩
    have := szSiTo_pos xs h b hb
    omega
theorem szSit_any (b : Sit) (left : Int) (h0 : 0 ≤ left) (h1 : left ≤ 1048576) (hb : b.name.size ≤ 9223372036854775807) (w : World) :
    Calls Tryz.prog 41 #[b.val, .int .i64 left] w fun e w' => e = .returned (.int .i64 (if left - b.name.size < 0 then -1 else left - b.name.size)) ∧ Below w.heap.size w w' := by
  obtain ⟨name, x, y⟩ := b
  dsimp only at hb ⊢
  unfold Sit.val
  dsimp only
  by_cases h : left - name.size < 0
  · rw [if_pos h]
    go_enter Tryz.func41, Tryz.ntmps41
    go_wp2
    go_ret
    exact ⟨rfl, by (repeat (first | exact Below.refl _ _ | assumption | refine Below.drew ?_ | refine below_drewN' ?_ _ | refine Below.alloc ?_ (by (try simp); (try omega)) _ | refine Below.setCell ?_ (by (try simp); (try omega)) _))⟩
  · rw [if_neg h]
    go_enter Tryz.func41, Tryz.ntmps41
    go_wp2
    go_ret
    exact ⟨rfl, by (repeat (first | exact Below.refl _ _ | assumption | refine Below.drew ?_ | refine below_drewN' ?_ _ | refine Below.alloc ?_ (by (try simp); (try omega)) _ | refine Below.setCell ?_ (by (try simp); (try omega)) _))⟩
set_option maxRecDepth 100000 in
theorem szSitS_any (xs : List Sit) (A : Option Addr) (c : Nat) (w : World) (hr : Reads w w.heap.size 3 A xs.length (siC xs)) (hm : xs.length ≤ 9223372036854775807) (hn : ∀ b ∈ xs, b.name.size ≤ 9223372036854775807) :
    Calls Tryz.prog 8 #[.slice A xs.length c, .int .i64 1048576] w fun e w' => e = .returned (.int .i64 (szSi xs)) ∧ Below w.heap.size w w' := by
  have HR := Lib.hid hr; clear hr
  have HN := Lib.hid hn; clear hn
  by_cases hbig : (1048576 : Int) - xs.length < 0
  · rw [szSi, if_pos hbig]
    go_enter Tryz.func8, Tryz.ntmps8
    go_wp2
    go_ret
    exact ⟨rfl, Below.refl _ _⟩
  · have HZ := Lib.hid (show szSi xs = szSiTo (1048576 - xs.length) xs by rw [szSi, if_neg hbig])
    go_enter Tryz.func8, Tryz.ntmps8
    go_wp2_with fail
    go_loopw [1, 5] (fun v1 v5 wr => ∃ (k : Nat) (left : Int), k ≤ xs.length ∧ 0 ≤ left ∧ left ≤ 1048576 ∧ Hid (szSiTo (1048576 - xs.length) xs = szSiTo left (xs.drop k)) ∧ Hid (Below w.heap.size w wr) ∧ v1 = .int .i64 left ∧ v5 = .int .i64 k) (fun _ i _ => xs.length - (intOf i).toNat)
    case atStart => exact ⟨0, 1048576 - xs.length, by omega, by omega, by omega, rfl, Below.refl _ _, rfl, rfl⟩
    case round =>
      obtain ⟨k, left, hk, h0, h1, HL, BW, rfl, rfl⟩ := hrel
      by_cases hlt : k < xs.length
      · obtain ⟨ab, ao, rfl, hadb, hcell⟩ := (HR.out.below BW.out).2 (by omega)
        obtain ⟨e0, e1, e2⟩ := siC_get xs k hlt
        have c0 := hcell _ _ e0
        have c1 := hcell _ _ e1
        have c2 := hcell _ _ e2
        rw [← Nat.add_assoc] at c1 c2
        clear hcell e0 e1 e2
        have hsz := HN.out xs[k] (List.getElem_mem hlt)
        have HD := Lib.hid (show szSiTo left (xs.drop k) = if left - xs[k].name.size < 0 then -1 else szSiTo (left - xs[k].name.size) (xs.drop (k + 1)) by rw [List.drop_eq_getElem_cons hlt]; rfl)
        generalize xs[k] = b at c0 c1 c2 hsz HD
        go_wp2_with fail
        refine (szSit_any b left h0 h1 hsz wr).mono ?_
        by_cases hneg : left - b.name.size < 0
        · rw [if_pos hneg] at HD ⊢
          rintro e w1 ⟨rfl, b1⟩
          go_wp2_with fail
          go_ret
          exact ⟨ret_int (by rw [HZ.out, HL.out, HD.out]), BW.out.trans (b1.mono BW.out.size)⟩
        · rw [if_neg hneg] at HD ⊢
          rintro e w1 ⟨rfl, b1⟩
          go_wp2_with fail
          go_roundw
          case rel => exact ⟨k + 1, left - b.name.size, by omega, by omega, by omega, HL.out.trans HD.out, BW.out.trans (b1.mono BW.out.size), rfl, by go_num⟩
          case measure => simp [intOf]; omega
      · obtain rfl : k = xs.length := by omega
        go_wp2_with fail
        go_ret
        exact ⟨ret_int (by rw [HZ.out, HL.out]; simp [szSiTo]), BW.out⟩

theorem infoSit : (Tryz.prog.info? 77).map (fun i => (i.zero, i.size, i.bytes)) = some (some (.agg #[.string ⟨#[]⟩, .int .i64 0, .int .i64 0]), 3, 32) := by kernel_rfl
theorem toPt_any (x y : Int) (w : World) :
    Calls Tryz.prog 49 #[.agg #[.int .i64 x, .int .i64 y]] w fun e w' => e = .returned (.agg #[.int .i64 x, .int .i64 y]) ∧ Below w.heap.size w w' := by
  go_enter Tryz.func49, Tryz.ntmps49
  go_wp2
  refine bodyPost_ret (v := .agg #[.int .i64 x, .int .i64 y]) (by simp [results, Tryz.results49, go_sem]) rfl ⟨rfl, ?_⟩
  (repeat (first | exact Below.refl _ _ | assumption | refine Below.drew ?_ | refine below_drewN' ?_ _ | refine Below.alloc ?_ (by (try simp); (try omega)) _ | refine Below.setCell ?_ (by (try simp); (try omega)) _))
theorem eqPt_any (x y x' y' : Int) (w : World) :
    Calls Tryz.prog 16 #[.agg #[.int .i64 x, .int .i64 y], .agg #[.int .i64 x', .int .i64 y']] w fun e w' => e = .returned (.bool (decide (x = x') && decide (y = y'))) ∧ Below w.heap.size w w' := by
  go_enter Tryz.func16, Tryz.ntmps16
  go_wp2
  all_goals
    go_ret
    refine ⟨ret_bool ?_, ?_⟩
    · simp only [bne_iff_ne, bne_eq_false_iff_eq, ne_eq, Bool.not_eq_true', Bool.not_eq_false', decide_eq_true_eq, decide_eq_false_iff_not] at *; simp [*]
    · (repeat (first | exact Below.refl _ _ | assumption | refine Below.drew ?_ | refine below_drewN' ?_ _ | refine Below.alloc ?_ (by (try simp); (try omega)) _ | refine Below.setCell ?_ (by (try simp); (try omega)) _))
theorem toSit_any (b : Sit) (w : World) :
    Calls Tryz.prog 47 #[b.val] w fun e w' => e = .returned b.val ∧ Below w.heap.size w w' := by
  obtain ⟨name, x, y⟩ := b
  unfold Sit.val
  dsimp only
  have KN := Lib.hid (blks_three w 68 77 77 #[.string name, .int .i64 x, .int .i64 y] #[.string ⟨#[]⟩, .int .i64 0, .int .i64 0] #[.string name, .int .i64 0, .int .i64 0])
  have HP := Lib.hid (toPt_any x y)
  go_enter Tryz.func47, Tryz.ntmps47
  go_wp2_with fail
  generalize hW : ((w.alloc (.cells #[.string name, .int .i64 x, .int .i64 y] 68)).alloc (.cells #[.string ⟨#[]⟩, .int .i64 0, .int .i64 0] 77)).alloc (.cells #[.string name, .int .i64 0, .int .i64 0] 77) = W
  obtain ⟨b0, b1, b2, bw, _⟩ := KN.out W hW.symm
  clear hW
  refine (HP.out W).mono ?_; rintro e w1 ⟨rfl, c1⟩
  have B1 := Lib.hid (bw.trans (c1.mono bw.size))
  have K1 := b1.below c1 b1.lt
  have K2 := b2.below c1 b2.lt
  have K3 := K2.set_ 1 (.int .i64 x)
  have K4 := K3.set_ 2 (.int .i64 y)
  simp only [List.setIfInBounds_toArray, List.set_cons_succ, List.set_cons_zero] at K3 K4
  have R4 := (K1.far (p := ⟨w.heap.size + 2, 1, none⟩) (by simp) (.int .i64 x)).far (p := ⟨w.heap.size + 2, 2, none⟩) (by simp) (.int .i64 y)
  obtain ⟨m0, m1, m2⟩ := cells_3 K2
  obtain ⟨n0, n1, n2⟩ := cells_3 K3
  obtain ⟨o0, o1, o2⟩ := cells_3 K4
  have f1 := K2.frozen 1
  have f2 := K3.frozen 2
  obtain ⟨g0, g1, g2, g3, g4, g5, g6, g7, g8⟩ := facts_3 R4
  clear b0 b1 b2 bw c1
  go_wp2_with fail
  refine bodyPost_ret (v := .agg #[.string name, .int .i64 x, .int .i64 y]) (by simp [results, Tryz.results47, go_sem, g6, g7, g8]) rfl ⟨rfl, ?_⟩
  exact ((((B1.out.setCell (by dsimp only; omega) _).setCell (by dsimp only; omega) _).setCell (by dsimp only; omega) _).setCell (by dsimp only; omega) _).setCell (by dsimp only; omega) _
instance : DecidableEq Sit := fun a b => by
  cases a; cases b
  rw [Sit.mk.injEq]
  infer_instance
theorem eqSit_any (a b : Sit) (w : World) :
    Calls Tryz.prog 55 #[a.val, b.val] w fun e w' => e = .returned (.bool (decide (a = b))) ∧ Below w.heap.size w w' := by
  obtain ⟨name, x, y⟩ := a
  obtain ⟨name', x', y'⟩ := b
  have HX := Lib.hid (show decide ((⟨name, x, y⟩ : Sit) = ⟨name', x', y'⟩) = (decide (name = name') && (decide (x = x') && decide (y = y'))) by simp [Bool.and_assoc])
  have HP := Lib.hid (eqPt_any x y x' y')
  generalize decide ((⟨name, x, y⟩ : Sit) = ⟨name', x', y'⟩) = r at HX ⊢
  generalize (decide (x = x') && decide (y = y')) = q at HX HP
  unfold Sit.val
  dsimp only
  have sn := str_eq name name'
  by_cases hn : name = name'
  · rw [decide_eq_true hn] at HX sn
    clear hn
    cases q
    all_goals
      go_enter Tryz.func55, Tryz.ntmps55
      go_wp2_with fail
      refine (HP.out _).mono ?_; rintro e w1 ⟨rfl, b1⟩
      go_wp2_with fail
      go_ret
      exact ⟨ret_bool (by rw [HX.out]; rfl), (((Below.refl w.heap.size w).alloc (Nat.le_refl _) _).alloc (by simp) _).trans (b1.mono (by simp; omega))⟩
  · rw [decide_eq_false hn] at HX sn
    clear hn
    go_enter Tryz.func55, Tryz.ntmps55
    go_wp2_with fail
    go_ret
    exact ⟨ret_bool (by rw [HX.out]; rfl), by (repeat (first | exact Below.refl _ _ | assumption | refine Below.drew ?_ | refine below_drewN' ?_ _ | refine Below.alloc ?_ (by (try simp); (try omega)) _ | refine Below.setCell ?_ (by (try simp); (try omega)) _))⟩

set_option maxRecDepth 100000 in
theorem toSitS_any (xs : List Sit) (A : Option Addr) (c : Nat) (w : World) (hr : Reads w w.heap.size 3 A xs.length (siC xs)) (hm : xs.length ≤ 1048576) :
    Calls Tryz.prog 12 #[.slice A xs.length c] w fun e w' => e = .returned (.slice (some ⟨w.heap.size, 0, none⟩) xs.length xs.length) ∧ Blk w' w.heap.size 77 (siC xs).toArray ∧ Below w.heap.size w w' := by
  obtain ⟨i0, hi, hz, hsz, hby⟩ := info_parts infoSit
  have hmk := fun W => run_make_rowN (P := Tryz.prog) 35 77 i0 _ Tryz.underlying35 hi hz .i64 .i64 xs.length xs.length (Nat.le_refl _) (by rw [hby]; omega) (by omega) W
  go_enter Tryz.func12, Tryz.ntmps12
  go_wp2
  go_loopw [4] (fun v4 wr => ∃ k : Nat, k ≤ xs.length ∧ Copied wr w.heap.size 77 (k * 3) (siC xs) ∧ Below w.heap.size w wr ∧ v4 = .int .i64 k) (fun i _ => xs.length - (intOf i).toNat)
  case atStart => exact ⟨0, Nat.zero_le _, Copied.start w _ _ (by rw [size_madeCells, siC_len]), (Below.refl _ _).alloc (Nat.le_refl _) _, rfl⟩
  case round =>
    obtain ⟨k, hk, hcp, hb, rfl⟩ := hrel
    have hg := hcp.lt
    by_cases hlt : k < xs.length
    · obtain ⟨ab, ao, rfl, hadb, hcell⟩ := (hr.below hb).2 (by omega)
      obtain ⟨e0, e1, e2⟩ := siC_get xs k hlt
      have c0 := hcell _ _ e0
      have c1 := hcell _ _ e1
      have c2 := hcell _ _ e2
      rw [← Nat.add_assoc] at c1 c2
      clear hcell hr
      obtain ⟨⟨u0, d0⟩, f0⟩ := hcp.cell (j := k * 3) (by rw [siC_len]; omega)
      obtain ⟨⟨u1, d1⟩, f1⟩ := hcp.cell (j := k * 3 + 1) (by rw [siC_len]; omega)
      obtain ⟨⟨u2, d2⟩, f2⟩ := hcp.cell (j := k * 3 + 2) (by rw [siC_len]; omega)
      have E0 := Lib.hid e0; clear e0
      have E1 := Lib.hid e1; clear e1
      have E2 := Lib.hid e2; clear e2
      generalize xs[k] = b at c0 c1 c2 E0 E1 E2
      go_wp2_with fail
      refine (toSit_any b _).mono ?_; rintro e w1 ⟨rfl, hb1⟩
      obtain ⟨hc1, hf1⟩ := bcell hb1
      unfold Sit.val
      go_wp2_with fail
      go_roundw
      case rel => exact ⟨k + 1, by omega, by rw [show (k + 1) * 3 = k * 3 + 1 + 1 + 1 from by omega]; exact (((hcp.below hb1 hg).set_ E0.out).set_ E1.out).set_ E2.out, (((hb.trans (hb1.mono hb.size)).setCell (Nat.le_refl _) _).setCell (Nat.le_refl _) _).setCell (Nat.le_refl _) _, by go_num⟩
      case measure => simp [intOf]; omega
    · obtain rfl : k = xs.length := by omega
      go_wp2
      go_ret
      exact ⟨rfl, Copied.done (by rw [siC_len]; exact hcp), hb⟩
theorem sit_pair {xs ys : List Sit} {k : Nat} (hl : xs.length = ys.length) (hlt : k < xs.length) (ht : xs.take k = ys.take k) (h1 : xs[k] = ys[k]) : xs.take (k + 1) = ys.take (k + 1) := by
  rw [List.take_succ_eq_append_getElem hlt, List.take_succ_eq_append_getElem (by omega), ht, h1]
set_option maxRecDepth 100000 in
theorem eqSitS_any (xs ys : List Sit) (A A' : Option Addr) (c c' : Nat) (w : World) (hr : Reads w w.heap.size 3 A xs.length (siC xs)) (hr' : Reads w w.heap.size 3 A' ys.length (siC ys)) (hm : xs.length ≤ 9223372036854775807) :
    Calls Tryz.prog 17 #[.slice A xs.length c, .slice A' ys.length c'] w fun e w' => e = .returned (.bool (decide (xs = ys))) ∧ Below w.heap.size w w' := by
  by_cases hl : xs.length = ys.length
  · have HL := Lib.hid hl
    have hl1 : xs.length ≤ ys.length := by omega
    have hl2 : ys.length ≤ xs.length := by omega
    have hne : ((xs.length : Int) != (ys.length : Int)) = false := by rw [bne_eq_false_iff_eq]; omega
    clear hl
    go_enter Tryz.func17, Tryz.ntmps17
    go_wp2
    go_loopw [5] (fun v5 wr => ∃ k : Nat, k ≤ xs.length ∧ Hid (xs.take k = ys.take k) ∧ Below w.heap.size w wr ∧ v5 = .int .i64 k) (fun i _ => xs.length - (intOf i).toNat)
    case atStart => exact ⟨0, Nat.zero_le _, by simp [Hid], Below.refl _ _, rfl⟩
    case round =>
      obtain ⟨k, hk, HT, hb, rfl⟩ := hrel
      by_cases hlt : k < xs.length
      · obtain ⟨ab, ao, rfl, hadb, hcell⟩ := (hr.below hb).2 (by omega)
        obtain ⟨ab', ao', rfl, hadb', hcell'⟩ := (hr'.below hb).2 (by omega)
        obtain ⟨e0, e1, e2⟩ := siC_get xs k hlt
        obtain ⟨e0', e1', e2'⟩ := siC_get ys k (by omega)
        have c0 := hcell _ _ e0
        have c1 := hcell _ _ e1
        have c2 := hcell _ _ e2
        have c0' := hcell' _ _ e0'
        have c1' := hcell' _ _ e1'
        have c2' := hcell' _ _ e2'
        rw [← Nat.add_assoc] at c1 c1' c2 c2'
        clear hcell hr hcell' hr' e0 e1 e0' e1' e2 e2'
        have hlt' : k < ys.length := by omega
        by_cases heq : xs[k] = ys[k]
        · have hd : decide (xs[k] = ys[k]) = true := by rw [heq]; simp
          have HN := Lib.hid (sit_pair HL.out hlt HT.out heq)
          clear heq
          have HD := Lib.hid hd; clear hd
          go_wp2_with fail
          go_still_tail 8, (by kernel_rfl)
          change wpList _ _ _ _ _ (World.drew _)
          go_wp2_with fail
          refine (eqSit_any xs[k] ys[k] _).mono ?_; rw [HD.out]; rintro e w1 ⟨rfl, hb1⟩
          go_wp2_with fail
          go_roundw
          case rel => exact ⟨k + 1, by omega, HN, hb.drew.trans (hb1.mono hb.size), by go_num⟩
          case measure => simp [intOf]; omega
        · have hd : decide (xs[k] = ys[k]) = false := by rw [decide_eq_false_iff_not]; exact heq
          have HN := Lib.hid (show xs ≠ ys from fun h => heq (by subst h; rfl))
          clear heq
          have HD := Lib.hid hd; clear hd
          go_wp2_with fail
          go_still_tail 8, (by kernel_rfl)
          change wpList _ _ _ _ _ (World.drew _)
          go_wp2_with fail
          refine (eqSit_any xs[k] ys[k] _).mono ?_; rw [HD.out]; rintro e w1 ⟨rfl, hb1⟩
          go_wp2_with fail
          go_ret
          exact ⟨ret_bool (decide_eq_false HN.out).symm, hb.drew.trans (hb1.mono hb.size)⟩
      · obtain rfl : k = xs.length := by omega
        go_wp2
        go_ret
        refine ⟨ret_bool (decide_eq_true ?_).symm, hb⟩
        have := HT.out
        rwa [List.take_length, HL.out, List.take_length] at this
  · have hne : ((xs.length : Int) != (ys.length : Int)) = true := by rw [bne_iff_ne]; omega
    have HN := Lib.hid (show xs ≠ ys from fun h => hl (by rw [h]))
    clear hl
    go_enter Tryz.func17, Tryz.ntmps17
    go_wp2
    go_ret
    exact ⟨ret_bool (decide_eq_false HN.out).symm, Below.refl _ _⟩
end Go.Proofs.YtaaioengebaebaaGreatDoor
namespace Go.Proofs.YtaaioengebaebaaGreatDoor
open Go.ChangeShapes Go.WideShapes Go.ChangeAt Go.RowKit Go.Sort

def ptB (x y : Int) : Bool := inB x (-1000) 1000 && inB y (-1000) 1000
def sitB (b : Sit) : Bool := codeW b.name && ptB b.x b.y
def ordS (xs : List Sit) (k : Nat) (b : Sit) : Bool := match k with
  | 0 => true
  | j + 1 => match xs[j]? with
    | some p => strLt p.name b.name
    | none => true
def goodS (xs : List Sit) (k : Nat) : Bool := match xs[k]? with
  | some b => sitB b && ordS xs k b
  | none => true
def areSTo (xs : List Sit) : Nat → Bool
  | 0 => true
  | k + 1 => areSTo xs k && goodS xs k
def areS (xs : List Sit) : Bool := areSTo xs xs.length && decide ((xs.length : Int) ≤ 10)
theorem areSTo_le {xs : List Sit} {k : Nat} : ∀ {n : Nat}, k ≤ n → areSTo xs n = true → areSTo xs k = true
  | 0, h, _ => by obtain rfl : k = 0 := by omega
                  rfl
  | n + 1, h, ht => by
    rw [areSTo, Bool.and_eq_true] at ht
    by_cases hk : k = n + 1
    · subst hk; rw [areSTo, ht.1, ht.2]; rfl
    · exact areSTo_le (by omega) ht.1
theorem areS_bad {xs : List Sit} {k : Nat} (hk : k < xs.length) (h : goodS xs k = false) : areS xs = false := by
  cases ha : areSTo xs xs.length
  · rw [areS, ha, Bool.false_and]
  · have := areSTo_le (k := k + 1) hk ha
    rw [areSTo, h, Bool.and_false] at this
    cases this
theorem same_below {P : Program} {f : FuncId} {args : Array Value} {w : World} {v : Value} (h : Calls P f args w fun e w' => e = .returned v ∧ w = w') : Calls P f args w fun e w' => e = .returned v ∧ Below w.heap.size w w' :=
  h.mono fun _ _ ⟨he, hw⟩ => ⟨he, by rw [← hw]; exact Below.refl _ _⟩
/-- A block of three cells, in the worlds of a region that draws. -/
theorem three_new (w : World) (t : TypeId) (a b c : Value) : ∀ W0, W0 = w.alloc (.cells #[a, b, c] t) → Below w.heap.size w W0 ∧ Blk W0 w.heap.size t #[a, b, c] ∧ (∀ d os, (grow (redrawn W0 d) os).cell? ⟨w.heap.size, 0, none⟩ = some a) ∧ (∀ d os, (grow (redrawn W0 d) os).cell? ⟨w.heap.size, 1, none⟩ = some b) ∧ (∀ d os, (grow (redrawn W0 d) os).cell? ⟨w.heap.size, 2, none⟩ = some c) := by
  rintro W0 rfl
  have hB := Blk.new w t #[a, b, c]
  exact ⟨(Below.refl _ _).alloc (Nat.le_refl _) _, hB, cell_regrown (by rw [hB.cell]; rfl), cell_regrown (by rw [hB.cell]; rfl), cell_regrown (by rw [hB.cell]; rfl)⟩

theorem specPt_any (x y : Int) (w : World) : Calls Tryz.prog 76 #[.agg #[.int .i64 x, .int .i64 y]] w fun e w' => e = .returned (.bool (ptB x y)) ∧ Below w.heap.size w w' := by
  have I1 := Lib.hid (specIn_any x (-1000) 1000)
  have I2 := Lib.hid (specIn_any y (-1000) 1000)
  have HX := Lib.hid (show ptB x y = (inB x (-1000) 1000 && inB y (-1000) 1000) from rfl)
  generalize ptB x y = r at HX ⊢
  generalize inB x (-1000) 1000 = q1 at I1 HX
  generalize inB y (-1000) 1000 = q2 at I2 HX
  cases q1
  all_goals
    go_enter Tryz.func76, Tryz.ntmps76
    go_wp2_with fail
    refine (I1.out _).mono ?_; rintro e w' ⟨rfl, rfl⟩
    go_wp2_with fail
  · go_ret
    exact ⟨ret_bool (by rw [HX.out]; rfl), by (repeat (first | exact Below.refl _ _ | assumption | refine Below.drew ?_ | refine below_drewN' ?_ _ | refine Below.alloc ?_ (by (try simp); (try omega)) _ | refine Below.setCell ?_ (by (try simp); (try omega)) _))⟩
  · refine (I2.out _).mono ?_; rintro e w' ⟨rfl, rfl⟩
    go_wp2_with fail
    go_ret
    exact ⟨ret_bool (by rw [HX.out]; simp), by (repeat (first | exact Below.refl _ _ | assumption | refine Below.drew ?_ | refine below_drewN' ?_ _ | refine Below.alloc ?_ (by (try simp); (try omega)) _ | refine Below.setCell ?_ (by (try simp); (try omega)) _))⟩
set_option maxRecDepth 100000 in
set_option maxHeartbeats 4000000 in
theorem specAreS_any (xs : List Sit) (A : Option Addr) (c : Nat) (w : World) (hr : Reads w w.heap.size 3 A xs.length (siC xs)) (hm : xs.length ≤ 9223372036854775807) (hn : ∀ b ∈ xs, b.name.size ≤ 9223372036854775807) :
    Calls Tryz.prog 37 #[.slice A xs.length c] w fun e w' => e = .returned (.bool (areS xs)) ∧ Below w.heap.size w w' := by
  have HR := Lib.hid hr; clear hr
  have HN := Lib.hid hn; clear hn
  go_enter Tryz.func37, Tryz.ntmps37
  go_wp2_with fail
  go_loopw [3] (fun v3 wr => ∃ k : Nat, k ≤ xs.length ∧ Hid (areSTo xs k = true) ∧ Hid (Below w.heap.size w wr) ∧ v3 = .int .i64 k) (fun i _ => xs.length - (intOf i).toNat)
  case atStart => exact ⟨0, by omega, rfl, Below.refl _ _, rfl⟩
  case round =>
    obtain ⟨k, hk, HT, BW, rfl⟩ := hrel
    by_cases hlt : k < xs.length
    · obtain ⟨ab, ao, rfl, hadb, hcell⟩ := (HR.out.below BW.out).2 (by omega)
      obtain ⟨e0, e1, e2⟩ := siC_get xs k hlt
      have c0 := hcell _ _ e0
      have c1 := hcell _ _ e1
      have c2 := hcell _ _ e2
      rw [← Nat.add_assoc] at c1 c2
      have HC := Lib.hid hcell
      clear hcell e0 e1 e2
      have hsz := HN.out xs[k] (List.getElem_mem hlt)
      have HG := Lib.hid (show goodS xs k = (sitB xs[k] && ordS xs k xs[k]) by rw [goodS, List.getElem?_eq_getElem hlt])
      generalize xs[k] = b at c0 c1 c2 hsz HG
      go_upto_region 4 with (fail)
      have k0 := cell_regrown c0
      have k1 := cell_regrown c1
      have k2 := cell_regrown c2
      clear c0 c1 c2
      have r1 : ∀ d os, Calls Tryz.prog 75 #[.string b.name] (grow (redrawn wr d) os) (fun e w'' => e = .returned (.bool (codeW b.name)) ∧ ∃ p : Regrown, w'' = grow (redrawn wr p.d) p.os) := fun d os => Calls.regrown_of (specCodeW_any b.name hsz _)
      have r2 : ∀ d os, Calls Tryz.prog 76 #[.agg #[.int .i64 b.x, .int .i64 b.y]] (grow (redrawn wr d) os) (fun e w'' => e = .returned (.bool (ptB b.x b.y)) ∧ ∃ p : Regrown, w'' = grow (redrawn wr p.d) p.os) := fun d os => Calls.regrown_of (specPt_any _ _ _)
      cases q1 : codeW b.name
      · have HF := Lib.hid (areS_bad hlt (HG.out.trans (by rw [sitB, q1]; rfl)))
        rw [q1] at r1
        clear q1 r2
        refine wp_region_quiet_below (by kernel_rfl) (by kernel_rfl) ?_; (repeat (first | go_big_quiet_step ((first | with_reducible exact r1 _ _)))); refine wpQuiet_nil ?_; intro _ hw'; obtain ⟨⟨dq, osq⟩, rfl⟩ := hw'
        go_wp2_with fail
        go_ret
        exact ⟨ret_bool HF.out.symm, BW.out.trans ((below_regrown wr dq osq).mono BW.out.size)⟩
      · cases q2 : ptB b.x b.y
        · have HF := Lib.hid (areS_bad hlt (HG.out.trans (by rw [sitB, q1, q2]; rfl)))
          rw [q1] at r1
          rw [q2] at r2
          clear q1 q2
          refine wp_region_quiet_below (by kernel_rfl) (by kernel_rfl) ?_; (repeat (first | go_big_quiet_step ((first | with_reducible exact r1 _ _ | with_reducible exact r2 _ _)))); refine wpQuiet_nil ?_; intro _ hw'; obtain ⟨⟨dq, osq⟩, rfl⟩ := hw'
          go_wp2_with fail
          go_ret
          exact ⟨ret_bool HF.out.symm, BW.out.trans ((below_regrown wr dq osq).mono BW.out.size)⟩
        · have HBal := Lib.hid (show sitB b = true by rw [sitB, q1, q2]; rfl)
          rw [q1] at r1
          rw [q2] at r2
          clear q1 q2
          by_cases hk0 : k = 0
          · subst hk0
            simp only [Nat.zero_mul, Nat.add_zero] at k0 k1 k2
            have HT1 := Lib.hid (show areSTo xs (0 + 1) = true by rw [areSTo, HG.out, HBal.out]; rfl)
            refine wp_region_quiet_below (by kernel_rfl) (by kernel_rfl) ?_; (repeat (first | go_big_quiet_step ((first | with_reducible exact r1 _ _ | with_reducible exact r2 _ _)))); refine wpQuiet_nil ?_; intro _ hw'; obtain ⟨⟨dq, osq⟩, rfl⟩ := hw'
            go_wp2_with fail
            go_roundw
            case rel => exact ⟨0 + 1, by omega, HT1, BW.out.trans ((below_regrown wr dq osq).mono BW.out.size), by go_num⟩
            case measure => simp [intOf]; omega
          · obtain ⟨j, rfl⟩ : ∃ j, k = j + 1 := ⟨k - 1, by omega⟩
            have hj : j < xs.length := by omega
            obtain ⟨p, hp⟩ : ∃ p, xs[j] = p := ⟨_, rfl⟩
            have cp := cell_regrown (HC.out _ _ (siC_get xs j hj).1)
            rw [hp] at cp
            have HO := Lib.hid (show ordS xs (j + 1) b = strLt p.name b.name by rw [ordS, List.getElem?_eq_getElem hj, hp])
            clear hp
            have z1 : (0 : Int) < (j : Int) + 1 := by omega
            have z2 : IntKind.i64.wrap ((j : Int) + 1 - 1) = (j : Int) := (IntWalk.i64_in _ (by omega)).trans (by omega)
            have z3 : IntKind.i64.wrap (j : Int) = (j : Int) := IntWalk.i64_in _ (by omega)
            have z4 : (0 : Int) ≤ (j : Int) := by omega
            have z5 : (j : Int) < (xs.length : Int) := by omega
            cases q4 : Op.bytesLess p.name.toList b.name.toList
            · have HF := Lib.hid (areS_bad hlt (HG.out.trans (by rw [HO.out, strLt, q4, Bool.and_false])))
              refine wp_region_quiet_below (by kernel_rfl) (by kernel_rfl) ?_; (repeat (first | go_big_quiet_step ((first | with_reducible exact r1 _ _ | with_reducible exact r2 _ _)))); refine wpQuiet_nil ?_; intro _ hw'; obtain ⟨⟨dq, osq⟩, rfl⟩ := hw'
              go_wp2_with fail
              go_ret
              exact ⟨ret_bool HF.out.symm, BW.out.trans ((below_regrown wr dq osq).mono BW.out.size)⟩
            · have HT1 := Lib.hid (show areSTo xs (j + 1 + 1) = true by rw [areSTo, HT.out, HG.out, HBal.out, HO.out, strLt, q4]; rfl)
              refine wp_region_quiet_below (by kernel_rfl) (by kernel_rfl) ?_; (repeat (first | go_big_quiet_step ((first | with_reducible exact r1 _ _ | with_reducible exact r2 _ _)))); refine wpQuiet_nil ?_; intro _ hw'; obtain ⟨⟨dq, osq⟩, rfl⟩ := hw'
              go_wp2_with fail
              go_roundw
              case rel => exact ⟨j + 1 + 1, by omega, HT1, BW.out.trans ((below_regrown wr dq osq).mono BW.out.size), by go_num⟩
              case measure => simp [intOf]; omega
    · obtain rfl : k = xs.length := by omega
      have HE := Lib.hid (show areS xs = decide ((xs.length : Int) ≤ 10) by rw [areS, HT.out, Bool.true_and])
      go_wp2_with fail
      go_ret
      exact ⟨ret_bool HE.out.symm, BW.out⟩
end Go.Proofs.YtaaioengebaebaaGreatDoor
namespace Go.Proofs.YtaaioengebaebaaGreatDoor
open Go.ChangeShapes Go.WideShapes Go.ChangeAt Go.RowKit Go.Sort

theorem implPt_any (x y : Int) (w : World) : Calls Tryz.prog 74 #[.agg #[.int .i64 x, .int .i64 y]] w fun e w' => e = .returned (.bool (ptB x y)) ∧ Below w.heap.size w w' := by
  have I1 := Lib.hid (within_any x (-1000) 1000)
  have I2 := Lib.hid (within_any y (-1000) 1000)
  have HX := Lib.hid (show ptB x y = (inB x (-1000) 1000 && inB y (-1000) 1000) from rfl)
  generalize ptB x y = r at HX ⊢
  generalize inB x (-1000) 1000 = q1 at I1 HX
  generalize inB y (-1000) 1000 = q2 at I2 HX
  cases q1
  all_goals
    go_enter Tryz.func74, Tryz.ntmps74
    go_wp2_with fail
    refine (I1.out _).mono ?_; rintro e w' ⟨rfl, rfl⟩
    go_wp2_with fail
  · go_ret
    exact ⟨ret_bool (by rw [HX.out]; rfl), by (repeat (first | exact Below.refl _ _ | assumption | refine Below.drew ?_ | refine below_drewN' ?_ _ | refine Below.alloc ?_ (by (try simp); (try omega)) _ | refine Below.setCell ?_ (by (try simp); (try omega)) _))⟩
  · refine (I2.out _).mono ?_; rintro e w' ⟨rfl, rfl⟩
    go_wp2_with fail
    go_ret
    exact ⟨ret_bool (by rw [HX.out]; simp), by (repeat (first | exact Below.refl _ _ | assumption | refine Below.drew ?_ | refine below_drewN' ?_ _ | refine Below.alloc ?_ (by (try simp); (try omega)) _ | refine Below.setCell ?_ (by (try simp); (try omega)) _))⟩
set_option maxRecDepth 100000 in
set_option maxHeartbeats 4000000 in
theorem implAreS_any (xs : List Sit) (A : Option Addr) (c : Nat) (w : World) (hr : Reads w w.heap.size 3 A xs.length (siC xs)) (hm : xs.length ≤ 9223372036854775807) (hn : ∀ b ∈ xs, b.name.size ≤ 9223372036854775807) (hdir : Dirs w) :
    Calls Tryz.prog 36 #[.slice A xs.length c] w fun e w' => e = .returned (.bool (areS xs)) ∧ Below w.heap.size w w' := by
  have HR := Lib.hid hr; clear hr
  have HN := Lib.hid hn; clear hn
  go_enter Tryz.func36, Tryz.ntmps36
  go_wp2_with fail
  go_loopw [7] (fun v7 wr => ∃ k : Nat, k ≤ xs.length ∧ Hid (areSTo xs k = true) ∧ Hid (Below w.heap.size w wr) ∧ v7 = .int .i64 k) (fun i _ => xs.length - (intOf i).toNat)
  case atStart => exact ⟨0, by omega, rfl, Below.refl _ _, rfl⟩
  case round =>
    obtain ⟨k, hk, HT, BW, rfl⟩ := hrel
    by_cases hlt : k < xs.length
    · obtain ⟨ab, ao, rfl, hadb, hcell⟩ := (HR.out.below BW.out).2 (by omega)
      obtain ⟨e0, e1, e2⟩ := siC_get xs k hlt
      have c0 := hcell _ _ e0
      have c1 := hcell _ _ e1
      have c2 := hcell _ _ e2
      rw [← Nat.add_assoc] at c1 c2
      have HC := Lib.hid hcell
      clear hcell e0 e1 e2
      have hsz := HN.out xs[k] (List.getElem_mem hlt)
      have HG := Lib.hid (show goodS xs k = (sitB xs[k] && ordS xs k xs[k]) by rw [goodS, List.getElem?_eq_getElem hlt])
      generalize xs[k] = b at c0 c1 c2 hsz HG
      have T3 := Lib.hid (three_new wr 77 (.string b.name) (.int .i64 b.x) (.int .i64 b.y))
      go_upto_region 4 with (fail)
      generalize hW : wr.alloc (.cells #[.string b.name, .int .i64 b.x, .int .i64 b.y] 77) = W0
      obtain ⟨hb, _, k0, k1, k2⟩ := T3.out W0 hW.symm
      clear hW c0 c1 c2
      have HB := Lib.hid hb; clear hb
      have DW : Dirs W0 := hdir.below (BW.out.trans (HB.out.mono BW.out.size))
      have r1 : ∀ d os, Calls Tryz.prog 73 #[.string b.name] (grow (redrawn W0 d) os) (fun e w'' => e = .returned (.bool (codeW b.name)) ∧ ∃ p : Regrown, w'' = grow (redrawn W0 p.d) p.os) := fun d os => Calls.regrown_of (implCodeW_any b.name hsz _ (DW.below (below_regrown W0 d os)))
      have r2 : ∀ d os, Calls Tryz.prog 74 #[.agg #[.int .i64 b.x, .int .i64 b.y]] (grow (redrawn W0 d) os) (fun e w'' => e = .returned (.bool (ptB b.x b.y)) ∧ ∃ p : Regrown, w'' = grow (redrawn W0 p.d) p.os) := fun d os => Calls.regrown_of (implPt_any _ _ _)
      cases q1 : codeW b.name
      · have HF := Lib.hid (areS_bad hlt (HG.out.trans (by rw [sitB, q1]; rfl)))
        rw [q1] at r1
        clear q1 r2
        refine wp_region_quiet_below (by kernel_rfl) (by kernel_rfl) ?_; (repeat (first | go_big_quiet_step ((first | with_reducible exact r1 _ _)))); refine wpQuiet_nil ?_; intro _ hw'; obtain ⟨⟨dq, osq⟩, rfl⟩ := hw'
        go_wp2_with fail
        go_ret
        exact ⟨ret_bool HF.out.symm, BW.out.trans ((HB.out.trans ((below_regrown W0 dq osq).mono HB.out.size)).mono BW.out.size)⟩
      · cases q2 : ptB b.x b.y
        · have HF := Lib.hid (areS_bad hlt (HG.out.trans (by rw [sitB, q1, q2]; rfl)))
          rw [q1] at r1
          rw [q2] at r2
          clear q1 q2
          refine wp_region_quiet_below (by kernel_rfl) (by kernel_rfl) ?_; (repeat (first | go_big_quiet_step ((first | with_reducible exact r1 _ _ | with_reducible exact r2 _ _)))); refine wpQuiet_nil ?_; intro _ hw'; obtain ⟨⟨dq, osq⟩, rfl⟩ := hw'
          go_wp2_with fail
          go_ret
          exact ⟨ret_bool HF.out.symm, BW.out.trans ((HB.out.trans ((below_regrown W0 dq osq).mono HB.out.size)).mono BW.out.size)⟩
        have HBal := Lib.hid (show sitB b = true by rw [sitB, q1, q2]; rfl)
        rw [q1] at r1
        rw [q2] at r2
        clear q1 q2
        by_cases hk0 : k = 0
        · subst hk0
          have HT1 := Lib.hid (show areSTo xs (0 + 1) = true by rw [areSTo, HG.out, HBal.out]; rfl)
          refine wp_region_quiet_below (by kernel_rfl) (by kernel_rfl) ?_; (repeat (first | go_big_quiet_step ((first | with_reducible exact r1 _ _ | with_reducible exact r2 _ _)))); refine wpQuiet_nil ?_; intro _ hw'; obtain ⟨⟨dq, osq⟩, rfl⟩ := hw'
          go_wp2_with fail
          go_roundw
          case rel => exact ⟨0 + 1, by omega, HT1, BW.out.trans ((HB.out.trans ((below_regrown W0 dq osq).mono HB.out.size)).mono BW.out.size), by go_num⟩
          case measure => simp [intOf]; omega
        · obtain ⟨j, rfl⟩ : ∃ j, k = j + 1 := ⟨k - 1, by omega⟩
          have hj : j < xs.length := by omega
          obtain ⟨p, hp⟩ : ∃ p, xs[j] = p := ⟨_, rfl⟩
          have cp := cell_regrown ((HC.out _ _ (siC_get xs j hj).1 |> fun h => (Below.cell HB.out (p := ⟨ab, ao + j * 3, none⟩) (Nat.lt_of_lt_of_le hadb BW.out.size)).trans h))
          rw [hp] at cp
          have HO := Lib.hid (show ordS xs (j + 1) b = strLt p.name b.name by rw [ordS, List.getElem?_eq_getElem hj, hp])
          clear hp
          have z1 : (0 : Int) < (j : Int) + 1 := by omega
          have z2 : IntKind.i64.wrap ((j : Int) + 1 - 1) = (j : Int) := (IntWalk.i64_in _ (by omega)).trans (by omega)
          have z3 : IntKind.i64.wrap (j : Int) = (j : Int) := IntWalk.i64_in _ (by omega)
          have z4 : (0 : Int) ≤ (j : Int) := by omega
          have z5 : (j : Int) < (xs.length : Int) := by omega
          cases q4 : Op.bytesLess p.name.toList b.name.toList
          · have HF := Lib.hid (areS_bad hlt (HG.out.trans (by rw [HO.out, strLt, q4, Bool.and_false])))
            refine wp_region_quiet_below (by kernel_rfl) (by kernel_rfl) ?_; (repeat (first | go_big_quiet_step ((first | with_reducible exact r1 _ _ | with_reducible exact r2 _ _)))); refine wpQuiet_nil ?_; intro _ hw'; obtain ⟨⟨dq, osq⟩, rfl⟩ := hw'
            go_wp2_with fail
            go_ret
            exact ⟨ret_bool HF.out.symm, BW.out.trans ((HB.out.trans ((below_regrown W0 dq osq).mono HB.out.size)).mono BW.out.size)⟩
          · have HT1 := Lib.hid (show areSTo xs (j + 1 + 1) = true by rw [areSTo, HT.out, HG.out, HBal.out, HO.out, strLt, q4]; rfl)
            refine wp_region_quiet_below (by kernel_rfl) (by kernel_rfl) ?_; (repeat (first | go_big_quiet_step ((first | with_reducible exact r1 _ _ | with_reducible exact r2 _ _)))); refine wpQuiet_nil ?_; intro _ hw'; obtain ⟨⟨dq, osq⟩, rfl⟩ := hw'
            go_wp2_with fail
            go_roundw
            case rel => exact ⟨j + 1 + 1, by omega, HT1, BW.out.trans ((HB.out.trans ((below_regrown W0 dq osq).mono HB.out.size)).mono BW.out.size), by go_num⟩
            case measure => simp [intOf]; omega
    · obtain rfl : k = xs.length := by omega
      have HE := Lib.hid (show areS xs = decide ((xs.length : Int) ≤ 10) by rw [areS, HT.out, Bool.true_and])
      go_wp2_with fail
      go_ret
      exact ⟨ret_bool HE.out.symm, BW.out⟩
end Go.Proofs.YtaaioengebaebaaGreatDoor
namespace Go.Proofs.YtaaioengebaebaaGreatDoor
open Go.ChangeShapes Go.WideShapes Go.Deep Go.RowKit
/-- The sites that a walk needs: they lie in memory, and their codes are not too long. -/
def HasSit (w : World) (xs : List Sit) (A : Option Addr) : Prop := Reads w w.heap.size 3 A xs.length (siC xs) ∧ xs.length ≤ 9223372036854775807 ∧ ∀ b ∈ xs, b.name.size ≤ 9223372036854775807
theorem HasSit.below {w w' : World} {xs : List Sit} {A : Option Addr} (h : HasSit w xs A) (hb : Below w.heap.size w w') : HasSit w' xs A := ⟨(h.1.below hb).more hb.size, h.2⟩
section
variable {H : Type} {enc : TypeId × Value → H} {w : World} {base : Nat} {spare : Nat → Bool} {held : Bool}
theorem open_sites {P : Program} {t e e0 e1 : TypeId} {n0 n1 m0 m1 : Field} {d : DataW H} {p : List MemPlace} (ht : P.underlying t = some (.slice e)) (he : P.underlying e = some (.struct #[n0, n1])) (hp : P.underlying n1.type = some (.struct #[m0, m1]))
    (hC : P.cellsOf e = 3) (o0 : n0.offset = 0) (o1 : n1.offset = 1) (q0 : m0.offset = 0) (q1 : m1.offset = 1) (c0 : P.cellsOf n0.type = 1) (c1 : P.cellsOf n1.type = 2) (d0 : P.cellsOf m0.type = 1) (d1 : P.cellsOf m1.type = 1)
    (t0 : n0.type = e0) (u0 : m0.type = e1) (u1 : m1.type = e1) (hstr : P.underlying e0 = some .string) (hint : P.underlying e1 = some (.int .i64)) {a : Option Addr} {len cap : Nat} (h : DataW.Trod enc P w base spare held t (.slice a len cap) d p) :
    ∃ xs : List Sit, xs.length = len ∧ HasSit w xs a := by
  obtain ⟨fuel, hf⟩ := h
  rcases open_slice ht hf with ⟨hcs, _⟩ | ⟨x, l, c, m, n, D, Pl, hcs, _, hl, hm, hmm, _, hi⟩
  · simp [Value.cells] at hcs
    obtain ⟨rfl, rfl, rfl⟩ := hcs
    exact ⟨[], rfl, by simpa [siC] using Reads.nil_, by simp, by simp⟩
  · simp [Value.cells] at hcs
    obtain ⟨rfl, rfl, rfl⟩ := hcs
    have hlm : len ≤ m := by rw [hmm]; split <;> omega
    have key : ∀ i, i < len → ∃ s : Sit, (w.cell? (x.add (i * 3)) = some (.string s.name) ∧ w.cell? (x.add (i * 3 + 1)) = some (.int .i64 s.x) ∧ w.cell? (x.add (i * 3 + 2)) = some (.int .i64 s.y)) ∧ s.name.size ≤ maxLen := by
      intro i hil
      obtain ⟨cs', hc, htr⟩ := hi i (by omega)
      rw [hC] at hc
      obtain ⟨ys, n', _, _, hlen, hyl, hff⟩ := DataW.trod_struct he htr
      obtain ⟨_, hcl, hat⟩ := World.cells?_some hc
      match cs', hcl with
      | [a0, a1, a2], _ =>
        have h0 := hff 0 n0 rfl
        have h1 := hff 1 n1 rfl
        rw [o0, c0, List.getElem?_eq_getElem (by rw [hyl]; simp)] at h0
        rw [o1, c1, List.getElem?_eq_getElem (by rw [hyl]; simp)] at h1
        rw [t0] at h0
        obtain ⟨s, e1', _, hs⟩ := DataW.trod_string hstr h0
        obtain ⟨zs, n'', _, _, _, hzl, hgg⟩ := DataW.trod_struct hp h1
        have g0 := hgg 0 m0 rfl
        have g1 := hgg 1 m1 rfl
        rw [q0, d0, List.getElem?_eq_getElem (by rw [hzl]; simp), u0] at g0
        rw [q1, d1, List.getElem?_eq_getElem (by rw [hzl]; simp), u1] at g1
        obtain ⟨k1, e2', _⟩ := DataW.trod_int hint g0
        obtain ⟨k2, e3', _⟩ := DataW.trod_int hint g1
        simp at e1' e2' e3'
        subst e1' e2' e3'
        have b0 := hat 0 (by omega)
        have b1 := hat 1 (by omega)
        have b2 := hat 2 (by omega)
        rw [Go.Deep.add_add] at b0 b1 b2
        exact ⟨⟨s, k1, k2⟩, ⟨by simpa using b0, by simpa using b1, by simpa using b2⟩, hs⟩
    obtain ⟨xs, hxl, hxp⟩ := list_of key
    refine ⟨xs, hxl, ?_, by unfold maxLen at hm; omega, ?_⟩
    · rw [hxl]
      refine reads_of (by decide) (by rw [siC_len, hxl]) (fun i j hil hj u hu => ?_) (fun h0 => ⟨_, by simpa using (hxp 0 (by omega)).1.1⟩)
      obtain ⟨g0, g1, g2⟩ := siC_get xs i (by omega)
      obtain ⟨⟨q0, q1, q2⟩, _⟩ := hxp i (by omega)
      have hj3 : j = 0 ∨ j = 1 ∨ j = 2 := by omega
      rcases hj3 with rfl | rfl | rfl
      · rw [Nat.add_zero] at hu ⊢; rw [g0] at hu; cases hu; exact q0
      · rw [g1] at hu; cases hu; exact q1
      · rw [g2] at hu; cases hu; exact q2
    · intro b hb
      obtain ⟨i, hi, rfl⟩ := List.getElem_of_mem hb
      have := (hxp i hi).2
      unfold maxLen at this
      omega
end
end Go.Proofs.YtaaioengebaebaaGreatDoor
namespace Go.Proofs.YtaaioengebaebaaGreatDoor
open Go.ChangeShapes Go.WideShapes Go.ChangeAt Go.RowKit
theorem blk_rd {w : World} {g : Nat} {t : TypeId} {size n : Nat} {L : List Value} (h : Blk w g t L.toArray) (hl : L.length = n * size) : Reads w w.heap.size size (some ⟨g, 0, none⟩) n L :=
  ⟨hl, fun _ => ⟨g, 0, rfl, h.lt, fun j u hu => by rw [Nat.zero_add, h.cell]; simpa using hu⟩⟩
theorem specAreS_has (xs : List Sit) (A : Option Addr) (c : Nat) (w : World) (h : HasSit w xs A) : Calls Tryz.prog 37 #[.slice A xs.length c] w fun e w' => e = .returned (.bool (areS xs)) ∧ Below w.heap.size w w' := specAreS_any xs A c w h.1 h.2.1 h.2.2
theorem implAreS_has (xs : List Sit) (A : Option Addr) (c : Nat) (w : World) (h : HasSit w xs A) (hdir : Dirs w) : Calls Tryz.prog 36 #[.slice A xs.length c] w fun e w' => e = .returned (.bool (areS xs)) ∧ Below w.heap.size w w' := implAreS_any xs A c w h.1 h.2.1 h.2.2 hdir
end Go.Proofs.YtaaioengebaebaaGreatDoor
