/- Ballots: their cells; the law's own helpers over ballots: sizes, copies, comparisons. -/
import Derived.Test.YtlcfpaghipjgiaaDoorRows
import Derived.Test.YtlcfpaghipjgiaaDoorL0
import Derived.Test.YtlcfpaghipjgiaaDoorM0
import Derived.WalkKit
import Derived.ProofKit
import Derived.OpenShut
import Derived.BigQuiet
import Derived.Outline
import Derived.WalkSpells
import Derived.WalkLawsBesides
import Derived.Deep.DeepCutAuto
import Derived.Test.YtlcfpaghipjgiaaDoorM1
import Derived.Test.YtlcfpaghipjgiaaDoorW0
import Derived.Lib.Hide
import Derived.StillTailTactics
namespace Go.Proofs.YtlcfpaghipjgiaaDoor
open Go.ChangeShapes Go.WideShapes Go.ChangeAt Go.RowKit

structure Bal where
  name : ByteArray
  choice : Int
  weight : Int
def Bal.cells (b : Bal) : List Value := [.string b.name, .int .i64 b.choice, .int .i64 b.weight]
def Bal.val (b : Bal) : Value := .agg #[.string b.name, .int .i64 b.choice, .int .i64 b.weight]
def baC (xs : List Bal) : List Value := xs.flatMap Bal.cells
theorem baC_len (xs : List Bal) : (baC xs).length = xs.length * 3 := by
  induction xs with
  | nil => rfl
  | cons x r ih => simp [baC, Bal.cells] at *; omega
theorem baC_get (xs : List Bal) (k : Nat) (h : k < xs.length) : (baC xs)[k * 3]? = some (.string xs[k].name) ∧ (baC xs)[k * 3 + 1]? = some (.int .i64 xs[k].choice) ∧ (baC xs)[k * 3 + 2]? = some (.int .i64 xs[k].weight) := by
  induction xs generalizing k with
  | nil => simp at h
  | cons x r ih =>
    cases k with
    | zero => simp [baC, Bal.cells]
    | succ k =>
      obtain ⟨i0, i1, i2⟩ := ih k (by simpa using h)
      simp only [baC, List.flatMap_cons, Bal.cells] at i0 i1 i2 ⊢
      refine ⟨?_, ?_, ?_⟩
      · rw [show (k + 1) * 3 = k * 3 + 1 + 1 + 1 from by omega]; simpa using i0
      · rw [show (k + 1) * 3 + 1 = k * 3 + 1 + 1 + 1 + 1 from by omega]; simpa using i1
      · rw [show (k + 1) * 3 + 2 = k * 3 + 2 + 1 + 1 + 1 from by omega]; simpa using i2
theorem baC_one (xs : List Bal) : ∀ u ∈ baC xs, u.oneCell' = true := by
  intro u hu
  simp only [baC, List.mem_flatMap] at hu
  obtain ⟨s, _, h⟩ := hu
  simp [Bal.cells] at h
  rcases h with rfl | rfl | rfl <;> rfl

/-- What is left of the size: -1 if it is too large. -/
def szTo (left : Int) : List Bal → Int
  | [] => left
  | b :: r => if left - b.name.size < 0 then -1 else szTo (left - b.name.size) r
def szB (xs : List Bal) : Int := if (1048576 : Int) - xs.length < 0 then -1 else szTo (1048576 - xs.length) xs
theorem szTo_pos {left : Int} (xs : List Bal) (h : 0 ≤ szTo left xs) : ∀ b ∈ xs, (b.name.size : Int) ≤ left := by
  induction xs generalizing left with
  | nil => intro b hb; simp at hb
  | cons x r ih =>
    unfold szTo at h
    split at h
    · omega
    · intro b hb
      rcases List.mem_cons.1 hb with rfl | hb
      · omega
      · have := ih h b hb; omega
theorem szB_pos {xs : List Bal} (h : 0 ≤ szB xs) : xs.length ≤ 1048576 ∧ ∀ b ∈ xs, b.name.size ≤ 1048576 := by
  unfold szB at h
  split at h
  · omega
  · refine ⟨by omega, fun b hb => ?_⟩
    have := szTo_pos xs h b hb
    omega
theorem szBal_any (b : Bal) (left : Int) (h0 : 0 ≤ left) (h1 : left ≤ 1048576) (hb : b.name.size ≤ 9223372036854775807) (w : World) :
    Calls Tryd.prog 32 #[b.val, .int .i64 left] w fun e w' => e = .returned (.int .i64 (if left - b.name.size < 0 then -1 else left - b.name.size)) ∧ Below w.heap.size w w' := by
  obtain ⟨name, choice, weight⟩ := b
  dsimp only at hb ⊢
  unfold Bal.val
  dsimp only
  by_cases h : left - name.size < 0
  · rw [if_pos h]
    go_enter Tryd.func32, Tryd.ntmps32
    go_wp2
    go_ret
    exact ⟨rfl, by (repeat (first | exact Below.refl _ _ | assumption | refine Below.drew ?_ | refine below_drewN' ?_ _ | refine Below.alloc ?_ (by (try simp); (try omega)) _ | refine Below.setCell ?_ (by (try simp); (try omega)) _))⟩
  · rw [if_neg h]
    go_enter Tryd.func32, Tryd.ntmps32
    go_wp2
    go_ret
    exact ⟨rfl, by (repeat (first | exact Below.refl _ _ | assumption | refine Below.drew ?_ | refine below_drewN' ?_ _ | refine Below.alloc ?_ (by (try simp); (try omega)) _ | refine Below.setCell ?_ (by (try simp); (try omega)) _))⟩
set_option maxRecDepth 100000 in
theorem szBalS_any (xs : List Bal) (A : Option Addr) (c : Nat) (w : World) (hr : Reads w w.heap.size 3 A xs.length (baC xs)) (hm : xs.length ≤ 9223372036854775807) (hn : ∀ b ∈ xs, b.name.size ≤ 9223372036854775807) :
    Calls Tryd.prog 13 #[.slice A xs.length c, .int .i64 1048576] w fun e w' => e = .returned (.int .i64 (szB xs)) ∧ Below w.heap.size w w' := by
  have HR := Lib.hid hr; clear hr
  have HN := Lib.hid hn; clear hn
  by_cases hbig : (1048576 : Int) - xs.length < 0
  · rw [szB, if_pos hbig]
    go_enter Tryd.func13, Tryd.ntmps13
    go_wp2
    go_ret
    exact ⟨rfl, Below.refl _ _⟩
  · have HZ := Lib.hid (show szB xs = szTo (1048576 - xs.length) xs by rw [szB, if_neg hbig])
    go_enter Tryd.func13, Tryd.ntmps13
    go_wp2_with fail
    go_loopw [1, 5] (fun v1 v5 wr => ∃ (k : Nat) (left : Int), k ≤ xs.length ∧ 0 ≤ left ∧ left ≤ 1048576 ∧ Hid (szTo (1048576 - xs.length) xs = szTo left (xs.drop k)) ∧ Hid (Below w.heap.size w wr) ∧ v1 = .int .i64 left ∧ v5 = .int .i64 k) (fun _ i _ => xs.length - (intOf i).toNat)
    case atStart => exact ⟨0, 1048576 - xs.length, by omega, by omega, by omega, rfl, Below.refl _ _, rfl, rfl⟩
    case round =>
      obtain ⟨k, left, hk, h0, h1, HL, BW, rfl, rfl⟩ := hrel
      by_cases hlt : k < xs.length
      · obtain ⟨ab, ao, rfl, hadb, hcell⟩ := (HR.out.below BW.out).2 (by omega)
        obtain ⟨e0, e1, e2⟩ := baC_get xs k hlt
        have c0 := hcell _ _ e0
        have c1 := hcell _ _ e1
        have c2 := hcell _ _ e2
        rw [← Nat.add_assoc] at c1 c2
        clear hcell e0 e1 e2
        have hsz := HN.out xs[k] (List.getElem_mem hlt)
        have HD := Lib.hid (show szTo left (xs.drop k) = if left - xs[k].name.size < 0 then -1 else szTo (left - xs[k].name.size) (xs.drop (k + 1)) by rw [List.drop_eq_getElem_cons hlt]; rfl)
        generalize xs[k] = b at c0 c1 c2 hsz HD
        go_wp2_with fail
        refine (szBal_any b left h0 h1 hsz wr).mono ?_
        by_cases hneg : left - b.name.size < 0
        · rw [if_pos hneg] at HD ⊢
          rintro e w1 ⟨rfl, b1⟩
          go_wp2_with fail
          go_ret
          exact ⟨ret_int (by rw [HZ.out, HL.out, HD.out]), BW.out.trans (b1.mono BW.out.size)⟩
        · rw [if_neg hneg] at HD ⊢
          rintro e w1 ⟨rfl, b1⟩
          go_wp2_with fail
          go_roundw
          case rel => exact ⟨k + 1, left - b.name.size, by omega, by omega, by omega, HL.out.trans HD.out, BW.out.trans (b1.mono BW.out.size), rfl, by go_num⟩
          case measure => simp [intOf]; omega
      · obtain rfl : k = xs.length := by omega
        go_wp2_with fail
        go_ret
        exact ⟨ret_int (by rw [HZ.out, HL.out]; simp [szTo]), BW.out⟩

theorem infoBal : (Tryd.prog.info? 49).map (fun i => (i.zero, i.size, i.bytes)) = some (some (.agg #[.string ⟨#[]⟩, .int .i64 0, .int .i64 0]), 3, 32) := by kernel_rfl
theorem toBal_any (b : Bal) (w : World) :
    Calls Tryd.prog 34 #[b.val] w fun e w' => e = .returned b.val ∧ Below w.heap.size w w' := by
  obtain ⟨name, choice, weight⟩ := b
  unfold Bal.val
  dsimp only
  go_enter Tryd.func34, Tryd.ntmps34
  go_wp2
  refine bodyPost_ret (v := .agg #[.string name, .int .i64 choice, .int .i64 weight]) (by simp [results, Tryd.results34, go_sem]) rfl ⟨rfl, ?_⟩
  (repeat (first | exact Below.refl _ _ | assumption | refine Below.drew ?_ | refine below_drewN' ?_ _ | refine Below.alloc ?_ (by (try simp); (try omega)) _ | refine Below.setCell ?_ (by (try simp); (try omega)) _))
instance : DecidableEq Bal := fun a b => by
  cases a; cases b
  rw [Bal.mk.injEq]
  infer_instance
theorem eqBal_any (a b : Bal) (w : World) :
    Calls Tryd.prog 50 #[a.val, b.val] w fun e w' => e = .returned (.bool (decide (a = b))) ∧ Below w.heap.size w w' := by
  obtain ⟨name, choice, weight⟩ := a
  obtain ⟨name', choice', weight'⟩ := b
  unfold Bal.val
  dsimp only
  go_enter Tryd.func50, Tryd.ntmps50
  go_wp2
  all_goals
    go_ret
    refine ⟨ret_bool ?_, ?_⟩
    · simp only [str_eq, bne_iff_ne, bne_eq_false_iff_eq, ne_eq, Bool.not_eq_true', Bool.not_eq_false', decide_eq_true_eq, decide_eq_false_iff_not] at *; simp [*]
    · (repeat (first | exact Below.refl _ _ | assumption | refine Below.drew ?_ | refine below_drewN' ?_ _ | refine Below.alloc ?_ (by (try simp); (try omega)) _ | refine Below.setCell ?_ (by (try simp); (try omega)) _))

set_option maxRecDepth 100000 in
theorem toBalS_any (xs : List Bal) (A : Option Addr) (c : Nat) (w : World) (hr : Reads w w.heap.size 3 A xs.length (baC xs)) (hm : xs.length ≤ 1048576) :
    Calls Tryd.prog 15 #[.slice A xs.length c] w fun e w' => e = .returned (.slice (some ⟨w.heap.size, 0, none⟩) xs.length xs.length) ∧ Blk w' w.heap.size 49 (baC xs).toArray ∧ Below w.heap.size w w' := by
  obtain ⟨i0, hi, hz, hsz, hby⟩ := info_parts infoBal
  have hmk := fun W => run_make_rowN (P := Tryd.prog) 25 49 i0 _ Tryd.underlying25 hi hz .i64 .i64 xs.length xs.length (Nat.le_refl _) (by rw [hby]; omega) (by omega) W
  go_enter Tryd.func15, Tryd.ntmps15
  go_wp2
  go_loopw [4] (fun v4 wr => ∃ k : Nat, k ≤ xs.length ∧ Copied wr w.heap.size 49 (k * 3) (baC xs) ∧ Below w.heap.size w wr ∧ v4 = .int .i64 k) (fun i _ => xs.length - (intOf i).toNat)
  case atStart => exact ⟨0, Nat.zero_le _, Copied.start w _ _ (by rw [size_madeCells, baC_len]), (Below.refl _ _).alloc (Nat.le_refl _) _, rfl⟩
  case round =>
    obtain ⟨k, hk, hcp, hb, rfl⟩ := hrel
    have hg := hcp.lt
    by_cases hlt : k < xs.length
    · obtain ⟨ab, ao, rfl, hadb, hcell⟩ := (hr.below hb).2 (by omega)
      obtain ⟨e0, e1, e2⟩ := baC_get xs k hlt
      have c0 := hcell _ _ e0
      have c1 := hcell _ _ e1
      have c2 := hcell _ _ e2
      rw [← Nat.add_assoc] at c1 c2
      clear hcell hr
      obtain ⟨⟨u0, d0⟩, f0⟩ := hcp.cell (j := k * 3) (by rw [baC_len]; omega)
      obtain ⟨⟨u1, d1⟩, f1⟩ := hcp.cell (j := k * 3 + 1) (by rw [baC_len]; omega)
      obtain ⟨⟨u2, d2⟩, f2⟩ := hcp.cell (j := k * 3 + 2) (by rw [baC_len]; omega)
      have E0 := Lib.hid e0; clear e0
      have E1 := Lib.hid e1; clear e1
      have E2 := Lib.hid e2; clear e2
      generalize xs[k] = b at c0 c1 c2 E0 E1 E2
      go_wp2_with fail
      refine (toBal_any b _).mono ?_; rintro e w1 ⟨rfl, hb1⟩
      obtain ⟨hc1, hf1⟩ := bcell hb1
      unfold Bal.val
      go_wp2_with fail
      go_roundw
      case rel => exact ⟨k + 1, by omega, by rw [show (k + 1) * 3 = k * 3 + 1 + 1 + 1 from by omega]; exact (((hcp.below hb1 hg).set_ E0.out).set_ E1.out).set_ E2.out, (((hb.trans (hb1.mono hb.size)).setCell (Nat.le_refl _) _).setCell (Nat.le_refl _) _).setCell (Nat.le_refl _) _, by go_num⟩
      case measure => simp [intOf]; omega
    · obtain rfl : k = xs.length := by omega
      go_wp2
      go_ret
      exact ⟨rfl, Copied.done (by rw [baC_len]; exact hcp), hb⟩
theorem bal_pair {xs ys : List Bal} {k : Nat} (hl : xs.length = ys.length) (hlt : k < xs.length) (ht : xs.take k = ys.take k) (h1 : xs[k] = ys[k]) : xs.take (k + 1) = ys.take (k + 1) := by
  rw [List.take_succ_eq_append_getElem hlt, List.take_succ_eq_append_getElem (by omega), ht, h1]
set_option maxRecDepth 100000 in
theorem eqBalS_any (xs ys : List Bal) (A A' : Option Addr) (c c' : Nat) (w : World) (hr : Reads w w.heap.size 3 A xs.length (baC xs)) (hr' : Reads w w.heap.size 3 A' ys.length (baC ys)) (hm : xs.length ≤ 9223372036854775807) :
    Calls Tryd.prog 17 #[.slice A xs.length c, .slice A' ys.length c'] w fun e w' => e = .returned (.bool (decide (xs = ys))) ∧ Below w.heap.size w w' := by
  by_cases hl : xs.length = ys.length
  · have HL := Lib.hid hl
    have hl1 : xs.length ≤ ys.length := by omega
    have hl2 : ys.length ≤ xs.length := by omega
    have hne : ((xs.length : Int) != (ys.length : Int)) = false := by rw [bne_eq_false_iff_eq]; omega
    clear hl
    go_enter Tryd.func17, Tryd.ntmps17
    go_wp2
    go_loopw [5] (fun v5 wr => ∃ k : Nat, k ≤ xs.length ∧ Hid (xs.take k = ys.take k) ∧ Below w.heap.size w wr ∧ v5 = .int .i64 k) (fun i _ => xs.length - (intOf i).toNat)
    case atStart => exact ⟨0, Nat.zero_le _, by simp [Hid], Below.refl _ _, rfl⟩
    case round =>
      obtain ⟨k, hk, HT, hb, rfl⟩ := hrel
      by_cases hlt : k < xs.length
      · obtain ⟨ab, ao, rfl, hadb, hcell⟩ := (hr.below hb).2 (by omega)
        obtain ⟨ab', ao', rfl, hadb', hcell'⟩ := (hr'.below hb).2 (by omega)
        obtain ⟨e0, e1, e2⟩ := baC_get xs k hlt
        obtain ⟨e0', e1', e2'⟩ := baC_get ys k (by omega)
        have c0 := hcell _ _ e0
        have c1 := hcell _ _ e1
        have c2 := hcell _ _ e2
        have c0' := hcell' _ _ e0'
        have c1' := hcell' _ _ e1'
        have c2' := hcell' _ _ e2'
        rw [← Nat.add_assoc] at c1 c1' c2 c2'
        clear hcell hr hcell' hr' e0 e1 e0' e1' e2 e2'
        have hlt' : k < ys.length := by omega
        by_cases heq : xs[k] = ys[k]
        · have hd : decide (xs[k] = ys[k]) = true := by rw [heq]; simp
          have HN := Lib.hid (bal_pair HL.out hlt HT.out heq)
          clear heq
          have HD := Lib.hid hd; clear hd
          go_wp2_with fail
          go_still_tail 8, (by kernel_rfl)
          change wpList _ _ _ _ _ (World.drew _)
          go_wp2_with fail
          refine (eqBal_any xs[k] ys[k] _).mono ?_; rw [HD.out]; rintro e w1 ⟨rfl, hb1⟩
          go_wp2_with fail
          go_roundw
          case rel => exact ⟨k + 1, by omega, HN, hb.drew.trans (hb1.mono hb.size), by go_num⟩
          case measure => simp [intOf]; omega
        · have hd : decide (xs[k] = ys[k]) = false := by rw [decide_eq_false_iff_not]; exact heq
          have HN := Lib.hid (show xs ≠ ys from fun h => heq (by subst h; rfl))
          clear heq
          have HD := Lib.hid hd; clear hd
          go_wp2_with fail
          go_still_tail 8, (by kernel_rfl)
          change wpList _ _ _ _ _ (World.drew _)
          go_wp2_with fail
          refine (eqBal_any xs[k] ys[k] _).mono ?_; rw [HD.out]; rintro e w1 ⟨rfl, hb1⟩
          go_wp2_with fail
          go_ret
          exact ⟨ret_bool (decide_eq_false HN.out).symm, hb.drew.trans (hb1.mono hb.size)⟩
      · obtain rfl : k = xs.length := by omega
        go_wp2
        go_ret
        refine ⟨ret_bool (decide_eq_true ?_).symm, hb⟩
        have := HT.out
        rwa [List.take_length, HL.out, List.take_length] at this
  · have hne : ((xs.length : Int) != (ys.length : Int)) = true := by rw [bne_iff_ne]; omega
    have HN := Lib.hid (show xs ≠ ys from fun h => hl (by rw [h]))
    clear hl
    go_enter Tryd.func17, Tryd.ntmps17
    go_wp2
    go_ret
    exact ⟨ret_bool (decide_eq_false HN.out).symm, Below.refl _ _⟩
end Go.Proofs.YtlcfpaghipjgiaaDoor
