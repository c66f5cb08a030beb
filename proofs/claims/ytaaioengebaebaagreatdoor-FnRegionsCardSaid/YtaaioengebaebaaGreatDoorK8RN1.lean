/- How many cells a mask holds; an empty mask: both sides. -/
import Derived.Test.YtaaioengebaebaaGreatDoorRows
import Derived.Test.YtaaioengebaebaaGreatDoorK8GA
import Derived.WalkKit
import Derived.ProofKit
import Derived.OpenShut
import Derived.BigQuiet
import Derived.Outline
import Derived.WalkSpells
import Derived.WalkLawsBesides
import Derived.Deep.DeepCutAuto
import Derived.Test.YtaaioengebaebaaGreatDoorK8RM3
import Derived.Test.YtaaioengebaebaaGreatDoorK8GG
import Derived.Test.YtaaioengebaebaaGreatDoorK8GB
namespace Go.Proofs.YtaaioengebaebaaGreatDoor
open Go.ChangeShapes Go.WideShapes Go.ChangeAt Go.RowKit Go.Sort

theorem cop_far {W : World} {g r m : Nat} {t : TypeId} {L : List Value} (h : Copied W g t m L) (hn : g ≠ r) (v0 v1 v2 v3 v4 : Value) : Copied (((((W.setCell ⟨r, 0, none⟩ v0).setCell ⟨r, 1, none⟩ v1).setCell ⟨r, 2, none⟩ v2).setCell ⟨r, 3, none⟩ v3).setCell ⟨r, 4, none⟩ v4) g t m L := by
  obtain ⟨cs, h1, h2⟩ := h
  exact ⟨cs, ((((h1.far (p := ⟨r, 0, none⟩) hn _).far (p := ⟨r, 1, none⟩) hn _).far (p := ⟨r, 2, none⟩) hn _).far (p := ⟨r, 3, none⟩) hn _).far (p := ⟨r, 4, none⟩) hn _, h2⟩
theorem blk_far5 {W : World} {g r : Nat} {t : TypeId} {cs : Array Value} (h1 : Blk W g t cs) (hn : g ≠ r) (v0 v1 v2 v3 v4 : Value) : Blk (((((W.setCell ⟨r, 0, none⟩ v0).setCell ⟨r, 1, none⟩ v1).setCell ⟨r, 2, none⟩ v2).setCell ⟨r, 3, none⟩ v3).setCell ⟨r, 4, none⟩ v4) g t cs :=
  ((((h1.far (p := ⟨r, 0, none⟩) hn _).far (p := ⟨r, 1, none⟩) hn _).far (p := ⟨r, 2, none⟩) hn _).far (p := ⟨r, 3, none⟩) hn _).far (p := ⟨r, 4, none⟩) hn _
theorem below_5 {m : Nat} {w W : World} {r : Nat} (b : Below m w W) (hg : m ≤ r) (v0 v1 v2 v3 v4 : Value) : Below m w (((((W.setCell ⟨r, 0, none⟩ v0).setCell ⟨r, 1, none⟩ v1).setCell ⟨r, 2, none⟩ v2).setCell ⟨r, 3, none⟩ v3).setCell ⟨r, 4, none⟩ v4) :=
  ((((b.setCell (p := ⟨r, 0, none⟩) hg _).setCell (p := ⟨r, 1, none⟩) hg _).setCell (p := ⟨r, 2, none⟩) hg _).setCell (p := ⟨r, 3, none⟩) hg _).setCell (p := ⟨r, 4, none⟩) hg _
/-- A new row of n cells that may be filled with anything. -/
def isMade (B n : Nat) (t : TypeId) (g : Nat) : World → Prop := fun w => B ≤ g ∧ ∀ L : List Value, L.length = n → Copied w g t 0 L
theorem isMade.keep {B n g : Nat} {t : TypeId} (n0 : 0 < n ∨ True) {w w' : World} (h : isMade B n t g w) (hb : Below w.heap.size w w') : isMade B n t g w' := ⟨h.1, fun L hL => (h.2 L hL).below hb (h.2 L hL).lt⟩
def rowMade (B n : Nat) (t : TypeId) : Value → World → Prop := fun v w => ∃ g, v = .slice (some ⟨g, 0, none⟩) n n ∧ isMade B n t g w
def maskMade (B n : Nat) (t : TypeId) (x y W H : Int) : Value → World → Prop := fun v w => ∃ g, v = .agg #[.int .i64 x, .int .i64 y, .int .i64 W, .int .i64 H, .slice (some ⟨g, 0, none⟩) n n] ∧ isMade B n t g w
theorem keep_rowM (B n : Nat) (t : TypeId) : StableS KeepW (rowMade B n t) := fun _ _ _ h ⟨g, e, m⟩ => ⟨g, e, m.keep (.inr trivial) h⟩
theorem keep_maskM (B n : Nat) (t : TypeId) (x y W H : Int) : StableS KeepW (maskMade B n t x y W H) := fun _ _ _ h ⟨g, e, m⟩ => ⟨g, e, m.keep (.inr trivial) h⟩
theorem made_new (v : World) (B n : Nat) (t : TypeId) (cs : Array Value) (hs : cs.size = n) (hB : B ≤ v.heap.size) : isMade B n t v.heap.size (v.alloc (.cells cs t)) := ⟨hB, fun _ hL => Copied.start v t cs (by rw [hs, hL])⟩
def cntM (cs : List Bool) : Int := sumTo cs (fun _ => 1) cs.length
theorem one_bd (cs : List Bool) (h : cs.length ≤ 576) (k : Nat) (hk : k ≤ cs.length) : 0 ≤ sumTo cs (fun _ => 1) k ∧ sumTo cs (fun _ => 1) k ≤ 72000000 * (k : Int) := sumTo_bd cs (fun _ => 1) cs.length (fun _ _ => ⟨by decide, by decide⟩) k hk
set_option maxRecDepth 100000 in
set_option maxHeartbeats 1000000 in
theorem implCountM (x y W H : Int) (A : Option Addr) (c : Nat) (cs : List Bool) (hn : cs.length ≤ 576) (w : World) (hr : Reads w w.heap.size 1 A cs.length (bC cs)) :
    Calls Tryz.prog 61 #[maskV x y W H A cs.length c] w fun e w' => e = .returned (.int .i64 (cntM cs)) ∧ Below w.heap.size w w' := by
  have HB := Lib.hid (one_bd cs hn)
  have KN := Lib.hid (blks_one w 40 #[.int .i64 x, .int .i64 y, .int .i64 W, .int .i64 H, .slice A cs.length c])
  have HR := Lib.hid hr; clear hr
  have HC := Lib.hid (show cntM cs = sumTo cs (fun _ => 1) cs.length from rfl)
  generalize cntM cs = r at HC ⊢
  unfold maskV
  go_enter Tryz.func61, Tryz.ntmps61
  go_wp2_with fail
  generalize hW : w.alloc (.cells #[.int .i64 x, .int .i64 y, .int .i64 W, .int .i64 H, .slice A cs.length c] 40) = W0
  obtain ⟨km, bw, _⟩ := KN.out W0 hW.symm
  have KM := Lib.hid km; have BB := Lib.hid bw
  clear hW km bw
  go_loopw [3, 5, 9] (fun v3 v5 v9 wr => ∃ k : Nat, k ≤ cs.length ∧ Hid (Below w.heap.size w wr) ∧ Hid (Blk wr w.heap.size 40 #[.int .i64 x, .int .i64 y, .int .i64 W, .int .i64 H, .slice A cs.length c]) ∧ v3 = .int .i64 (sumTo cs (fun _ => 1) k) ∧ v9 = .int .i64 k) (fun _ _ i _ => cs.length - (intOf i).toNat)
  case atStart => exact ⟨0, Nat.zero_le _, BB.out, KM.out, rfl, rfl⟩
  case round =>
    clear BB KM
    obtain ⟨k, hk, BW, KM, rfl, rfl⟩ := hrel
    by_cases hlt : k < cs.length
    · obtain ⟨ab, ao, rfl, hadb, hcell⟩ := ((HR.out.below BW.out).more BW.out.size).2 (by omega)
      have c0 := hcell _ _ (bC_get cs k hlt)
      clear hcell
      have hlt' : (k : Int) < (cs.length : Int) := by omega
      obtain ⟨m0, m1, m2, m3, m4⟩ := cells_5 KM.out
      cases hv : cs[k]
      · rw [hv] at c0
        have HN := Lib.hid (sumTo_no cs (fun _ => 1) k hlt hv)
        clear hv
        go_wp2_with fail
        go_roundw
        case rel => exact ⟨k + 1, by omega, BW.out, KM.out, by rw [HN.out], by go_num⟩
        case measure => simp [intOf]; omega
      · rw [hv] at c0
        have HN := Lib.hid (sumTo_yes cs (fun _ => 1) k hlt hv)
        have hb := HB.out k hk
        have hs : IntKind.i64.wrap (sumTo cs (fun _ => 1) k + 1) = sumTo cs (fun _ => 1) k + 1 := IntWalk.i64_in _ (by omega)
        clear hv
        go_wp2_with fail
        go_roundw
        case rel => exact ⟨k + 1, by omega, BW.out, KM.out, by rw [HN.out], by go_num⟩
        case measure => simp [intOf]; omega
    · obtain rfl : k = cs.length := by omega
      obtain ⟨m0, m1, m2, m3, m4⟩ := cells_5 KM.out
      go_wp2_with fail
      go_ret
      exact ⟨by rw [HC.out]; rfl, BW.out⟩
set_option maxRecDepth 100000 in
set_option maxHeartbeats 1000000 in
theorem specCountM (x y W H : Int) (A : Option Addr) (c : Nat) (cs : List Bool) (hn : cs.length ≤ 576) (w : World) (hr : Reads w w.heap.size 1 A cs.length (bC cs)) :
    Calls Tryz.prog 58 #[maskV x y W H A cs.length c] w fun e w' => e = .returned (.int .i64 (cntM cs)) ∧ Below w.heap.size w w' := by
  have HB := Lib.hid (one_bd cs hn)
  have KN := Lib.hid (blks_one w 40 #[.int .i64 x, .int .i64 y, .int .i64 W, .int .i64 H, .slice A cs.length c])
  have HR := Lib.hid hr; clear hr
  have HC := Lib.hid (show cntM cs = sumTo cs (fun _ => 1) cs.length from rfl)
  generalize cntM cs = r at HC ⊢
  unfold maskV
  go_enter Tryz.func58, Tryz.ntmps58
  go_wp2_with fail
  generalize hW : w.alloc (.cells #[.int .i64 x, .int .i64 y, .int .i64 W, .int .i64 H, .slice A cs.length c] 40) = W0
  obtain ⟨km, bw, _⟩ := KN.out W0 hW.symm
  have KM := Lib.hid km; have BB := Lib.hid bw
  clear hW km bw
  go_loopw [3, 4, 8] (fun v3 v4 v8 wr => ∃ k : Nat, k ≤ cs.length ∧ Hid (Below w.heap.size w wr) ∧ Hid (Blk wr w.heap.size 40 #[.int .i64 x, .int .i64 y, .int .i64 W, .int .i64 H, .slice A cs.length c]) ∧ v3 = .int .i64 (sumTo cs (fun _ => 1) k) ∧ v8 = .int .i64 k) (fun _ _ i _ => cs.length - (intOf i).toNat)
  case atStart => exact ⟨0, Nat.zero_le _, BB.out, KM.out, rfl, rfl⟩
  case round =>
    clear BB KM
    obtain ⟨k, hk, BW, KM, rfl, rfl⟩ := hrel
    by_cases hlt : k < cs.length
    · obtain ⟨ab, ao, rfl, hadb, hcell⟩ := ((HR.out.below BW.out).more BW.out.size).2 (by omega)
      have c0 := hcell _ _ (bC_get cs k hlt)
      clear hcell
      have hlt' : (k : Int) < (cs.length : Int) := by omega
      obtain ⟨m0, m1, m2, m3, m4⟩ := cells_5 KM.out
      cases hv : cs[k]
      · rw [hv] at c0
        have HN := Lib.hid (sumTo_no cs (fun _ => 1) k hlt hv)
        clear hv
        go_wp2_with fail
        go_roundw
        case rel => exact ⟨k + 1, by omega, BW.out, KM.out, by rw [HN.out], by go_num⟩
        case measure => simp [intOf]; omega
      · rw [hv] at c0
        have HN := Lib.hid (sumTo_yes cs (fun _ => 1) k hlt hv)
        have hb := HB.out k hk
        have hs : IntKind.i64.wrap (sumTo cs (fun _ => 1) k + 1) = sumTo cs (fun _ => 1) k + 1 := IntWalk.i64_in _ (by omega)
        clear hv
        go_wp2_with fail
        go_roundw
        case rel => exact ⟨k + 1, by omega, BW.out, KM.out, by rw [HN.out], by go_num⟩
        case measure => simp [intOf]; omega
    · obtain rfl : k = cs.length := by omega
      obtain ⟨m0, m1, m2, m3, m4⟩ := cells_5 KM.out
      go_wp2_with fail
      go_ret
      exact ⟨by rw [HC.out]; rfl, BW.out⟩
set_option maxRecDepth 100000 in
set_option maxHeartbeats 1000000 in
theorem implEmptyM (x y W H : Int) (Am : Option Addr) (n cm : Nat) (hn : n ≤ 576) (w : World) :
    Calls Tryz.prog 105 #[maskV x y W H Am n cm] w fun e w' => ∃ g, e = .returned (maskV x y W H (some ⟨g, 0, none⟩) n n) ∧ isMade w.heap.size n 4 g w' ∧ Below w.heap.size w w' := by
  have mixed : Tryz.prog.follows Departure.mixedOrders = true := by kernel_rfl
  obtain ⟨i0, hi, hz, hsz, hby⟩ := info_parts infoBool
  have hmk := fun W => run_make_rowN (P := Tryz.prog) 26 4 i0 _ Tryz.underlying26 hi hz .i64 .i64 n n (Nat.le_refl _) (by rw [hby]; omega) (by omega) W
  have KN := Lib.hid (blks_two w 40 40 #[.int .i64 x, .int .i64 y, .int .i64 W, .int .i64 H, .slice Am n cm] #[.int .i64 0, .int .i64 0, .int .i64 0, .int .i64 0, .slice none 0 0])
  unfold maskV
  go_enter Tryz.func105, Tryz.ntmps105
  go_upto_region 1 with (fail)
  generalize hW : (w.alloc (.cells #[.int .i64 x, .int .i64 y, .int .i64 W, .int .i64 H, .slice Am n cm] 40)).alloc (.cells #[.int .i64 0, .int .i64 0, .int .i64 0, .int .i64 0, .slice none 0 0] 40) = W0
  obtain ⟨km, kr, bw, hsz0⟩ := KN.out W0 hW.symm
  have KM := Lib.hid km; have KR := Lib.hid kr; have BB := Lib.hid bw
  clear hW km kr bw
  refine' wp_region_slots (OverW W0) KeepW [isV (.pointer (some ⟨w.heap.size, 0, none⟩)), isV (.agg #[.int .i64 x, .int .i64 y]), isV (.pointer (some ⟨w.heap.size, 2, none⟩)), isV (.int .i64 W), isV (.pointer (some ⟨w.heap.size, 3, none⟩)), isV (.int .i64 H), isV (.pointer (some ⟨w.heap.size, 4, none⟩)), isV (.slice Am n cm), isV (.int .i64 (n : Int)), rowMade W0.heap.size n 4, maskMade W0.heap.size n 4 x y W H] mixed (by kernel_rfl) (by kernel_rfl) (OverW.drew (Below.refl _ _)) ?_ _ _ ?_ ?_ ?_
  · exact AllStable.cons (keep_V _) (AllStable.cons (keep_V _) (AllStable.cons (keep_V _) (AllStable.cons (keep_V _) (AllStable.cons (keep_V _) (AllStable.cons (keep_V _) (AllStable.cons (keep_V _) (AllStable.cons (keep_V _) (AllStable.cons (keep_V _) (AllStable.cons (keep_rowM _ _ _) (AllStable.cons (keep_maskM _ _ _ _ _ _ _) (AllStable.nil)))))))))))
  rotate_left 2
  · intro f; simp only [lay, List.setIfInBounds_toArray, List.set_cons_succ, List.set_cons_zero, Nat.reduceAdd]; exact rfl
  · refine AllTo.cons ?_ ?_
    · intro f v hS hT K hK
      simp only [Act.put, List.setIfInBounds_toArray, List.set_cons_succ, List.set_cons_zero] at hK
      go_simp
      exact hK.out _ _ rfl hS (keep_refl _)
    refine AllTo.cons ?_ ?_
    · intro f v hS hT K hK
      have e0 := hT 0 _ rfl rfl
      dsimp only [isV] at e0
      obtain ⟨m0, m1, m2, m3, m4⟩ := cells_5 (KM.out.below hS KM.out.lt)
      simp only [Act.put, List.setIfInBounds_toArray, List.set_cons_succ, List.set_cons_zero, e0] at hK
      go_simp
      exact hK.out _ _ rfl hS (keep_refl _)
    refine AllTo.cons ?_ ?_
    · intro f v hS hT K hK
      simp only [Act.put, List.setIfInBounds_toArray, List.set_cons_succ, List.set_cons_zero] at hK
      go_simp
      exact hK.out _ _ rfl hS (keep_refl _)
    refine AllTo.cons ?_ ?_
    · intro f v hS hT K hK
      have e2 := hT 2 _ rfl rfl
      dsimp only [isV] at e2
      obtain ⟨m0, m1, m2, m3, m4⟩ := cells_5 (KM.out.below hS KM.out.lt)
      simp only [Act.put, List.setIfInBounds_toArray, List.set_cons_succ, List.set_cons_zero, e2] at hK
      go_simp
      exact hK.out _ _ rfl hS (keep_refl _)
    refine AllTo.cons ?_ ?_
    · intro f v hS hT K hK
      simp only [Act.put, List.setIfInBounds_toArray, List.set_cons_succ, List.set_cons_zero] at hK
      go_simp
      exact hK.out _ _ rfl hS (keep_refl _)
    refine AllTo.cons ?_ ?_
    · intro f v hS hT K hK
      have e4 := hT 4 _ rfl rfl
      dsimp only [isV] at e4
      obtain ⟨m0, m1, m2, m3, m4⟩ := cells_5 (KM.out.below hS KM.out.lt)
      simp only [Act.put, List.setIfInBounds_toArray, List.set_cons_succ, List.set_cons_zero, e4] at hK
      go_simp
      exact hK.out _ _ rfl hS (keep_refl _)
    refine AllTo.cons ?_ ?_
    · intro f v hS hT K hK
      simp only [Act.put, List.setIfInBounds_toArray, List.set_cons_succ, List.set_cons_zero] at hK
      go_simp
      exact hK.out _ _ rfl hS (keep_refl _)
    refine AllTo.cons ?_ ?_
    · intro f v hS hT K hK
      have e6 := hT 6 _ rfl rfl
      dsimp only [isV] at e6
      obtain ⟨m0, m1, m2, m3, m4⟩ := cells_5 (KM.out.below hS KM.out.lt)
      simp only [Act.put, List.setIfInBounds_toArray, List.set_cons_succ, List.set_cons_zero, e6] at hK
      go_simp
      exact hK.out _ _ rfl hS (keep_refl _)
    refine AllTo.cons ?_ ?_
    · intro f v hS hT K hK
      have e7 := hT 7 _ rfl rfl
      dsimp only [isV] at e7
      simp only [Act.put, List.setIfInBounds_toArray, List.set_cons_succ, List.set_cons_zero, e7] at hK
      go_simp
      exact hK.out _ _ rfl hS (keep_refl _)
    refine AllTo.cons ?_ ?_
    · intro f v hS hT K hK
      have e8 := hT 8 _ rfl rfl
      dsimp only [isV] at e8
      simp only [Act.put, List.setIfInBounds_toArray, List.set_cons_succ, List.set_cons_zero, e8] at hK
      go_simp
      exact hK.out _ _ ⟨v.heap.size, rfl, made_new v _ _ _ _ (by first | (rw [size_madeCells]; done) | (rw [size_madeCells, hsz, Nat.mul_one])) hS.size⟩ (hS.new _) (keep_new _ _)
    refine AllTo.cons ?_ ?_
    · intro f v hS hT K hK
      have e1 := hT 1 _ rfl rfl
      dsimp only [isV] at e1
      have e3 := hT 3 _ rfl rfl
      dsimp only [isV] at e3
      have e5 := hT 5 _ rfl rfl
      dsimp only [isV] at e5
      obtain ⟨g9, e9, q9⟩ := hT 9 _ rfl rfl
      simp only [Act.put, List.setIfInBounds_toArray, List.set_cons_succ, List.set_cons_zero, e1, e3, e5, e9] at hK
      go_simp
      exact hK.out _ _ ⟨_, rfl, q9⟩ hS (keep_refl _)
    exact AllTo.nil
  · intro f v hS hT K hK
    obtain ⟨g, e, hg, hc⟩ := hT 10 _ rfl
    rw [e]
    clear e hT
    have KR2 := Lib.hid (KR.out.below hS KR.out.lt)
    have B2 := Lib.hid (BB.out.trans (hS.mono BB.out.size))
    have hgr : g ≠ w.heap.size + 1 := by omega
    have HC := Lib.hid hc
    have hgw : w.heap.size ≤ g := by omega
    clear hS hc
    obtain ⟨f0, f1, f2, f3, f4, f5, f6, f7, f8, f9, f10, f11, f12, f13, f14⟩ := facts_5 KR2.out
    go_simp
    refine hK.out _ _ ?_
    clear hK K
    go_wp2_with fail
    exact bodyPost_ret (v := .agg #[.int .i64 x, .int .i64 y, .int .i64 W, .int .i64 H, .slice (some ⟨g, 0, none⟩) n n]) (by simp [results, Tryz.results105, go_sem, f10, f11, f12, f13, f14]) rfl ⟨g, rfl, ⟨hgw, fun L hL => cop_far (HC.out L hL) hgr _ _ _ _ _⟩, below_5 B2.out (by omega) _ _ _ _ _⟩
set_option maxRecDepth 100000 in
set_option maxHeartbeats 1000000 in
theorem specEmptyM (x y W H : Int) (Am : Option Addr) (n cm : Nat) (hn : n ≤ 576) (hnW : (n : Int) = W * H) (w : World) :
    Calls Tryz.prog 89 #[maskV x y W H Am n cm] w fun e w' => ∃ g, e = .returned (maskV x y W H (some ⟨g, 0, none⟩) n n) ∧ isMade w.heap.size n 4 g w' ∧ Below w.heap.size w w' := by
  have mixed : Tryz.prog.follows Departure.mixedOrders = true := by kernel_rfl
  obtain ⟨i0, hi, hz, hsz, hby⟩ := info_parts infoBool
  have hmk := fun W => run_make_rowN (P := Tryz.prog) 26 4 i0 _ Tryz.underlying26 hi hz .i64 .i64 n n (Nat.le_refl _) (by rw [hby]; omega) (by omega) W
  have KN := Lib.hid (blks_two w 40 40 #[.int .i64 x, .int .i64 y, .int .i64 W, .int .i64 H, .slice Am n cm] #[.int .i64 0, .int .i64 0, .int .i64 0, .int .i64 0, .slice none 0 0])
  have hw : IntKind.i64.wrap (W * H) = (n : Int) := by rw [← hnW]; exact IntWalk.i64_in _ (by omega)
  clear hnW
  unfold maskV
  go_enter Tryz.func89, Tryz.ntmps89
  go_upto_region 1 with (fail)
  generalize hW : (w.alloc (.cells #[.int .i64 x, .int .i64 y, .int .i64 W, .int .i64 H, .slice Am n cm] 40)).alloc (.cells #[.int .i64 0, .int .i64 0, .int .i64 0, .int .i64 0, .slice none 0 0] 40) = W0
  obtain ⟨km, kr, bw, hsz0⟩ := KN.out W0 hW.symm
  have KM := Lib.hid km; have KR := Lib.hid kr; have BB := Lib.hid bw
  clear hW km kr bw
  refine' wp_region_slots (OverW W0) KeepW [isV (.pointer (some ⟨w.heap.size, 0, none⟩)), isV (.agg #[.int .i64 x, .int .i64 y]), isV (.pointer (some ⟨w.heap.size, 2, none⟩)), isV (.int .i64 W), isV (.pointer (some ⟨w.heap.size, 3, none⟩)), isV (.int .i64 H), isV (.pointer (some ⟨w.heap.size, 2, none⟩)), isV (.int .i64 W), isV (.pointer (some ⟨w.heap.size, 3, none⟩)), isV (.int .i64 H), isV (.int .i64 (n : Int)), rowMade W0.heap.size n 4, maskMade W0.heap.size n 4 x y W H] mixed (by kernel_rfl) (by kernel_rfl) (OverW.drew (Below.refl _ _)) ?_ _ _ ?_ ?_ ?_
  · exact AllStable.cons (keep_V _) (AllStable.cons (keep_V _) (AllStable.cons (keep_V _) (AllStable.cons (keep_V _) (AllStable.cons (keep_V _) (AllStable.cons (keep_V _) (AllStable.cons (keep_V _) (AllStable.cons (keep_V _) (AllStable.cons (keep_V _) (AllStable.cons (keep_V _) (AllStable.cons (keep_V _) (AllStable.cons (keep_rowM _ _ _) (AllStable.cons (keep_maskM _ _ _ _ _ _ _) (AllStable.nil)))))))))))))
  rotate_left 2
  · intro f; simp only [lay, List.setIfInBounds_toArray, List.set_cons_succ, List.set_cons_zero, Nat.reduceAdd]; exact rfl
  · refine AllTo.cons ?_ ?_
    · intro f v hS hT K hK
      simp only [Act.put, List.setIfInBounds_toArray, List.set_cons_succ, List.set_cons_zero] at hK
      go_simp
      exact hK.out _ _ rfl hS (keep_refl _)
    refine AllTo.cons ?_ ?_
    · intro f v hS hT K hK
      have e0 := hT 0 _ rfl rfl
      dsimp only [isV] at e0
      obtain ⟨m0, m1, m2, m3, m4⟩ := cells_5 (KM.out.below hS KM.out.lt)
      simp only [Act.put, List.setIfInBounds_toArray, List.set_cons_succ, List.set_cons_zero, e0] at hK
      go_simp
      exact hK.out _ _ rfl hS (keep_refl _)
    refine AllTo.cons ?_ ?_
    · intro f v hS hT K hK
      simp only [Act.put, List.setIfInBounds_toArray, List.set_cons_succ, List.set_cons_zero] at hK
      go_simp
      exact hK.out _ _ rfl hS (keep_refl _)
    refine AllTo.cons ?_ ?_
    · intro f v hS hT K hK
      have e2 := hT 2 _ rfl rfl
      dsimp only [isV] at e2
      obtain ⟨m0, m1, m2, m3, m4⟩ := cells_5 (KM.out.below hS KM.out.lt)
      simp only [Act.put, List.setIfInBounds_toArray, List.set_cons_succ, List.set_cons_zero, e2] at hK
      go_simp
      exact hK.out _ _ rfl hS (keep_refl _)
    refine AllTo.cons ?_ ?_
    · intro f v hS hT K hK
      simp only [Act.put, List.setIfInBounds_toArray, List.set_cons_succ, List.set_cons_zero] at hK
      go_simp
      exact hK.out _ _ rfl hS (keep_refl _)
    refine AllTo.cons ?_ ?_
    · intro f v hS hT K hK
      have e4 := hT 4 _ rfl rfl
      dsimp only [isV] at e4
      obtain ⟨m0, m1, m2, m3, m4⟩ := cells_5 (KM.out.below hS KM.out.lt)
      simp only [Act.put, List.setIfInBounds_toArray, List.set_cons_succ, List.set_cons_zero, e4] at hK
      go_simp
      exact hK.out _ _ rfl hS (keep_refl _)
    refine AllTo.cons ?_ ?_
    · intro f v hS hT K hK
      simp only [Act.put, List.setIfInBounds_toArray, List.set_cons_succ, List.set_cons_zero] at hK
      go_simp
      exact hK.out _ _ rfl hS (keep_refl _)
    refine AllTo.cons ?_ ?_
    · intro f v hS hT K hK
      have e6 := hT 6 _ rfl rfl
      dsimp only [isV] at e6
      obtain ⟨m0, m1, m2, m3, m4⟩ := cells_5 (KM.out.below hS KM.out.lt)
      simp only [Act.put, List.setIfInBounds_toArray, List.set_cons_succ, List.set_cons_zero, e6] at hK
      go_simp
      exact hK.out _ _ rfl hS (keep_refl _)
    refine AllTo.cons ?_ ?_
    · intro f v hS hT K hK
      simp only [Act.put, List.setIfInBounds_toArray, List.set_cons_succ, List.set_cons_zero] at hK
      go_simp
      exact hK.out _ _ rfl hS (keep_refl _)
    refine AllTo.cons ?_ ?_
    · intro f v hS hT K hK
      have e8 := hT 8 _ rfl rfl
      dsimp only [isV] at e8
      obtain ⟨m0, m1, m2, m3, m4⟩ := cells_5 (KM.out.below hS KM.out.lt)
      simp only [Act.put, List.setIfInBounds_toArray, List.set_cons_succ, List.set_cons_zero, e8] at hK
      go_simp
      exact hK.out _ _ rfl hS (keep_refl _)
    refine AllTo.cons ?_ ?_
    · intro f v hS hT K hK
      have e7 := hT 7 _ rfl rfl
      dsimp only [isV] at e7
      have e9 := hT 9 _ rfl rfl
      dsimp only [isV] at e9
      simp only [Act.put, List.setIfInBounds_toArray, List.set_cons_succ, List.set_cons_zero, e7, e9] at hK
      go_simp
      exact hK.out _ _ rfl hS (keep_refl _)
    refine AllTo.cons ?_ ?_
    · intro f v hS hT K hK
      have e10 := hT 10 _ rfl rfl
      dsimp only [isV] at e10
      simp only [Act.put, List.setIfInBounds_toArray, List.set_cons_succ, List.set_cons_zero, e10] at hK
      go_simp
      exact hK.out _ _ ⟨v.heap.size, rfl, made_new v _ _ _ _ (by first | (rw [size_madeCells]; done) | (rw [size_madeCells, hsz, Nat.mul_one])) hS.size⟩ (hS.new _) (keep_new _ _)
    refine AllTo.cons ?_ ?_
    · intro f v hS hT K hK
      have e1 := hT 1 _ rfl rfl
      dsimp only [isV] at e1
      have e3 := hT 3 _ rfl rfl
      dsimp only [isV] at e3
      have e5 := hT 5 _ rfl rfl
      dsimp only [isV] at e5
      obtain ⟨g11, e11, q11⟩ := hT 11 _ rfl rfl
      simp only [Act.put, List.setIfInBounds_toArray, List.set_cons_succ, List.set_cons_zero, e1, e3, e5, e11] at hK
      go_simp
      exact hK.out _ _ ⟨_, rfl, q11⟩ hS (keep_refl _)
    exact AllTo.nil
  · intro f v hS hT K hK
    obtain ⟨g, e, hg, hc⟩ := hT 12 _ rfl
    rw [e]
    clear e hT
    have KR2 := Lib.hid (KR.out.below hS KR.out.lt)
    have B2 := Lib.hid (BB.out.trans (hS.mono BB.out.size))
    have hgr : g ≠ w.heap.size + 1 := by omega
    have HC := Lib.hid hc
    have hgw : w.heap.size ≤ g := by omega
    clear hS hc
    obtain ⟨f0, f1, f2, f3, f4, f5, f6, f7, f8, f9, f10, f11, f12, f13, f14⟩ := facts_5 KR2.out
    go_simp
    refine hK.out _ _ ?_
    clear hK K
    go_wp2_with fail
    exact bodyPost_ret (v := .agg #[.int .i64 x, .int .i64 y, .int .i64 W, .int .i64 H, .slice (some ⟨g, 0, none⟩) n n]) (by simp [results, Tryz.results89, go_sem, f10, f11, f12, f13, f14]) rfl ⟨g, rfl, ⟨hgw, fun L hL => cop_far (HC.out L hL) hgr _ _ _ _ _⟩, below_5 B2.out (by omega) _ _ _ _ _⟩
end Go.Proofs.YtaaioengebaebaaGreatDoor
