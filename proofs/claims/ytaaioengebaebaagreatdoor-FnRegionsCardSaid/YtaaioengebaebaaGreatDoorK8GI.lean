/- An empty mask, its cells known: both sides. Alike masks; how many points a mask has; the cell of a point. -/
import Derived.Test.YtaaioengebaebaaGreatDoorRows
import Derived.Test.YtaaioengebaebaaGreatDoorK8GA
import Derived.WalkKit
import Derived.ProofKit
import Derived.OpenShut
import Derived.BigQuiet
import Derived.Outline
import Derived.WalkSpells
import Derived.WalkLawsBesides
import Derived.Deep.DeepCutAuto
import Derived.Test.YtaaioengebaebaaGreatDoorK8RN1
import Derived.Test.YtaaioengebaebaaGreatDoorK8GK
import Derived.Deep.QuietTactic
namespace Go.Proofs.YtaaioengebaebaaGreatDoor
open Go.ChangeShapes Go.WideShapes Go.ChangeAt Go.RowKit Go.Sort

def noB (n : Nat) : List Bool := List.replicate n false
theorem noB_len (n : Nat) : (noB n).length = n := by simp [noB]
theorem madeZ (n : Nat) : madeCells #[.bool false] n = (bC (noB n)).toArray := by
  apply Array.toList_inj.1
  rw [toList_madeCells_one]
  simp [bC, noB]
/-- A new row of n cells, none set. -/
def isMadeZ (B n : Nat) (t : TypeId) (g : Nat) : World → Prop := fun w => B ≤ g ∧ Blk w g t (bC (noB n)).toArray
theorem isMadeZ.keep {B n g : Nat} {t : TypeId} {w w' : World} (h : isMadeZ B n t g w) (hb : Below w.heap.size w w') : isMadeZ B n t g w' := ⟨h.1, h.2.below hb h.2.lt⟩
def rowMadeZ (B n : Nat) (t : TypeId) : Value → World → Prop := fun v w => ∃ g, v = .slice (some ⟨g, 0, none⟩) n n ∧ isMadeZ B n t g w
def maskMadeZ (B n : Nat) (t : TypeId) (x y W H : Int) : Value → World → Prop := fun v w => ∃ g, v = .agg #[.int .i64 x, .int .i64 y, .int .i64 W, .int .i64 H, .slice (some ⟨g, 0, none⟩) n n] ∧ isMadeZ B n t g w
theorem keep_rowZ (B n : Nat) (t : TypeId) : StableS KeepW (rowMadeZ B n t) := fun _ _ _ h ⟨g, e, m⟩ => ⟨g, e, m.keep h⟩
theorem keep_maskZ (B n : Nat) (t : TypeId) (x y W H : Int) : StableS KeepW (maskMadeZ B n t x y W H) := fun _ _ _ h ⟨g, e, m⟩ => ⟨g, e, m.keep h⟩
theorem made_newZ (v : World) (B n : Nat) (t : TypeId) (cs : Array Value) (hs : cs = (bC (noB n)).toArray) (hB : B ≤ v.heap.size) : isMadeZ B n t v.heap.size (v.alloc (.cells cs t)) := ⟨hB, by rw [← hs]; exact Blk.new v t cs⟩
/-- One cell of a row of bools is set. -/
theorem blk_bool {w : World} {g k n : Nat} {t : TypeId} {bs : List Bool} (h : Blk w g t (bC bs).toArray) (b : Bool) (hl : bs.length = n) (hk : k < n) : Blk (w.setCell ⟨g, k, none⟩ (.bool b)) g t (bC (bs.set k b)).toArray := by
  have := h.set_ k (.bool b)
  rwa [List.setIfInBounds_toArray, show (bC bs).set k (.bool b) = bC (bs.set k b) by simp [bC, List.map_set]] at this
theorem blk_boolat {w : World} {g k : Nat} {t : TypeId} {bs : List Bool} (h : Blk w g t (bC bs).toArray) (hk : k < bs.length) : w.cell? ⟨g, k, none⟩ = some (.bool bs[k]) := by
  rw [h.cell, List.getElem?_toArray]
  exact bC_get bs k hk
set_option maxRecDepth 100000 in
set_option maxHeartbeats 1000000 in
theorem implEmptyZ (x y W H : Int) (Am : Option Addr) (n cm : Nat) (hn : n ≤ 576) (w : World) :
    Calls Tryz.prog 105 #[maskV x y W H Am n cm] w fun e w' => ∃ g, e = .returned (maskV x y W H (some ⟨g, 0, none⟩) n n) ∧ isMadeZ w.heap.size n 4 g w' ∧ Below w.heap.size w w' := by
  have mixed : Tryz.prog.follows Departure.mixedOrders = true := by kernel_rfl
  obtain ⟨i0, hi, hz, hsz, hby⟩ := info_parts infoBool
  have hmk := fun W => run_make_rowN (P := Tryz.prog) 26 4 i0 _ Tryz.underlying26 hi hz .i64 .i64 n n (Nat.le_refl _) (by rw [hby]; omega) (by omega) W
  have KN := Lib.hid (blks_two w 40 40 #[.int .i64 x, .int .i64 y, .int .i64 W, .int .i64 H, .slice Am n cm] #[.int .i64 0, .int .i64 0, .int .i64 0, .int .i64 0, .slice none 0 0])
  unfold maskV
  go_enter Tryz.func105, Tryz.ntmps105
  go_upto_region 1 with (fail)
  generalize hW : (w.alloc (.cells #[.int .i64 x, .int .i64 y, .int .i64 W, .int .i64 H, .slice Am n cm] 40)).alloc (.cells #[.int .i64 0, .int .i64 0, .int .i64 0, .int .i64 0, .slice none 0 0] 40) = W0
  obtain ⟨km, kr, bw, hsz0⟩ := KN.out W0 hW.symm
  have KM := Lib.hid km; have KR := Lib.hid kr; have BB := Lib.hid bw
  clear hW km kr bw
  refine' wp_region_slots (OverW W0) KeepW [isV (.pointer (some ⟨w.heap.size, 0, none⟩)), isV (.agg #[.int .i64 x, .int .i64 y]), isV (.pointer (some ⟨w.heap.size, 2, none⟩)), isV (.int .i64 W), isV (.pointer (some ⟨w.heap.size, 3, none⟩)), isV (.int .i64 H), isV (.pointer (some ⟨w.heap.size, 4, none⟩)), isV (.slice Am n cm), isV (.int .i64 (n : Int)), rowMadeZ W0.heap.size n 4, maskMadeZ W0.heap.size n 4 x y W H] mixed (by kernel_rfl) (by kernel_rfl) (OverW.drew (Below.refl _ _)) ?_ _ _ ?_ ?_ ?_
  · exact AllStable.cons (keep_V _) (AllStable.cons (keep_V _) (AllStable.cons (keep_V _) (AllStable.cons (keep_V _) (AllStable.cons (keep_V _) (AllStable.cons (keep_V _) (AllStable.cons (keep_V _) (AllStable.cons (keep_V _) (AllStable.cons (keep_V _) (AllStable.cons (keep_rowZ _ _ _) (AllStable.cons (keep_maskZ _ _ _ _ _ _ _) (AllStable.nil)))))))))))
  rotate_left 2
  · intro f; simp only [lay, List.setIfInBounds_toArray, List.set_cons_succ, List.set_cons_zero, Nat.reduceAdd]; exact rfl
  · refine AllTo.cons ?_ ?_
    · intro f v hS hT K hK
      simp only [Act.put, List.setIfInBounds_toArray, List.set_cons_succ, List.set_cons_zero] at hK
      go_simp
      exact hK.out _ _ rfl hS (keep_refl _)
    refine AllTo.cons ?_ ?_
    · intro f v hS hT K hK
      have e0 := hT 0 _ rfl rfl
      dsimp only [isV] at e0
      obtain ⟨m0, m1, m2, m3, m4⟩ := cells_5 (KM.out.below hS KM.out.lt)
      simp only [Act.put, List.setIfInBounds_toArray, List.set_cons_succ, List.set_cons_zero, e0] at hK
      go_simp
      exact hK.out _ _ rfl hS (keep_refl _)
    refine AllTo.cons ?_ ?_
    · intro f v hS hT K hK
      simp only [Act.put, List.setIfInBounds_toArray, List.set_cons_succ, List.set_cons_zero] at hK
      go_simp
      exact hK.out _ _ rfl hS (keep_refl _)
    refine AllTo.cons ?_ ?_
    · intro f v hS hT K hK
      have e2 := hT 2 _ rfl rfl
      dsimp only [isV] at e2
      obtain ⟨m0, m1, m2, m3, m4⟩ := cells_5 (KM.out.below hS KM.out.lt)
      simp only [Act.put, List.setIfInBounds_toArray, List.set_cons_succ, List.set_cons_zero, e2] at hK
      go_simp
      exact hK.out _ _ rfl hS (keep_refl _)
    refine AllTo.cons ?_ ?_
    · intro f v hS hT K hK
      simp only [Act.put, List.setIfInBounds_toArray, List.set_cons_succ, List.set_cons_zero] at hK
      go_simp
      exact hK.out _ _ rfl hS (keep_refl _)
    refine AllTo.cons ?_ ?_
    · intro f v hS hT K hK
      have e4 := hT 4 _ rfl rfl
      dsimp only [isV] at e4
      obtain ⟨m0, m1, m2, m3, m4⟩ := cells_5 (KM.out.below hS KM.out.lt)
      simp only [Act.put, List.setIfInBounds_toArray, List.set_cons_succ, List.set_cons_zero, e4] at hK
      go_simp
      exact hK.out _ _ rfl hS (keep_refl _)
    refine AllTo.cons ?_ ?_
    · intro f v hS hT K hK
      simp only [Act.put, List.setIfInBounds_toArray, List.set_cons_succ, List.set_cons_zero] at hK
      go_simp
      exact hK.out _ _ rfl hS (keep_refl _)
    refine AllTo.cons ?_ ?_
    · intro f v hS hT K hK
      have e6 := hT 6 _ rfl rfl
      dsimp only [isV] at e6
      obtain ⟨m0, m1, m2, m3, m4⟩ := cells_5 (KM.out.below hS KM.out.lt)
      simp only [Act.put, List.setIfInBounds_toArray, List.set_cons_succ, List.set_cons_zero, e6] at hK
      go_simp
      exact hK.out _ _ rfl hS (keep_refl _)
    refine AllTo.cons ?_ ?_
    · intro f v hS hT K hK
      have e7 := hT 7 _ rfl rfl
      dsimp only [isV] at e7
      simp only [Act.put, List.setIfInBounds_toArray, List.set_cons_succ, List.set_cons_zero, e7] at hK
      go_simp
      exact hK.out _ _ rfl hS (keep_refl _)
    refine AllTo.cons ?_ ?_
    · intro f v hS hT K hK
      have e8 := hT 8 _ rfl rfl
      dsimp only [isV] at e8
      simp only [Act.put, List.setIfInBounds_toArray, List.set_cons_succ, List.set_cons_zero, e8] at hK
      go_simp
      exact hK.out _ _ ⟨v.heap.size, rfl, made_newZ v _ _ _ _ (by first | exact madeZ n | (rw [hsz, Nat.mul_one]; exact madeZ n) | (simp only [hsz, Nat.mul_one]; exact madeZ n)) hS.size⟩ (hS.new _) (keep_new _ _)
    refine AllTo.cons ?_ ?_
    · intro f v hS hT K hK
      have e1 := hT 1 _ rfl rfl
      dsimp only [isV] at e1
      have e3 := hT 3 _ rfl rfl
      dsimp only [isV] at e3
      have e5 := hT 5 _ rfl rfl
      dsimp only [isV] at e5
      obtain ⟨g9, e9, q9⟩ := hT 9 _ rfl rfl
      simp only [Act.put, List.setIfInBounds_toArray, List.set_cons_succ, List.set_cons_zero, e1, e3, e5, e9] at hK
      go_simp
      exact hK.out _ _ ⟨_, rfl, q9⟩ hS (keep_refl _)
    exact AllTo.nil
  · intro f v hS hT K hK
    obtain ⟨g, e, hg, hc⟩ := hT 10 _ rfl
    rw [e]
    clear e hT
    have KR2 := Lib.hid (KR.out.below hS KR.out.lt)
    have B2 := Lib.hid (BB.out.trans (hS.mono BB.out.size))
    have hgr : g ≠ w.heap.size + 1 := by omega
    have HC := Lib.hid hc
    have hgw : w.heap.size ≤ g := by omega
    clear hS hc
    obtain ⟨f0, f1, f2, f3, f4, f5, f6, f7, f8, f9, f10, f11, f12, f13, f14⟩ := facts_5 KR2.out
    go_simp
    refine hK.out _ _ ?_
    clear hK K
    go_wp2_with fail
    exact bodyPost_ret (v := .agg #[.int .i64 x, .int .i64 y, .int .i64 W, .int .i64 H, .slice (some ⟨g, 0, none⟩) n n]) (by simp [results, Tryz.results105, go_sem, f10, f11, f12, f13, f14]) rfl ⟨g, rfl, ⟨hgw, blk_far5 HC.out hgr _ _ _ _ _⟩, below_5 B2.out (by omega) _ _ _ _ _⟩
set_option maxRecDepth 100000 in
set_option maxHeartbeats 1000000 in
theorem specEmptyZ (x y W H : Int) (Am : Option Addr) (n m0 cm : Nat) (hn : n ≤ 576) (hnW : (n : Int) = W * H) (w : World) :
    Calls Tryz.prog 89 #[maskV x y W H Am m0 cm] w fun e w' => ∃ g, e = .returned (maskV x y W H (some ⟨g, 0, none⟩) n n) ∧ isMadeZ w.heap.size n 4 g w' ∧ Below w.heap.size w w' := by
  have mixed : Tryz.prog.follows Departure.mixedOrders = true := by kernel_rfl
  obtain ⟨i0, hi, hz, hsz, hby⟩ := info_parts infoBool
  have hmk := fun W => run_make_rowN (P := Tryz.prog) 26 4 i0 _ Tryz.underlying26 hi hz .i64 .i64 n n (Nat.le_refl _) (by rw [hby]; omega) (by omega) W
  have KN := Lib.hid (blks_two w 40 40 #[.int .i64 x, .int .i64 y, .int .i64 W, .int .i64 H, .slice Am m0 cm] #[.int .i64 0, .int .i64 0, .int .i64 0, .int .i64 0, .slice none 0 0])
  have hw : IntKind.i64.wrap (W * H) = (n : Int) := by rw [← hnW]; exact IntWalk.i64_in _ (by omega)
  clear hnW
  unfold maskV
  go_enter Tryz.func89, Tryz.ntmps89
  go_upto_region 1 with (fail)
  generalize hW : (w.alloc (.cells #[.int .i64 x, .int .i64 y, .int .i64 W, .int .i64 H, .slice Am m0 cm] 40)).alloc (.cells #[.int .i64 0, .int .i64 0, .int .i64 0, .int .i64 0, .slice none 0 0] 40) = W0
  obtain ⟨km, kr, bw, hsz0⟩ := KN.out W0 hW.symm
  have KM := Lib.hid km; have KR := Lib.hid kr; have BB := Lib.hid bw
  clear hW km kr bw
  refine' wp_region_slots (OverW W0) KeepW [isV (.pointer (some ⟨w.heap.size, 0, none⟩)), isV (.agg #[.int .i64 x, .int .i64 y]), isV (.pointer (some ⟨w.heap.size, 2, none⟩)), isV (.int .i64 W), isV (.pointer (some ⟨w.heap.size, 3, none⟩)), isV (.int .i64 H), isV (.pointer (some ⟨w.heap.size, 2, none⟩)), isV (.int .i64 W), isV (.pointer (some ⟨w.heap.size, 3, none⟩)), isV (.int .i64 H), isV (.int .i64 (n : Int)), rowMadeZ W0.heap.size n 4, maskMadeZ W0.heap.size n 4 x y W H] mixed (by kernel_rfl) (by kernel_rfl) (OverW.drew (Below.refl _ _)) ?_ _ _ ?_ ?_ ?_
  · exact AllStable.cons (keep_V _) (AllStable.cons (keep_V _) (AllStable.cons (keep_V _) (AllStable.cons (keep_V _) (AllStable.cons (keep_V _) (AllStable.cons (keep_V _) (AllStable.cons (keep_V _) (AllStable.cons (keep_V _) (AllStable.cons (keep_V _) (AllStable.cons (keep_V _) (AllStable.cons (keep_V _) (AllStable.cons (keep_rowZ _ _ _) (AllStable.cons (keep_maskZ _ _ _ _ _ _ _) (AllStable.nil)))))))))))))
  rotate_left 2
  · intro f; simp only [lay, List.setIfInBounds_toArray, List.set_cons_succ, List.set_cons_zero, Nat.reduceAdd]; exact rfl
  · refine AllTo.cons ?_ ?_
    · intro f v hS hT K hK
      simp only [Act.put, List.setIfInBounds_toArray, List.set_cons_succ, List.set_cons_zero] at hK
      go_simp
      exact hK.out _ _ rfl hS (keep_refl _)
    refine AllTo.cons ?_ ?_
    · intro f v hS hT K hK
      have e0 := hT 0 _ rfl rfl
      dsimp only [isV] at e0
      obtain ⟨m0, m1, m2, m3, m4⟩ := cells_5 (KM.out.below hS KM.out.lt)
      simp only [Act.put, List.setIfInBounds_toArray, List.set_cons_succ, List.set_cons_zero, e0] at hK
      go_simp
      exact hK.out _ _ rfl hS (keep_refl _)
    refine AllTo.cons ?_ ?_
    · intro f v hS hT K hK
      simp only [Act.put, List.setIfInBounds_toArray, List.set_cons_succ, List.set_cons_zero] at hK
      go_simp
      exact hK.out _ _ rfl hS (keep_refl _)
    refine AllTo.cons ?_ ?_
    · intro f v hS hT K hK
      have e2 := hT 2 _ rfl rfl
      dsimp only [isV] at e2
      obtain ⟨m0, m1, m2, m3, m4⟩ := cells_5 (KM.out.below hS KM.out.lt)
      simp only [Act.put, List.setIfInBounds_toArray, List.set_cons_succ, List.set_cons_zero, e2] at hK
      go_simp
      exact hK.out _ _ rfl hS (keep_refl _)
    refine AllTo.cons ?_ ?_
    · intro f v hS hT K hK
      simp only [Act.put, List.setIfInBounds_toArray, List.set_cons_succ, List.set_cons_zero] at hK
      go_simp
      exact hK.out _ _ rfl hS (keep_refl _)
    refine AllTo.cons ?_ ?_
    · intro f v hS hT K hK
      have e4 := hT 4 _ rfl rfl
      dsimp only [isV] at e4
      obtain ⟨m0, m1, m2, m3, m4⟩ := cells_5 (KM.out.below hS KM.out.lt)
      simp only [Act.put, List.setIfInBounds_toArray, List.set_cons_succ, List.set_cons_zero, e4] at hK
      go_simp
      exact hK.out _ _ rfl hS (keep_refl _)
    refine AllTo.cons ?_ ?_
    · intro f v hS hT K hK
      simp only [Act.put, List.setIfInBounds_toArray, List.set_cons_succ, List.set_cons_zero] at hK
      go_simp
      exact hK.out _ _ rfl hS (keep_refl _)
    refine AllTo.cons ?_ ?_
    · intro f v hS hT K hK
      have e6 := hT 6 _ rfl rfl
      dsimp only [isV] at e6
      obtain ⟨m0, m1, m2, m3, m4⟩ := cells_5 (KM.out.below hS KM.out.lt)
      simp only [Act.put, List.setIfInBounds_toArray, List.set_cons_succ, List.set_cons_zero, e6] at hK
      go_simp
      exact hK.out _ _ rfl hS (keep_refl _)
    refine AllTo.cons ?_ ?_
    · intro f v hS hT K hK
      simp only [Act.put, List.setIfInBounds_toArray, List.set_cons_succ, List.set_cons_zero] at hK
      go_simp
      exact hK.out _ _ rfl hS (keep_refl _)
    refine AllTo.cons ?_ ?_
    · intro f v hS hT K hK
      have e8 := hT 8 _ rfl rfl
      dsimp only [isV] at e8
      obtain ⟨m0, m1, m2, m3, m4⟩ := cells_5 (KM.out.below hS KM.out.lt)
      simp only [Act.put, List.setIfInBounds_toArray, List.set_cons_succ, List.set_cons_zero, e8] at hK
      go_simp
      exact hK.out _ _ rfl hS (keep_refl _)
    refine AllTo.cons ?_ ?_
    · intro f v hS hT K hK
      have e7 := hT 7 _ rfl rfl
      dsimp only [isV] at e7
      have e9 := hT 9 _ rfl rfl
      dsimp only [isV] at e9
      simp only [Act.put, List.setIfInBounds_toArray, List.set_cons_succ, List.set_cons_zero, e7, e9] at hK
      go_simp
      exact hK.out _ _ rfl hS (keep_refl _)
    refine AllTo.cons ?_ ?_
    · intro f v hS hT K hK
      have e10 := hT 10 _ rfl rfl
      dsimp only [isV] at e10
      simp only [Act.put, List.setIfInBounds_toArray, List.set_cons_succ, List.set_cons_zero, e10] at hK
      go_simp
      exact hK.out _ _ ⟨v.heap.size, rfl, made_newZ v _ _ _ _ (by first | exact madeZ n | (rw [hsz, Nat.mul_one]; exact madeZ n) | (simp only [hsz, Nat.mul_one]; exact madeZ n)) hS.size⟩ (hS.new _) (keep_new _ _)
    refine AllTo.cons ?_ ?_
    · intro f v hS hT K hK
      have e1 := hT 1 _ rfl rfl
      dsimp only [isV] at e1
      have e3 := hT 3 _ rfl rfl
      dsimp only [isV] at e3
      have e5 := hT 5 _ rfl rfl
      dsimp only [isV] at e5
      obtain ⟨g11, e11, q11⟩ := hT 11 _ rfl rfl
      simp only [Act.put, List.setIfInBounds_toArray, List.set_cons_succ, List.set_cons_zero, e1, e3, e5, e11] at hK
      go_simp
      exact hK.out _ _ ⟨_, rfl, q11⟩ hS (keep_refl _)
    exact AllTo.nil
  · intro f v hS hT K hK
    obtain ⟨g, e, hg, hc⟩ := hT 12 _ rfl
    rw [e]
    clear e hT
    have KR2 := Lib.hid (KR.out.below hS KR.out.lt)
    have B2 := Lib.hid (BB.out.trans (hS.mono BB.out.size))
    have hgr : g ≠ w.heap.size + 1 := by omega
    have HC := Lib.hid hc
    have hgw : w.heap.size ≤ g := by omega
    clear hS hc
    obtain ⟨f0, f1, f2, f3, f4, f5, f6, f7, f8, f9, f10, f11, f12, f13, f14⟩ := facts_5 KR2.out
    go_simp
    refine hK.out _ _ ?_
    clear hK K
    go_wp2_with fail
    exact bodyPost_ret (v := .agg #[.int .i64 x, .int .i64 y, .int .i64 W, .int .i64 H, .slice (some ⟨g, 0, none⟩) n n]) (by simp [results, Tryz.results89, go_sem, f10, f11, f12, f13, f14]) rfl ⟨g, rfl, ⟨hgw, blk_far5 HC.out hgr _ _ _ _ _⟩, below_5 B2.out (by omega) _ _ _ _ _⟩
end Go.Proofs.YtaaioengebaebaaGreatDoor
namespace Go.Proofs.YtaaioengebaebaaGreatDoor
open Go.ChangeShapes Go.WideShapes Go.ChangeAt Go.RowKit Go.Sort

theorem below_dN {B : Nat} {w w' : World} (h : Below B w w') (k : Nat) : Below B w (w'.drewN k) := ⟨h.os, h.tape, h.output, h.size, h.block⟩
set_option maxRecDepth 100000 in
set_option maxHeartbeats 4000000 in
theorem likeMask_same (x y W H : Int) (xs : List Bool) (A A' : Option Addr) (c c' : Nat) (w : World) (hr : Reads w w.heap.size 1 A xs.length (bC xs)) (hr' : Reads w w.heap.size 1 A' xs.length (bC xs)) (hm : xs.length ≤ 576) :
    Calls Tryz.prog 35 #[maskV x y W H A xs.length c, maskV x y W H A' xs.length c'] w fun e w' => e = .returned (.bool true) ∧ Below w.heap.size w w' := by
  have KN := Lib.hid (blks_two w 40 40 #[.int .i64 x, .int .i64 y, .int .i64 W, .int .i64 H, .slice A xs.length c] #[.int .i64 x, .int .i64 y, .int .i64 W, .int .i64 H, .slice A' xs.length c'])
  have HR := Lib.hid hr; have HR' := Lib.hid hr'; clear hr hr'
  unfold maskV
  go_enter Tryz.func35, Tryz.ntmps35
  go_upto_region 1 with (fail)
  generalize hW : (w.alloc (.cells #[.int .i64 x, .int .i64 y, .int .i64 W, .int .i64 H, .slice A xs.length c] 40)).alloc (.cells #[.int .i64 x, .int .i64 y, .int .i64 W, .int .i64 H, .slice A' xs.length c'] 40) = W0
  obtain ⟨km, kr, bw, hz0⟩ := KN.out W0 hW.symm
  have KM := Lib.hid km; have KR := Lib.hid kr; have BB := Lib.hid bw
  clear hW km kr bw hz0
  obtain ⟨m0, m1, m2, m3, m4⟩ := cells_5 KM.out
  obtain ⟨r0, r1, r2, r3, r4⟩ := cells_5 KR.out
  go_wp2_with fail
  clear m0 m1 m2 m3 m4 r0 r1 r2 r3 r4
  go_loopw [5] (fun v5 wr => ∃ k : Nat, k ≤ xs.length ∧ Hid (Below w.heap.size w wr) ∧ Hid (Blk wr w.heap.size 40 #[.int .i64 x, .int .i64 y, .int .i64 W, .int .i64 H, .slice A xs.length c]) ∧ Hid (Blk wr (w.heap.size + 1) 40 #[.int .i64 x, .int .i64 y, .int .i64 W, .int .i64 H, .slice A' xs.length c']) ∧ v5 = .int .i64 k) (fun i _ => xs.length - (intOf i).toNat)
  case atStart => exact ⟨0, Nat.zero_le _, BB.out, KM.out, KR.out, rfl⟩
  case round =>
    clear KM KR BB
    obtain ⟨k, hk, BW, KM, KR, rfl⟩ := hrel
    obtain ⟨m0, m1, m2, m3, m4⟩ := cells_5 KM.out
    obtain ⟨r0, r1, r2, r3, r4⟩ := cells_5 KR.out
    by_cases hlt : k < xs.length
    · obtain ⟨ab, ao, rfl, hadb, hcell⟩ := (HR.out.below BW.out).2 (by omega)
      obtain ⟨ab', ao', rfl, hadb', hcell'⟩ := (HR'.out.below BW.out).2 (by omega)
      have c0 := hcell _ _ (bC_get xs k hlt)
      have c0' := hcell' _ _ (bC_get xs k hlt)
      have hlt' : (k : Int) < (xs.length : Int) := by omega
      have hk0 : (0 : Int) ≤ (k : Int) := by omega
      clear hcell hcell'
      go_wp2_with fail
      go_quiet (fail)
      go_wp2_with fail
      go_roundw
      case rel => exact ⟨k + 1, by omega, below_dN BW.out _, KM.out.drewN _, KR.out.drewN _, by go_num⟩
      case measure => simp [intOf]; omega
    · obtain rfl : k = xs.length := by omega
      go_wp2_with fail
      go_ret
      exact ⟨rfl, BW.out⟩
set_option maxRecDepth 100000 in
set_option maxHeartbeats 2000000 in
theorem countP_any (x y W H : Int) (A : Option Addr) (c : Nat) (xs : List Bool) (hm : maskB x y W H xs.length = true) (w : World) (hr : Reads w w.heap.size 1 A xs.length (bC xs)) :
    Calls Tryz.prog 39 #[maskV x y W H A xs.length c] w fun e w' => e = .returned (.tuple #[.int .i64 (cntM xs), .int .i64 0]) ∧ Below w.heap.size w w' := by
  have hn : xs.length ≤ 576 := by obtain ⟨_, _, _, _, _, _, _, _, h, _⟩ := mask_bd hm; exact h
  have CM := Lib.hid (implMask x y W H A xs.length c (by omega))
  have CC := Lib.hid (fun W' (hb : Below w.heap.size w W') => implCountM x y W H A c xs hn W' ((hr.below hb).more hb.size))
  have KN := Lib.hid (blks_one w 40 #[.int .i64 x, .int .i64 y, .int .i64 W, .int .i64 H, .slice A xs.length c])
  rw [hm] at CM
  clear hr hm
  unfold maskV at CM CC ⊢
  go_enter Tryz.func39, Tryz.ntmps39
  go_wp2_with fail
  generalize hW : w.alloc (.cells #[.int .i64 x, .int .i64 y, .int .i64 W, .int .i64 H, .slice A xs.length c] 40) = W0
  obtain ⟨km, b, hz0⟩ := KN.out W0 hW.symm
  have KM := Lib.hid km; have BB := Lib.hid b
  clear hW km b hz0
  obtain ⟨m0, m1, m2, m3, m4⟩ := cells_5 KM.out
  refine (CM.out W0).mono ?_; rintro e w1 ⟨rfl, b1⟩
  clear m0 m1 m2 m3 m4
  have KM1 := Lib.hid (KM.out.below b1 KM.out.lt); have B1 := Lib.hid (BB.out.trans (b1.mono BB.out.size))
  clear b1 KM BB
  obtain ⟨m0, m1, m2, m3, m4⟩ := cells_5 KM1.out
  go_wp2_with fail
  refine (CC.out w1 B1.out).mono ?_; rintro e w2 ⟨rfl, b2⟩
  go_wp2_with fail
  go_ret2
  exact ⟨rfl, B1.out.trans (b2.mono B1.out.size)⟩
/-- The cell of a point, or -1. -/
def cellX (x y W H px py : Int) : Int := if (inB (px - x) 0 (W - 1) && inB (py - y) 0 (H - 1)) = true then (py - y) * W + (px - x) else -1
set_option maxRecDepth 100000 in
set_option maxHeartbeats 4000000 in
theorem cell_any (x y W H px py : Int) (A : Option Addr) (n c : Nat) (hx : -1000 ≤ x ∧ x ≤ 1000) (hy : -1000 ≤ y ∧ y ≤ 1000) (hW : 1 ≤ W ∧ W ≤ 24) (hH : 1 ≤ H ∧ H ≤ 24) (hpx : -1001 ≤ px ∧ px ≤ 1001) (hpy : -1001 ≤ py ∧ py ≤ 1001) (w : World) :
    Calls Tryz.prog 77 #[maskV x y W H A n c, .agg #[.int .i64 px, .int .i64 py]] w fun e w' => e = .returned (.int .i64 (cellX x y W H px py)) ∧ Below w.heap.size w w' := by
  have KN := Lib.hid (blks_two w 40 32 #[.int .i64 x, .int .i64 y, .int .i64 W, .int .i64 H, .slice A n c] #[.int .i64 px, .int .i64 py])
  have e1 : IntKind.i64.wrap (px - x) = px - x := IntWalk.i64_in _ (by omega)
  have e2 : IntKind.i64.wrap (py - y) = py - y := IntWalk.i64_in _ (by omega)
  have e3 : IntKind.i64.wrap (W - 1) = W - 1 := IntWalk.i64_in _ (by omega)
  have e4 : IntKind.i64.wrap (H - 1) = H - 1 := IntWalk.i64_in _ (by omega)
  unfold maskV
  cases h1 : inB (px - x) 0 (W - 1)
  · have HV := Lib.hid (show cellX x y W H px py = -1 by unfold cellX; rw [h1]; rfl)
    have H1 := Lib.hid h1; clear h1
    go_enter Tryz.func77, Tryz.ntmps77
    go_upto_region 1 with (fail)
    generalize hW : (w.alloc (.cells #[.int .i64 x, .int .i64 y, .int .i64 W, .int .i64 H, .slice A n c] 40)).alloc (.cells #[.int .i64 px, .int .i64 py] 32) = W0
    obtain ⟨km, kp, bw, hz0⟩ := KN.out W0 hW.symm
    have BB := Lib.hid bw
    obtain ⟨m0, m1, m2, m3, m4⟩ := cells_5 km
    obtain ⟨p0, p1⟩ := cells_2 kp
    clear hW km kp bw hz0
    go_quiet (fail)
    go_wp2_with fail
    refine (within_any _ _ _ _).mono ?_; rw [H1.out]; rintro e w' ⟨rfl, rfl⟩
    go_wp2_with fail
    go_ret
    exact ⟨by rw [HV.out]; rfl, below_dN BB.out _⟩
  · have H1 := Lib.hid h1
    cases h2 : inB (py - y) 0 (H - 1)
    · have HV := Lib.hid (show cellX x y W H px py = -1 by unfold cellX; rw [h1, h2]; rfl)
      have H2 := Lib.hid h2; clear h2 h1
      go_enter Tryz.func77, Tryz.ntmps77
      go_upto_region 1 with (fail)
      generalize hW : (w.alloc (.cells #[.int .i64 x, .int .i64 y, .int .i64 W, .int .i64 H, .slice A n c] 40)).alloc (.cells #[.int .i64 px, .int .i64 py] 32) = W0
      obtain ⟨km, kp, bw, hz0⟩ := KN.out W0 hW.symm
      have BB := Lib.hid bw
      obtain ⟨m0, m1, m2, m3, m4⟩ := cells_5 km
      obtain ⟨p0, p1⟩ := cells_2 kp
      clear hW km kp bw hz0
      go_quiet (fail)
      go_wp2_with fail
      refine (within_any _ _ _ _).mono ?_; rw [H1.out]; rintro e w' ⟨rfl, rfl⟩
      go_wp2_with fail
      refine (within_any _ _ _ _).mono ?_; rw [H2.out]; rintro e w' ⟨rfl, rfl⟩
      go_wp2_with fail
      go_ret
      exact ⟨by rw [HV.out]; rfl, below_dN BB.out _⟩
    · have HV := Lib.hid (show cellX x y W H px py = (py - y) * W + (px - x) by unfold cellX; rw [h1, h2]; rfl)
      have H2 := Lib.hid h2
      simp only [inB, Bool.and_eq_true, decide_eq_true_eq] at h1 h2
      have p0 : 0 ≤ (py - y) * W := Int.mul_nonneg h2.1 (by omega)
      have p1 : (py - y) * W ≤ 23 * 24 := Int.mul_le_mul (by omega) (by omega) (by omega) (by omega)
      have e5 : IntKind.i64.wrap ((py - y) * W) = (py - y) * W := IntWalk.i64_in _ (by omega)
      have e6 : IntKind.i64.wrap ((py - y) * W + (px - x)) = (py - y) * W + (px - x) := IntWalk.i64_in _ (by omega)
      clear h2 h1 p0 p1
      go_enter Tryz.func77, Tryz.ntmps77
      go_upto_region 1 with (fail)
      generalize hW : (w.alloc (.cells #[.int .i64 x, .int .i64 y, .int .i64 W, .int .i64 H, .slice A n c] 40)).alloc (.cells #[.int .i64 px, .int .i64 py] 32) = W0
      obtain ⟨km, kp, bw, hz0⟩ := KN.out W0 hW.symm
      have BB := Lib.hid bw
      obtain ⟨m0, m1, m2, m3, m4⟩ := cells_5 km
      obtain ⟨p0, p1⟩ := cells_2 kp
      clear hW km kp bw hz0
      go_quiet (fail)
      go_wp2_with fail
      refine (within_any _ _ _ _).mono ?_; rw [H1.out]; rintro e w' ⟨rfl, rfl⟩
      go_wp2_with fail
      refine (within_any _ _ _ _).mono ?_; rw [H2.out]; rintro e w' ⟨rfl, rfl⟩
      go_wp2_with fail
      go_ret
      exact ⟨by rw [HV.out]; rfl, below_dN BB.out _⟩
end Go.Proofs.YtaaioengebaebaaGreatDoor
