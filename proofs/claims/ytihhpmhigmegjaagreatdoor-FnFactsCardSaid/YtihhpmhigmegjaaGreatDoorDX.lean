/- Merged: l20Good of the reference: a drawn claim. l02Draw of the reference: a drawn thing, now and then spoilt. l20Draw of the reference: a drawn thing, now and then spoilt. l20List of the reference: a drawn list. -/
import Derived.Test.YtihhpmhigmegjaaGreatDoorRows
import Derived.Test.YtihhpmhigmegjaaGreatDoorL0
import Derived.Test.YtihhpmhigmegjaaGreatDoorM0
import Derived.WalkKit
import Derived.ProofKit
import Derived.OpenShut
import Derived.BigQuiet
import Derived.Outline
import Derived.WalkSpells
import Derived.WalkLawsBesides
import Derived.Deep.DeepCutAuto
import Derived.Test.YtihhpmhigmegjaaGreatDoorRX
import Derived.Test.YtihhpmhigmegjaaGreatDoorFC0
import Derived.Test.YtihhpmhigmegjaaGreatDoorRD
import Derived.Deep.AppendLies
namespace Go.Proofs.YtihhpmhigmegjaaGreatDoor
open Go.ChangeShapes Go.WideShapes Go.ChangeAt Go.RowKit

/-- A claim with short texts. -/
def SmallC (c : Clm) : Prop := c.src.size ≤ 1000 ∧ c.place.size ≤ 1000 ∧ c.val_.size ≤ 1000 ∧ -10000 ≤ c.lo ∧ c.lo ≤ 10000 ∧ -10000 ≤ c.hi ∧ c.hi ≤ 10000
/-- A drawn claim. -/
def DrawnC (w : World) (B g : Nat) (e : Ending) (w' : World) : Prop := ∃ c : Clm, e = .returned c.val ∧ SmallC c ∧ Src w' B g ∧ Only w w' g
set_option maxRecDepth 100000 in
set_option maxHeartbeats 2000000 in
theorem goodC_any (B g : Nat) (w : World) (hs : Src w B g) (hB : B ≤ w.heap.size) :
    Calls Tryz.prog 162 #[.pointer (some ⟨g, 0, none⟩)] w (DrawnC w B g) := by
  have mixed : Tryz.prog.follows Departure.mixedOrders = true := by kernel_rfl
  have hgl := hs.lt
  have HS := Lib.hid hs; clear hs
  have KN := Lib.hid (blks_two w 81 9 #[.string ⟨#[]⟩, .int .i64 0, .string ⟨#[]⟩, .string ⟨#[]⟩, .int .i64 0, .int .i64 0, .int .i64 0] #[.string ⟨#[97, 115, 104]⟩, .string ⟨#[98, 114, 105, 103]⟩, .string ⟨#[99, 111, 114, 107]⟩])
  go_enter Tryz.func162, Tryz.ntmps162
  go_upto_region 2 with (fail)
  generalize hW : (w.alloc (.cells #[.string ⟨#[]⟩, .int .i64 0, .string ⟨#[]⟩, .string ⟨#[]⟩, .int .i64 0, .int .i64 0, .int .i64 0] 81)).alloc (.cells #[.string ⟨#[97, 115, 104]⟩, .string ⟨#[98, 114, 105, 103]⟩, .string ⟨#[99, 111, 114, 107]⟩] 9) = w0
  obtain ⟨b0, b1, bw, hwz⟩ := KN.out w0 hW.symm
  clear hW KN
  have N0 := Lib.hid (only_of_below bw : Only w w0 g)
  have S0 := Lib.hid (HS.out.below bw)
  have Kr0 := Lib.hid b0; have Kp0 := Lib.hid b1
  clear bw b0 b1
  have hWB : B ≤ w0.heap.size := by omega
  have hgW : g < w0.heap.size := by omega
  have hS0 : SrcOnly w0 B g w0.drew := SrcOnly.drew ⟨S0.out, only_refl _ _⟩
  refine' wp_region_slots (SrcOnly w0 B g) (fun w w' => Only w w' g) [isRow 9 w0.heap.size [.string ⟨#[97, 116, 108, 97, 115]⟩, .string ⟨#[99, 104, 97, 114, 116, 101, 114]⟩, .string ⟨#[100, 105, 97, 114, 121]⟩, .string ⟨#[114, 111, 108, 108]⟩], isV (.pointer (some ⟨g, 0, none⟩)), isInt (0) (3), isAt 9 w0.heap.size [.string ⟨#[97, 116, 108, 97, 115]⟩, .string ⟨#[99, 104, 97, 114, 116, 101, 114]⟩, .string ⟨#[100, 105, 97, 114, 121]⟩, .string ⟨#[114, 111, 108, 108]⟩], isStr 100, isV (.pointer (some ⟨g, 0, none⟩)), isRow 2 w0.heap.size [.int .i64 0, .int .i64 0, .int .i64 1, .int .i64 1, .int .i64 2, .int .i64 3], isInt (0) (3), isV (.slice (some ⟨w.heap.size + 1, 0, none⟩) 3 3), isV (.pointer (some ⟨g, 0, none⟩)), isInt (0) (2), isAt 9 ((w.heap.size + 1)) [.string ⟨#[97, 115, 104]⟩, .string ⟨#[98, 114, 105, 103]⟩, .string ⟨#[99, 111, 114, 107]⟩], isStr 100, isV (.pointer (some ⟨g, 0, none⟩)), isInt (0) (59), isInt (1200) (1259), (fun v _ => ∃ (y0 : Int), v = .agg #[.int .i64 y0, .int .i64 0] ∧ 1200 ≤ y0 ∧ y0 ≤ 1259), isV (.pointer (some ⟨g, 0, none⟩)), isInt (0) (8), isInt (1) (9), (fun v _ => ∃ (y0 : ByteArray) (y1 : Int) (y2 : ByteArray) (y4 : Int) (y6 : Int), v = .agg #[.string y0, .int .i64 y1, .string y2, .string ⟨#[]⟩, .int .i64 y4, .int .i64 0, .int .i64 y6] ∧ y0.size ≤ 100 ∧ 0 ≤ y1 ∧ y1 ≤ 3 ∧ y2.size ≤ 100 ∧ 1200 ≤ y4 ∧ y4 ≤ 1259 ∧ 1 ≤ y6 ∧ y6 ≤ 9), isBox 81 w0.heap.size [.string ⟨#[]⟩, .int .i64 0, .string ⟨#[]⟩, .string ⟨#[]⟩, .int .i64 0, .int .i64 0, .int .i64 0]] mixed (by kernel_rfl) (by kernel_rfl) hS0 ?_ _ _ ?_ ?_ ?_
  · exact AllStable.cons (stable_Row _ (by omega) _ _) (AllStable.cons (stable_V _ _) (AllStable.cons (stable_Int _ _ _) (AllStable.cons (stable_At _ (by omega) _ _) (AllStable.cons (stable_Str _ _) (AllStable.cons (stable_V _ _) (AllStable.cons (stable_Row _ (by omega) _ _) (AllStable.cons (stable_Int _ _ _) (AllStable.cons (stable_V _ _) (AllStable.cons (stable_V _ _) (AllStable.cons (stable_Int _ _ _) (AllStable.cons (stable_At _ (by omega) _ _) (AllStable.cons (stable_Str _ _) (AllStable.cons (stable_V _ _) (AllStable.cons (stable_Int _ _ _) (AllStable.cons (stable_Int _ _ _) (AllStable.cons (stable_pure _) (AllStable.cons (stable_V _ _) (AllStable.cons (stable_Int _ _ _) (AllStable.cons (stable_Int _ _ _) (AllStable.cons (stable_pure _) (AllStable.cons (stable_Box _ (by omega) _ _) (AllStable.nil))))))))))))))))))))))
  rotate_left 2
  · intro f; simp only [lay, List.setIfInBounds_toArray, List.set_cons_succ, List.set_cons_zero, Nat.reduceAdd]; exact rfl
  · refine AllTo.cons ?_ ?_
    · intro f v1 hS hT K hK
      simp only [Act.put, List.setIfInBounds_toArray, List.set_cons_succ, List.set_cons_zero] at hK
      go_simp
      exact hK.out _ _ ⟨v1.heap.size, rfl, hS.2.size, Blk.new _ _ _⟩ (hS.alloc _).1 (hS.alloc _).2
    refine AllTo.cons ?_ ?_
    · intro f v1 hS hT K hK
      simp only [Act.put, List.setIfInBounds_toArray, List.set_cons_succ, List.set_cons_zero] at hK
      go_simp
      exact hK.out _ _ (rfl) hS (only_refl _ _)
    refine AllTo.cons ?_ ?_
    · intro f v1 hS hT K hK
      have e0 := hT 1 _ rfl rfl
      dsimp only [isV] at e0
      simp only [Act.put, List.setIfInBounds_toArray, List.set_cons_succ, List.set_cons_zero, e0] at hK
      go_simp
      refine (draw_any 4 B g v1 hS.1 (Nat.le_trans hWB hS.2.size)).mono ?_
      rintro e w1 ⟨x, rfl, x0, x1, _, hs1, ho1⟩
      exact hK.out _ _ ⟨x, rfl, x0, by have := x1 (by omega); omega⟩ (hS.go hs1 ho1) ho1
    refine AllTo.cons ?_ ?_
    · intro f v1 hS hT K hK
      obtain ⟨ba, ea, na, ka⟩ := hT 0 _ rfl rfl
      obtain ⟨xi, ei, li, ui⟩ := hT 2 _ rfl rfl
      obtain ⟨k, rfl⟩ : ∃ k : Nat, xi = k := ⟨xi.toNat, by omega⟩
      have hkn : (k : Int) < 4 := by omega
      simp only [Act.put, List.setIfInBounds_toArray, List.set_cons_succ, List.set_cons_zero, ea, ei] at hK
      go_simp
      exact hK.out _ _ ⟨ba, k, rfl, by simp; omega, na, ka⟩ hS (only_refl _ _)
    refine AllTo.cons ?_ ?_
    · intro f v1 hS hT K hK
      obtain ⟨ba, ia, ea, ta, na, ka⟩ := hT 3 _ rfl rfl
      obtain ⟨s, hc, hsz⟩ := strs_at (n := 100) rfl ka ta
      simp only [Act.put, List.setIfInBounds_toArray, List.set_cons_succ, List.set_cons_zero, ea] at hK
      go_simp
      exact hK.out _ _ (⟨s, rfl, hsz⟩) hS (only_refl _ _)
    refine AllTo.cons ?_ ?_
    · intro f v1 hS hT K hK
      simp only [Act.put, List.setIfInBounds_toArray, List.set_cons_succ, List.set_cons_zero] at hK
      go_simp
      exact hK.out _ _ (rfl) hS (only_refl _ _)
    refine AllTo.cons ?_ ?_
    · intro f v1 hS hT K hK
      simp only [Act.put, List.setIfInBounds_toArray, List.set_cons_succ, List.set_cons_zero] at hK
      go_simp
      exact hK.out _ _ ⟨v1.heap.size, rfl, hS.2.size, Blk.new _ _ _⟩ (hS.alloc _).1 (hS.alloc _).2
    refine AllTo.cons ?_ ?_
    · intro f v1 hS hT K hK
      have e0 := hT 5 _ rfl rfl
      dsimp only [isV] at e0
      obtain ⟨b1, e1, n1, k1⟩ := hT 6 _ rfl rfl
      simp only [Act.put, List.setIfInBounds_toArray, List.set_cons_succ, List.set_cons_zero, e0, e1] at hK
      go_simp
      refine (pick_any [0, 0, 1, 1, 2, 3] _ _ B g v1 hS.1 (Nat.le_trans hWB hS.2.size) (by simp) (by simp) k1 (by omega)).mono ?_
      rintro e w1 ⟨x, rfl, hx, hs1, ho1⟩
      simp only [List.mem_cons, List.not_mem_nil, or_false] at hx
      exact hK.out _ _ ⟨x, rfl, by omega, by omega⟩ (hS.go hs1 ho1) ho1
    refine AllTo.cons ?_ ?_
    · intro f v1 hS hT K hK
      simp only [Act.put, List.setIfInBounds_toArray, List.set_cons_succ, List.set_cons_zero] at hK
      go_simp
      exact hK.out _ _ (rfl) hS (only_refl _ _)
    refine AllTo.cons ?_ ?_
    · intro f v1 hS hT K hK
      simp only [Act.put, List.setIfInBounds_toArray, List.set_cons_succ, List.set_cons_zero] at hK
      go_simp
      exact hK.out _ _ (rfl) hS (only_refl _ _)
    refine AllTo.cons ?_ ?_
    · intro f v1 hS hT K hK
      have e0 := hT 9 _ rfl rfl
      dsimp only [isV] at e0
      simp only [Act.put, List.setIfInBounds_toArray, List.set_cons_succ, List.set_cons_zero, e0] at hK
      go_simp
      refine (draw_any 3 B g v1 hS.1 (Nat.le_trans hWB hS.2.size)).mono ?_
      rintro e w1 ⟨x, rfl, x0, x1, _, hs1, ho1⟩
      exact hK.out _ _ ⟨x, rfl, x0, by have := x1 (by omega); omega⟩ (hS.go hs1 ho1) ho1
    refine AllTo.cons ?_ ?_
    · intro f v1 hS hT K hK
      have ea := hT 8 _ rfl rfl
      dsimp only [isV] at ea
      obtain ⟨xi, ei, li, ui⟩ := hT 10 _ rfl rfl
      obtain ⟨k, rfl⟩ : ∃ k : Nat, xi = k := ⟨xi.toNat, by omega⟩
      have hkn : (k : Int) < 3 := by omega
      simp only [Act.put, List.setIfInBounds_toArray, List.set_cons_succ, List.set_cons_zero, ea, ei] at hK
      go_simp
      exact hK.out _ _ ⟨(w.heap.size + 1), k, rfl, by simp; omega, Nat.le_refl _, Kp0.out.grown hS.2 (by intro e; injection e with e; omega)⟩ hS (only_refl _ _)
    refine AllTo.cons ?_ ?_
    · intro f v1 hS hT K hK
      obtain ⟨ba, ia, ea, ta, na, ka⟩ := hT 11 _ rfl rfl
      obtain ⟨s, hc, hsz⟩ := strs_at (n := 100) rfl ka ta
      simp only [Act.put, List.setIfInBounds_toArray, List.set_cons_succ, List.set_cons_zero, ea] at hK
      go_simp
      exact hK.out _ _ (⟨s, rfl, hsz⟩) hS (only_refl _ _)
    refine AllTo.cons ?_ ?_
    · intro f v1 hS hT K hK
      simp only [Act.put, List.setIfInBounds_toArray, List.set_cons_succ, List.set_cons_zero] at hK
      go_simp
      exact hK.out _ _ (rfl) hS (only_refl _ _)
    refine AllTo.cons ?_ ?_
    · intro f v1 hS hT K hK
      have e0 := hT 13 _ rfl rfl
      dsimp only [isV] at e0
      simp only [Act.put, List.setIfInBounds_toArray, List.set_cons_succ, List.set_cons_zero, e0] at hK
      go_simp
      refine (draw_any 60 B g v1 hS.1 (Nat.le_trans hWB hS.2.size)).mono ?_
      rintro e w1 ⟨x, rfl, x0, x1, _, hs1, ho1⟩
      exact hK.out _ _ ⟨x, rfl, x0, by have := x1 (by omega); omega⟩ (hS.go hs1 ho1) ho1
    refine AllTo.cons ?_ ?_
    · intro f v1 hS hT K hK
      obtain ⟨xb, eb, lb, ub⟩ := hT 14 _ rfl rfl
      have hw : IntKind.i64.wrap (1200 + xb) = 1200 + xb := IntWalk.i64_in _ (by omega)
      simp only [Act.put, List.setIfInBounds_toArray, List.set_cons_succ, List.set_cons_zero, eb] at hK
      go_simp
      exact hK.out _ _ (⟨_, rfl, by omega, by omega⟩) hS (only_refl _ _)
    refine AllTo.cons ?_ ?_
    · intro f v1 hS hT K hK
      obtain ⟨xp0, ep0, lp0, up0⟩ := hT 15 _ rfl rfl
      simp only [Act.put, List.setIfInBounds_toArray, List.set_cons_succ, List.set_cons_zero, ep0] at hK
      go_simp
      exact hK.out _ _ (⟨_, rfl, by omega, by omega⟩) hS (only_refl _ _)
    refine AllTo.cons ?_ ?_
    · intro f v1 hS hT K hK
      simp only [Act.put, List.setIfInBounds_toArray, List.set_cons_succ, List.set_cons_zero] at hK
      go_simp
      exact hK.out _ _ (rfl) hS (only_refl _ _)
    refine AllTo.cons ?_ ?_
    · intro f v1 hS hT K hK
      have e0 := hT 17 _ rfl rfl
      dsimp only [isV] at e0
      simp only [Act.put, List.setIfInBounds_toArray, List.set_cons_succ, List.set_cons_zero, e0] at hK
      go_simp
      refine (draw_any 9 B g v1 hS.1 (Nat.le_trans hWB hS.2.size)).mono ?_
      rintro e w1 ⟨x, rfl, x0, x1, _, hs1, ho1⟩
      exact hK.out _ _ ⟨x, rfl, x0, by have := x1 (by omega); omega⟩ (hS.go hs1 ho1) ho1
    refine AllTo.cons ?_ ?_
    · intro f v1 hS hT K hK
      obtain ⟨xb, eb, lb, ub⟩ := hT 18 _ rfl rfl
      have hw : IntKind.i64.wrap (1 + xb) = 1 + xb := IntWalk.i64_in _ (by omega)
      simp only [Act.put, List.setIfInBounds_toArray, List.set_cons_succ, List.set_cons_zero, eb] at hK
      go_simp
      exact hK.out _ _ (⟨_, rfl, by omega, by omega⟩) hS (only_refl _ _)
    refine AllTo.cons ?_ ?_
    · intro f v1 hS hT K hK
      obtain ⟨sp0, ep0, zp0⟩ := hT 4 _ rfl rfl
      obtain ⟨xp1, ep1, lp1, up1⟩ := hT 7 _ rfl rfl
      obtain ⟨sp2, ep2, zp2⟩ := hT 12 _ rfl rfl
      obtain ⟨yp30, ep3, lp30, up30⟩ := hT 16 _ rfl rfl
      obtain ⟨xp4, ep4, lp4, up4⟩ := hT 19 _ rfl rfl
      simp only [Act.put, List.setIfInBounds_toArray, List.set_cons_succ, List.set_cons_zero, ep0, ep1, ep2, ep3, ep4] at hK
      go_simp
      exact hK.out _ _ (⟨_, _, _, _, _, rfl, by omega, by omega, by omega, by omega, by omega, by omega, by omega, by omega⟩) hS (only_refl _ _)
    refine AllTo.cons ?_ ?_
    · intro f v1 hS hT K hK
      simp only [Act.put, List.setIfInBounds_toArray, List.set_cons_succ, List.set_cons_zero] at hK
      go_simp
      exact hK.out _ _ ⟨v1.heap.size, rfl, hS.2.size, Blk.new _ _ _⟩ (hS.alloc _).1 (hS.alloc _).2
    exact AllTo.nil
  · intro f v1 hS hT K hK
    skip
    have Kr1 := Lib.hid (Kr0.out.grown hS.2 (by intro e; injection e with e; omega))
    have Kp1 := Lib.hid (Kp0.out.grown hS.2 (by intro e; injection e with e; omega))
    have S1 := Lib.hid hS.1
    have N1 := Lib.hid (only_trans N0.out hS.2)
    have szq1 := hS.2.size
    clear hS S0 N0 Kr0 Kp0
    obtain ⟨cb, eb, nb, kb⟩ := hT 21 _ rfl
    obtain ⟨sr, kd, pl, lo, wt, ea, zsr, lkd, ukd, zpl, llo, ulo, lwt, uwt⟩ := hT 20 _ rfl
    have Kc1 := Lib.hid kb
    obtain ⟨f0, f1, f2, f3, f4, f5, f6, f7, f8, f9, f10, f11, f12, f13, f14, f15, f16, f17, f18, f19, f20⟩ := facts_7 kb
    go_simp
    refine hK.out _ _ ?_
    clear kb hT hK K eb ea f0 f1 f2 f3 f4 f5 f6 f7 f8 f9 f10 f11 f12 f13 f14 f15 f16 f17 f18 f19 f20
    generalize hw : (((((((v1.setCell ⟨cb, 0, none⟩ (.string sr)).setCell ⟨cb, 1, none⟩ (.int .i64 kd)).setCell ⟨cb, 2, none⟩ (.string pl)).setCell ⟨cb, 3, none⟩ (.string ⟨#[]⟩)).setCell ⟨cb, 4, none⟩ (.int .i64 lo)).setCell ⟨cb, 5, none⟩ (.int .i64 0)).setCell ⟨cb, 6, none⟩ (.int .i64 wt)) = w2
    obtain ⟨kq, kept⟩ := stored_7 Kc1.out S1.out N1.out (by omega) (by omega) (by omega) (.string sr) (.int .i64 kd) (.string pl) (.string ⟨#[]⟩) (.int .i64 lo) (.int .i64 0) (.int .i64 wt) w2 hw.symm
    have Kr2 := Lib.hid (kept.blk (by omega) Kr1.out)
    have Kp2 := Lib.hid (kept.blk (by omega) Kp1.out)
    have Kc2 := Lib.hid kq
    have S2 := Lib.hid kept.src
    have N2 := Lib.hid kept.only
    have szq2 := Nat.le_of_eq kept.size.symm
    clear kq kept hw S1 N1 Kr1 Kp1 Kc1
    go_upto_region 3 with (fail)
    have hWB : B ≤ w2.heap.size := by omega
    have hgW : g < w2.heap.size := by omega
    have hS0 : SrcOnly w2 B g w2.drew := SrcOnly.drew ⟨S2.out, only_refl _ _⟩
    refine' wp_region_slots (SrcOnly w2 B g) (fun w w' => Only w w' g) [isV (.pointer (some ⟨cb, 4, none⟩)), isV (.pointer (some ⟨cb, 4, none⟩)), isV (.int .i64 lo), isV (.pointer (some ⟨g, 0, none⟩)), isInt (0) (59), isInt (1200) (1318), isV (.pointer (some ⟨cb, 4, none⟩)), isV (.pointer (some ⟨cb, 5, none⟩))] mixed (by kernel_rfl) (by kernel_rfl) hS0 ?_ _ _ ?_ ?_ ?_
    · exact AllStable.cons (stable_V _ _) (AllStable.cons (stable_V _ _) (AllStable.cons (stable_V _ _) (AllStable.cons (stable_V _ _) (AllStable.cons (stable_Int _ _ _) (AllStable.cons (stable_Int _ _ _) (AllStable.cons (stable_V _ _) (AllStable.cons (stable_V _ _) (AllStable.nil))))))))
    rotate_left 2
    · intro f; simp only [lay, List.setIfInBounds_toArray, List.set_cons_succ, List.set_cons_zero, Nat.reduceAdd]; exact rfl
    · refine AllTo.cons ?_ ?_
      · intro f v3 hS hT K hK
        simp only [Act.put, List.setIfInBounds_toArray, List.set_cons_succ, List.set_cons_zero] at hK
        go_simp
        exact hK.out _ _ (rfl) hS (only_refl _ _)
      refine AllTo.cons ?_ ?_
      · intro f v3 hS hT K hK
        have ea := hT 0 _ rfl rfl
        dsimp only [isV] at ea
        simp only [Act.put, List.setIfInBounds_toArray, List.set_cons_succ, List.set_cons_zero, ea] at hK
        go_simp
        exact hK.out _ _ (rfl) hS (only_refl _ _)
      refine AllTo.cons ?_ ?_
      · intro f v3 hS hT K hK
        have ea := hT 1 _ rfl rfl
        dsimp only [isV] at ea
        have hc : v3.cell? ⟨cb, 4, none⟩ = some (.int .i64 lo) := by rw [(Kc2.out.grown hS.2 (by intro e; injection e with e; omega)).cell]; rfl
        simp only [Act.put, List.setIfInBounds_toArray, List.set_cons_succ, List.set_cons_zero, ea] at hK
        go_simp
        exact hK.out _ _ (rfl) hS (only_refl _ _)
      refine AllTo.cons ?_ ?_
      · intro f v3 hS hT K hK
        simp only [Act.put, List.setIfInBounds_toArray, List.set_cons_succ, List.set_cons_zero] at hK
        go_simp
        exact hK.out _ _ (rfl) hS (only_refl _ _)
      refine AllTo.cons ?_ ?_
      · intro f v3 hS hT K hK
        have e0 := hT 3 _ rfl rfl
        dsimp only [isV] at e0
        simp only [Act.put, List.setIfInBounds_toArray, List.set_cons_succ, List.set_cons_zero, e0] at hK
        go_simp
        refine (draw_any 60 B g v3 hS.1 (Nat.le_trans hWB hS.2.size)).mono ?_
        rintro e w1 ⟨x, rfl, x0, x1, _, hs1, ho1⟩
        exact hK.out _ _ ⟨x, rfl, x0, by have := x1 (by omega); omega⟩ (hS.go hs1 ho1) ho1
      refine AllTo.cons ?_ ?_
      · intro f v3 hS hT K hK
        have ea := hT 2 _ rfl rfl
        dsimp only [isV] at ea
        obtain ⟨xb, eb, lb, ub⟩ := hT 4 _ rfl rfl
        have hw : IntKind.i64.wrap (lo + xb) = lo + xb := IntWalk.i64_in _ (by omega)
        simp only [Act.put, List.setIfInBounds_toArray, List.set_cons_succ, List.set_cons_zero, ea, eb] at hK
        go_simp
        exact hK.out _ _ (⟨_, rfl, by omega, by omega⟩) hS (only_refl _ _)
      refine AllTo.cons ?_ ?_
      · intro f v3 hS hT K hK
        simp only [Act.put, List.setIfInBounds_toArray, List.set_cons_succ, List.set_cons_zero] at hK
        go_simp
        exact hK.out _ _ (rfl) hS (only_refl _ _)
      refine AllTo.cons ?_ ?_
      · intro f v3 hS hT K hK
        have ea := hT 6 _ rfl rfl
        dsimp only [isV] at ea
        simp only [Act.put, List.setIfInBounds_toArray, List.set_cons_succ, List.set_cons_zero, ea] at hK
        go_simp
        exact hK.out _ _ (rfl) hS (only_refl _ _)
      exact AllTo.nil
    · intro f v3 hS hT K hK
      skip
      have Kr3 := Lib.hid (Kr2.out.grown hS.2 (by intro e; injection e with e; omega))
      have Kp3 := Lib.hid (Kp2.out.grown hS.2 (by intro e; injection e with e; omega))
      have Kc3 := Lib.hid (Kc2.out.grown hS.2 (by intro e; injection e with e; omega))
      have S3 := Lib.hid hS.1
      have N3 := Lib.hid (only_trans N2.out hS.2)
      have szq3 := hS.2.size
      clear hS S2 N2 Kr2 Kp2 Kc2
      obtain ⟨hi, ea, lhi, uhi⟩ := hT 5 _ rfl
      have eb := hT 7 _ rfl
      dsimp only [isV] at eb
      have fz := Kc3.out.frozen 5
      obtain ⟨c0, c1, c2, c3, c4, c5, c6⟩ := cells_7 Kc3.out
      go_simp
      refine hK.out _ _ ?_
      clear hT hK K eb ea fz c0 c1 c2 c3 c4 c5 c6
      generalize hw : v3.setCell ⟨cb, 5, none⟩ (.int .i64 hi) = w4
      obtain ⟨kq, kept⟩ := cell_7_5 Kc3.out S3.out N3.out (by omega) (by omega) (by omega) (.int .i64 hi) w4 hw.symm
      have Kr4 := Lib.hid (kept.blk (by omega) Kr3.out)
      have Kp4 := Lib.hid (kept.blk (by omega) Kp3.out)
      have Kc4 := Lib.hid kq
      have S4 := Lib.hid kept.src
      have N4 := Lib.hid kept.only
      have szq4 := Nat.le_of_eq kept.size.symm
      clear kq kept hw S3 N3 Kr3 Kp3 Kc3
      obtain ⟨q0, q1, q2, q3, q4, q5, q6⟩ := cells_7 Kc4.out
      obtain rfl | rfl | hk : kd = 0 ∨ kd = 1 ∨ (kd ≠ 0 ∧ kd ≠ 1) := by omega
      · skip
        go_wp2_with fail
        have BU := Blk.new w4 9 #[.string ⟨#[111, 108, 100, 32, 97, 115, 104]⟩, .string ⟨#[110, 101, 119, 116, 111, 110]⟩, .string ⟨#[97, 115, 104, 98, 121]⟩]
        refine (draw_any 3 B g _ (S4.out.alloc _) (by simp; omega)).mono ?_
        rintro e w5 ⟨y, rfl, y0, y1, _, hs5, ho5⟩
        obtain ⟨j, rfl⟩ : ∃ j : Nat, y = j := ⟨y.toNat, by omega⟩
        have hj : j < 3 := by have := y1 (by omega); omega
        obtain ⟨va, cu, zva⟩ := strs_at (n := 100) (cs := [.string ⟨#[111, 108, 100, 32, 97, 115, 104]⟩, .string ⟨#[110, 101, 119, 116, 111, 110]⟩, .string ⟨#[97, 115, 104, 98, 121]⟩]) rfl (BU.grown ho5 (by intro e; injection e with e; omega)) (k := j) (by simp; omega)
        have hj0 : (0 : Int) ≤ (j : Int) := by omega
        have hjn : (j : Int) < 3 := by omega
        clear y0 y1 BU
        have Kr5 := Lib.hid ((Kr4.out.alloc _).grown ho5 (by intro e; injection e with e; omega))
        have Kp5 := Lib.hid ((Kp4.out.alloc _).grown ho5 (by intro e; injection e with e; omega))
        have Kc5 := Lib.hid ((Kc4.out.alloc _).grown ho5 (by intro e; injection e with e; omega))
        have N5 := Lib.hid (only_trans (only_trans N4.out (only_of_below ((Below.refl _ _).alloc (Nat.le_refl _) _))) ho5)
        have S5 := Lib.hid hs5
        have szq5 : w4.heap.size + 1 ≤ w5.heap.size := by have := ho5.size; (try simp at this); omega
        clear ho5 hs5 S4 N4 Kr4 Kp4 Kc4
        clear q0 q1 q2 q3 q4 q5 q6
        have fz := Kc5.out.frozen 3
        obtain ⟨cc0, cc1, cc2, cc3, cc4, cc5, cc6⟩ := cells_7 Kc5.out
        go_upto_region 11 with (fail)
        clear fz cc0 cc1 cc2 cc3 cc4 cc5 cc6
        generalize hw : w5.setCell ⟨cb, 3, none⟩ (.string va) = w6
        obtain ⟨kq, kept⟩ := cell_7_3 Kc5.out S5.out N5.out (by omega) (by omega) (by omega) (.string va) w6 hw.symm
        have Kr6 := Lib.hid (kept.blk (by omega) Kr5.out)
        have Kp6 := Lib.hid (kept.blk (by omega) Kp5.out)
        have Kc6 := Lib.hid kq
        have S6 := Lib.hid kept.src
        have N6 := Lib.hid kept.only
        have szq6 := Nat.le_of_eq kept.size.symm
        clear kq kept hw S5 N5 Kr5 Kp5 Kc5
        obtain ⟨c0, c1, c2, c3, c4, c5, c6⟩ := cells_7 Kc6.out
        obtain ⟨fr0, fr1, fr2, fr3, fr4, fr5, fr6, fr7, fr8, fr9, fr10, fr11, fr12, fr13, fr14, fr15, fr16, fr17, fr18, fr19, fr20⟩ := facts_7 Kr6.out
        go_wp2_with fail
        obtain ⟨kq, kept⟩ := stored_7 Kr6.out S6.out N6.out (by omega) (by omega) (by omega) (.string sr) (.int .i64 0) (.string pl) (.string va) (.int .i64 lo) (.int .i64 hi) (.int .i64 wt) _ rfl
        exact bodyPost_ret (v := .agg #[.string sr, .int .i64 0, .string pl, .string va, .int .i64 lo, .int .i64 hi, .int .i64 wt]) (by simp [results, Tryz.results162, go_sem, fr14, fr15, fr16, fr17, fr18, fr19, fr20]) rfl ⟨⟨sr, 0, pl, va, lo, hi, wt⟩, rfl, ⟨by dsimp only; omega, by dsimp only; omega, by dsimp only; first | decide | omega, by dsimp only; omega, by dsimp only; omega, by dsimp only; omega, by dsimp only; omega⟩, kept.src, kept.only⟩
      · skip
        go_wp2_with fail
        have BU := Blk.new w4 9 #[.string ⟨#[97, 115, 104]⟩, .string ⟨#[98, 114, 105, 103]⟩, .string ⟨#[99, 111, 114, 107]⟩, .string ⟨#[100, 101, 118, 97]⟩]
        refine (draw_any 4 B g _ (S4.out.alloc _) (by simp; omega)).mono ?_
        rintro e w5 ⟨y, rfl, y0, y1, _, hs5, ho5⟩
        obtain ⟨j, rfl⟩ : ∃ j : Nat, y = j := ⟨y.toNat, by omega⟩
        have hj : j < 4 := by have := y1 (by omega); omega
        obtain ⟨va, cu, zva⟩ := strs_at (n := 100) (cs := [.string ⟨#[97, 115, 104]⟩, .string ⟨#[98, 114, 105, 103]⟩, .string ⟨#[99, 111, 114, 107]⟩, .string ⟨#[100, 101, 118, 97]⟩]) rfl (BU.grown ho5 (by intro e; injection e with e; omega)) (k := j) (by simp; omega)
        have hj0 : (0 : Int) ≤ (j : Int) := by omega
        have hjn : (j : Int) < 4 := by omega
        clear y0 y1 BU
        have Kr5 := Lib.hid ((Kr4.out.alloc _).grown ho5 (by intro e; injection e with e; omega))
        have Kp5 := Lib.hid ((Kp4.out.alloc _).grown ho5 (by intro e; injection e with e; omega))
        have Kc5 := Lib.hid ((Kc4.out.alloc _).grown ho5 (by intro e; injection e with e; omega))
        have N5 := Lib.hid (only_trans (only_trans N4.out (only_of_below ((Below.refl _ _).alloc (Nat.le_refl _) _))) ho5)
        have S5 := Lib.hid hs5
        have szq5 : w4.heap.size + 1 ≤ w5.heap.size := by have := ho5.size; (try simp at this); omega
        clear ho5 hs5 S4 N4 Kr4 Kp4 Kc4
        clear q0 q1 q2 q3 q4 q5 q6
        have fz := Kc5.out.frozen 3
        obtain ⟨cc0, cc1, cc2, cc3, cc4, cc5, cc6⟩ := cells_7 Kc5.out
        go_upto_region 9 with (fail)
        clear fz cc0 cc1 cc2 cc3 cc4 cc5 cc6
        generalize hw : w5.setCell ⟨cb, 3, none⟩ (.string va) = w6
        obtain ⟨kq, kept⟩ := cell_7_3 Kc5.out S5.out N5.out (by omega) (by omega) (by omega) (.string va) w6 hw.symm
        have Kr6 := Lib.hid (kept.blk (by omega) Kr5.out)
        have Kp6 := Lib.hid (kept.blk (by omega) Kp5.out)
        have Kc6 := Lib.hid kq
        have S6 := Lib.hid kept.src
        have N6 := Lib.hid kept.only
        have szq6 := Nat.le_of_eq kept.size.symm
        clear kq kept hw S5 N5 Kr5 Kp5 Kc5
        obtain ⟨q0, q1, q2, q3, q4, q5, q6⟩ := cells_7 Kc6.out
        cases hq : (va.toList == pl.toList)
        · skip
          obtain ⟨c0, c1, c2, c3, c4, c5, c6⟩ := cells_7 Kc6.out
          obtain ⟨fr0, fr1, fr2, fr3, fr4, fr5, fr6, fr7, fr8, fr9, fr10, fr11, fr12, fr13, fr14, fr15, fr16, fr17, fr18, fr19, fr20⟩ := facts_7 Kr6.out
          go_wp2_with fail
          obtain ⟨kq, kept⟩ := stored_7 Kr6.out S6.out N6.out (by omega) (by omega) (by omega) (.string sr) (.int .i64 1) (.string pl) (.string va) (.int .i64 lo) (.int .i64 hi) (.int .i64 wt) _ rfl
          exact bodyPost_ret (v := .agg #[.string sr, .int .i64 1, .string pl, .string va, .int .i64 lo, .int .i64 hi, .int .i64 wt]) (by simp [results, Tryz.results162, go_sem, fr14, fr15, fr16, fr17, fr18, fr19, fr20]) rfl ⟨⟨sr, 1, pl, va, lo, hi, wt⟩, rfl, ⟨by dsimp only; omega, by dsimp only; omega, by dsimp only; first | decide | omega, by dsimp only; omega, by dsimp only; omega, by dsimp only; omega, by dsimp only; omega⟩, kept.src, kept.only⟩
        · skip
          have fz := Kc6.out.frozen 3
          obtain ⟨cc0, cc1, cc2, cc3, cc4, cc5, cc6⟩ := cells_7 Kc6.out
          go_upto_region 11 with (fail)
          clear fz cc0 cc1 cc2 cc3 cc4 cc5 cc6
          generalize hw : w6.setCell ⟨cb, 3, none⟩ (.string ⟨#[100, 101, 118, 97]⟩) = w7
          obtain ⟨kq, kept⟩ := cell_7_3 Kc6.out S6.out N6.out (by omega) (by omega) (by omega) (.string ⟨#[100, 101, 118, 97]⟩) w7 hw.symm
          have Kr7 := Lib.hid (kept.blk (by omega) Kr6.out)
          have Kp7 := Lib.hid (kept.blk (by omega) Kp6.out)
          have Kc7 := Lib.hid kq
          have S7 := Lib.hid kept.src
          have N7 := Lib.hid kept.only
          have szq7 := Nat.le_of_eq kept.size.symm
          clear kq kept hw S6 N6 Kr6 Kp6 Kc6
          obtain ⟨c0, c1, c2, c3, c4, c5, c6⟩ := cells_7 Kc7.out
          obtain ⟨fr0, fr1, fr2, fr3, fr4, fr5, fr6, fr7, fr8, fr9, fr10, fr11, fr12, fr13, fr14, fr15, fr16, fr17, fr18, fr19, fr20⟩ := facts_7 Kr7.out
          go_wp2_with fail
          obtain ⟨kq, kept⟩ := stored_7 Kr7.out S7.out N7.out (by omega) (by omega) (by omega) (.string sr) (.int .i64 1) (.string pl) (.string ⟨#[100, 101, 118, 97]⟩) (.int .i64 lo) (.int .i64 hi) (.int .i64 wt) _ rfl
          exact bodyPost_ret (v := .agg #[.string sr, .int .i64 1, .string pl, .string ⟨#[100, 101, 118, 97]⟩, .int .i64 lo, .int .i64 hi, .int .i64 wt]) (by simp [results, Tryz.results162, go_sem, fr14, fr15, fr16, fr17, fr18, fr19, fr20]) rfl ⟨⟨sr, 1, pl, ⟨#[100, 101, 118, 97]⟩, lo, hi, wt⟩, rfl, ⟨by dsimp only; omega, by dsimp only; omega, by dsimp only; first | decide | omega, by dsimp only; omega, by dsimp only; omega, by dsimp only; omega, by dsimp only; omega⟩, kept.src, kept.only⟩
      · obtain ⟨h0, h1⟩ := hk
        have n0 : (kd == 0) = false := by simp [h0]
        have n1 : (kd == 1) = false := by simp [h1]
        obtain ⟨c0, c1, c2, c3, c4, c5, c6⟩ := cells_7 Kc4.out
        obtain ⟨fr0, fr1, fr2, fr3, fr4, fr5, fr6, fr7, fr8, fr9, fr10, fr11, fr12, fr13, fr14, fr15, fr16, fr17, fr18, fr19, fr20⟩ := facts_7 Kr4.out
        go_wp2_with fail
        obtain ⟨kq, kept⟩ := stored_7 Kr4.out S4.out N4.out (by omega) (by omega) (by omega) (.string sr) (.int .i64 kd) (.string pl) (.string ⟨#[]⟩) (.int .i64 lo) (.int .i64 hi) (.int .i64 wt) _ rfl
        exact bodyPost_ret (v := .agg #[.string sr, .int .i64 kd, .string pl, .string ⟨#[]⟩, .int .i64 lo, .int .i64 hi, .int .i64 wt]) (by simp [results, Tryz.results162, go_sem, fr14, fr15, fr16, fr17, fr18, fr19, fr20]) rfl ⟨⟨sr, kd, pl, ⟨#[]⟩, lo, hi, wt⟩, rfl, ⟨by dsimp only; omega, by dsimp only; omega, by dsimp only; first | decide | omega, by dsimp only; omega, by dsimp only; omega, by dsimp only; omega, by dsimp only; omega⟩, kept.src, kept.only⟩
end Go.Proofs.YtihhpmhigmegjaaGreatDoor

namespace Go.Proofs.YtihhpmhigmegjaaGreatDoor
open Go.ChangeShapes Go.WideShapes Go.ChangeAt Go.RowKit

/-- A drawn span, now and then spoilt. -/
def DrawnSq (w : World) (B g : Nat) (e : Ending) (w' : World) : Prop := ∃ a b : Int, e = .returned (.agg #[.int .i64 a, .int .i64 b]) ∧ -5000 ≤ a ∧ a ≤ 5000 ∧ -5000 ≤ b ∧ b ≤ 5000 ∧ Src w' B g ∧ Only w w' g
set_option maxRecDepth 100000 in
set_option maxHeartbeats 2000000 in
theorem spanD_any (B g : Nat) (w : World) (hs : Src w B g) (hB : B ≤ w.heap.size) :
    Calls Tryz.prog 197 #[.pointer (some ⟨g, 0, none⟩)] w (DrawnSq w B g) := by
  have mixed : Tryz.prog.follows Departure.mixedOrders = true := by kernel_rfl
  have hgl := hs.lt
  have HS := Lib.hid hs; clear hs
  have KN := Lib.hid (blks_one w 79 #[.int .i64 0, .int .i64 0])
  go_enter Tryz.func197, Tryz.ntmps197
  go_wp2_with fail
  generalize hW : w.alloc (.cells #[.int .i64 0, .int .i64 0] 79) = W
  obtain ⟨b0, bw, hwz⟩ := KN.out W hW.symm
  clear hW KN
  have Kr0 := Lib.hid b0; have N0 := Lib.hid (only_of_below bw : Only w W g); have S0 := Lib.hid (HS.out.below bw)
  clear b0 bw
  have hwz := Nat.le_of_eq hwz.symm
  refine (spanG_any B g W S0.out (by omega)).mono ?_
  rintro e w1 ⟨a, b, rfl, a0, a1, b0, b1, hs1, ho1⟩
  skip
  have Kr1 := Lib.hid ((Kr0.out).grown ho1 (by intro e; injection e with e; omega))
  have N1 := Lib.hid (only_trans N0.out ho1)
  have S1 := Lib.hid hs1
  have szq1 : W.heap.size ≤ w1.heap.size := by have := ho1.size; (try simp at this); omega
  clear ho1 hs1 S0 N0 Kr0
  go_upto_region 2 with (fail)
  generalize hW3 : w1.alloc (.cells #[.int .i64 a, .int .i64 b] 79) = w2
  have Kc2 := Lib.hid (show Blk w2 w1.heap.size 79 #[.int .i64 a, .int .i64 b] by rw [← hW3]; exact Blk.new _ _ _)
  have Kr2 := Lib.hid (show Blk w2 w.heap.size 79 #[.int .i64 0, .int .i64 0] by rw [← hW3]; exact Kr1.out.alloc _)
  have S2 := Lib.hid (show Src w2 B g by rw [← hW3]; exact S1.out.alloc _)
  have N2 := Lib.hid (show Only w w2 g by rw [← hW3]; exact only_trans N1.out (only_of_below ((Below.refl _ _).alloc (Nat.le_refl _) _)))
  have hz2 : w1.heap.size + 1 ≤ w2.heap.size := Kc2.out.lt
  clear hW3 Kr1 S1 N1
  go_wp2_with fail
  refine (draw_any 20 B g w2 S2.out (by omega)).mono ?_
  rintro e w3 ⟨x, rfl, x0, x1, _, hs3, ho3⟩
  have hx := x1 (by omega)
  clear x1
  have Kr3 := Lib.hid ((Kr2.out).grown ho3 (by intro e; injection e with e; omega))
  have Kc3 := Lib.hid ((Kc2.out).grown ho3 (by intro e; injection e with e; omega))
  have N3 := Lib.hid (only_trans N2.out ho3)
  have S3 := Lib.hid hs3
  have szq3 : w2.heap.size ≤ w3.heap.size := by have := ho3.size; (try simp at this); omega
  clear ho3 hs3 S2 N2 Kr2 Kc2
  obtain rfl | rfl | rfl | hx : x = 0 ∨ x = 1 ∨ x = 2 ∨ 3 ≤ x := by omega
  · skip
    have yw : IntKind.i64.wrap (a - 1) = a - 1 := IntWalk.i64_in _ (by omega)
    have fz := Kc3.out.frozen 1
    obtain ⟨cc0, cc1⟩ := cells_2 Kc3.out
    go_upto_region 9 with (fail)
    clear fz cc0 cc1
    generalize hw : w3.setCell ⟨w1.heap.size, 1, none⟩ (.int .i64 (a - 1)) = w4
    obtain ⟨kq, kept⟩ := cell_2_1 Kc3.out S3.out N3.out (by omega) (by omega) (by omega) (.int .i64 (a - 1)) w4 hw.symm
    have Kr4 := Lib.hid (kept.blk (by omega) Kr3.out)
    have Kc4 := Lib.hid kq
    have S4 := Lib.hid kept.src
    have N4 := Lib.hid kept.only
    have szq4 := Nat.le_of_eq kept.size.symm
    clear kq kept hw S3 N3 Kr3 Kc3
    obtain ⟨q0, q1⟩ := cells_2 Kc4.out
    obtain ⟨fr0, fr1, fr2, fr3, fr4, fr5⟩ := facts_2 Kr4.out
    go_wp2_with fail
    obtain ⟨kq, kept⟩ := stored_2 Kr4.out S4.out N4.out (by omega) (by omega) (by omega) (.int .i64 a) (.int .i64 (a - 1)) _ rfl
    exact bodyPost_ret (v := .agg #[.int .i64 a, .int .i64 (a - 1)]) (by simp [results, Tryz.results197, go_sem, fr4, fr5]) rfl ⟨a, (a - 1), rfl, by omega, by omega, by omega, by omega, kept.src, kept.only⟩
  · skip
    go_wp2_with fail
    refine (pick_any [-3000, -3001, 3001] w3.heap.size 3 B g (w3.alloc (.cells #[.int .i64 (-3000), .int .i64 (-3001), .int .i64 3001] 2)) (S3.out.alloc _) (by simp; omega) (by simp) (by simp) (Blk.new _ _ _) (by omega)).mono ?_
    rintro e w4 ⟨cn, rfl, hcn, hs4, ho4⟩
    simp only [List.mem_cons, List.not_mem_nil, or_false] at hcn
    have Kr4 := Lib.hid ((Kr3.out.alloc _).grown ho4 (by intro e; injection e with e; omega))
    have Kc4 := Lib.hid ((Kc3.out.alloc _).grown ho4 (by intro e; injection e with e; omega))
    have N4 := Lib.hid (only_trans (only_trans N3.out (only_of_below ((Below.refl _ _).alloc (Nat.le_refl _) _))) ho4)
    have S4 := Lib.hid hs4
    have szq4 : w3.heap.size + 1 ≤ w4.heap.size := by have := ho4.size; (try simp at this); omega
    clear ho4 hs4 S3 N3 Kr3 Kc3
    have fz := Kc4.out.frozen 0
    obtain ⟨cc0, cc1⟩ := cells_2 Kc4.out
    go_upto_region 9 with (fail)
    clear fz cc0 cc1
    generalize hw : w4.setCell ⟨w1.heap.size, 0, none⟩ (.int .i64 cn) = w5
    obtain ⟨kq, kept⟩ := cell_2_0 Kc4.out S4.out N4.out (by omega) (by omega) (by omega) (.int .i64 cn) w5 hw.symm
    have Kr5 := Lib.hid (kept.blk (by omega) Kr4.out)
    have Kc5 := Lib.hid kq
    have S5 := Lib.hid kept.src
    have N5 := Lib.hid kept.only
    have szq5 := Nat.le_of_eq kept.size.symm
    clear kq kept hw S4 N4 Kr4 Kc4
    obtain ⟨q0, q1⟩ := cells_2 Kc5.out
    obtain ⟨fr0, fr1, fr2, fr3, fr4, fr5⟩ := facts_2 Kr5.out
    go_wp2_with fail
    obtain ⟨kq, kept⟩ := stored_2 Kr5.out S5.out N5.out (by omega) (by omega) (by omega) (.int .i64 cn) (.int .i64 b) _ rfl
    exact bodyPost_ret (v := .agg #[.int .i64 cn, .int .i64 b]) (by simp [results, Tryz.results197, go_sem, fr4, fr5]) rfl ⟨cn, b, rfl, by omega, by omega, by omega, by omega, kept.src, kept.only⟩
  · skip
    go_wp2_with fail
    refine (pick_any [3000, 3001] w3.heap.size 2 B g (w3.alloc (.cells #[.int .i64 3000, .int .i64 3001] 2)) (S3.out.alloc _) (by simp; omega) (by simp) (by simp) (Blk.new _ _ _) (by omega)).mono ?_
    rintro e w4 ⟨cn, rfl, hcn, hs4, ho4⟩
    simp only [List.mem_cons, List.not_mem_nil, or_false] at hcn
    have Kr4 := Lib.hid ((Kr3.out.alloc _).grown ho4 (by intro e; injection e with e; omega))
    have Kc4 := Lib.hid ((Kc3.out.alloc _).grown ho4 (by intro e; injection e with e; omega))
    have N4 := Lib.hid (only_trans (only_trans N3.out (only_of_below ((Below.refl _ _).alloc (Nat.le_refl _) _))) ho4)
    have S4 := Lib.hid hs4
    have szq4 : w3.heap.size + 1 ≤ w4.heap.size := by have := ho4.size; (try simp at this); omega
    clear ho4 hs4 S3 N3 Kr3 Kc3
    have fz := Kc4.out.frozen 1
    obtain ⟨cc0, cc1⟩ := cells_2 Kc4.out
    go_upto_region 9 with (fail)
    clear fz cc0 cc1
    generalize hw : w4.setCell ⟨w1.heap.size, 1, none⟩ (.int .i64 cn) = w5
    obtain ⟨kq, kept⟩ := cell_2_1 Kc4.out S4.out N4.out (by omega) (by omega) (by omega) (.int .i64 cn) w5 hw.symm
    have Kr5 := Lib.hid (kept.blk (by omega) Kr4.out)
    have Kc5 := Lib.hid kq
    have S5 := Lib.hid kept.src
    have N5 := Lib.hid kept.only
    have szq5 := Nat.le_of_eq kept.size.symm
    clear kq kept hw S4 N4 Kr4 Kc4
    obtain ⟨q0, q1⟩ := cells_2 Kc5.out
    obtain ⟨fr0, fr1, fr2, fr3, fr4, fr5⟩ := facts_2 Kr5.out
    go_wp2_with fail
    obtain ⟨kq, kept⟩ := stored_2 Kr5.out S5.out N5.out (by omega) (by omega) (by omega) (.int .i64 a) (.int .i64 cn) _ rfl
    exact bodyPost_ret (v := .agg #[.int .i64 a, .int .i64 cn]) (by simp [results, Tryz.results197, go_sem, fr4, fr5]) rfl ⟨a, cn, rfl, by omega, by omega, by omega, by omega, kept.src, kept.only⟩
  · skip
    have e0 : (x == 0) = false := by simp; omega
    have e1 : (x == 1) = false := by simp; omega
    have e2 : (x == 2) = false := by simp; omega
    obtain ⟨q0, q1⟩ := cells_2 Kc3.out
    obtain ⟨fr0, fr1, fr2, fr3, fr4, fr5⟩ := facts_2 Kr3.out
    go_wp2_with fail
    obtain ⟨kq, kept⟩ := stored_2 Kr3.out S3.out N3.out (by omega) (by omega) (by omega) (.int .i64 a) (.int .i64 b) _ rfl
    exact bodyPost_ret (v := .agg #[.int .i64 a, .int .i64 b]) (by simp [results, Tryz.results197, go_sem, fr4, fr5]) rfl ⟨a, b, rfl, by omega, by omega, by omega, by omega, kept.src, kept.only⟩
end Go.Proofs.YtihhpmhigmegjaaGreatDoor

namespace Go.Proofs.YtihhpmhigmegjaaGreatDoor
open Go.ChangeShapes Go.WideShapes Go.ChangeAt Go.RowKit

set_option maxRecDepth 100000 in
set_option maxHeartbeats 2000000 in
theorem drawC_any (B g : Nat) (w : World) (hs : Src w B g) (hB : B ≤ w.heap.size) :
    Calls Tryz.prog 163 #[.pointer (some ⟨g, 0, none⟩)] w (DrawnC w B g) := by
  have mixed : Tryz.prog.follows Departure.mixedOrders = true := by kernel_rfl
  have hgl := hs.lt
  have HS := Lib.hid hs; clear hs
  have KN := Lib.hid (blks_one w 81 #[.string ⟨#[]⟩, .int .i64 0, .string ⟨#[]⟩, .string ⟨#[]⟩, .int .i64 0, .int .i64 0, .int .i64 0])
  go_enter Tryz.func163, Tryz.ntmps163
  go_wp2_with fail
  generalize hW : w.alloc (.cells #[.string ⟨#[]⟩, .int .i64 0, .string ⟨#[]⟩, .string ⟨#[]⟩, .int .i64 0, .int .i64 0, .int .i64 0] 81) = W
  obtain ⟨b0, bw, hwz⟩ := KN.out W hW.symm
  clear hW KN
  have Kr0 := Lib.hid b0; have N0 := Lib.hid (only_of_below bw : Only w W g); have S0 := Lib.hid (HS.out.below bw)
  clear b0 bw
  have hwz := Nat.le_of_eq hwz.symm
  refine (goodC_any B g W S0.out (by omega)).mono ?_
  rintro e w1 ⟨⟨sr, kd, pl, va, lo, hi, wt⟩, rfl, ⟨c0, c1, c2, c3, c4, c5, c6⟩, hs1, ho1⟩
  dsimp only at c0 c1 c2 c3 c4 c5 c6
  unfold Clm.val
  dsimp only
  have Kr1 := Lib.hid ((Kr0.out).grown ho1 (by intro e; injection e with e; omega))
  have N1 := Lib.hid (only_trans N0.out ho1)
  have S1 := Lib.hid hs1
  have szq1 : W.heap.size ≤ w1.heap.size := by have := ho1.size; (try simp at this); omega
  clear ho1 hs1 S0 N0 Kr0
  go_upto_region 2 with (fail)
  generalize hW3 : w1.alloc (.cells #[.string sr, .int .i64 kd, .string pl, .string va, .int .i64 lo, .int .i64 hi, .int .i64 wt] 81) = w2
  have Kc2 := Lib.hid (show Blk w2 w1.heap.size 81 #[.string sr, .int .i64 kd, .string pl, .string va, .int .i64 lo, .int .i64 hi, .int .i64 wt] by rw [← hW3]; exact Blk.new _ _ _)
  have Kr2 := Lib.hid (show Blk w2 w.heap.size 81 #[.string ⟨#[]⟩, .int .i64 0, .string ⟨#[]⟩, .string ⟨#[]⟩, .int .i64 0, .int .i64 0, .int .i64 0] by rw [← hW3]; exact Kr1.out.alloc _)
  have S2 := Lib.hid (show Src w2 B g by rw [← hW3]; exact S1.out.alloc _)
  have N2 := Lib.hid (show Only w w2 g by rw [← hW3]; exact only_trans N1.out (only_of_below ((Below.refl _ _).alloc (Nat.le_refl _) _)))
  have hz2 : w1.heap.size + 1 ≤ w2.heap.size := Kc2.out.lt
  clear hW3 Kr1 S1 N1
  go_wp2_with fail
  refine (draw_any 24 B g w2 S2.out (by omega)).mono ?_
  rintro e w3 ⟨x, rfl, x0, x1, _, hs3, ho3⟩
  have hx := x1 (by omega)
  clear x1
  have Kr3 := Lib.hid ((Kr2.out).grown ho3 (by intro e; injection e with e; omega))
  have Kc3 := Lib.hid ((Kc2.out).grown ho3 (by intro e; injection e with e; omega))
  have N3 := Lib.hid (only_trans N2.out ho3)
  have S3 := Lib.hid hs3
  have szq3 : w2.heap.size ≤ w3.heap.size := by have := ho3.size; (try simp at this); omega
  clear ho3 hs3 S2 N2 Kr2 Kc2
  obtain rfl | rfl | rfl | rfl | hx : x = 0 ∨ x = 1 ∨ x = 2 ∨ x = 3 ∨ 4 ≤ x := by omega
  · skip
    go_wp2_with fail
    refine (pick_any [0, 100, 101] w3.heap.size 3 B g (w3.alloc (.cells #[.int .i64 0, .int .i64 100, .int .i64 101] 2)) (S3.out.alloc _) (by simp; omega) (by simp) (by simp) (Blk.new _ _ _) (by omega)).mono ?_
    rintro e w4 ⟨cn, rfl, hcn, hs4, ho4⟩
    simp only [List.mem_cons, List.not_mem_nil, or_false] at hcn
    have Kr4 := Lib.hid ((Kr3.out.alloc _).grown ho4 (by intro e; injection e with e; omega))
    have Kc4 := Lib.hid ((Kc3.out.alloc _).grown ho4 (by intro e; injection e with e; omega))
    have N4 := Lib.hid (only_trans (only_trans N3.out (only_of_below ((Below.refl _ _).alloc (Nat.le_refl _) _))) ho4)
    have S4 := Lib.hid hs4
    have szq4 : w3.heap.size + 1 ≤ w4.heap.size := by have := ho4.size; (try simp at this); omega
    clear ho4 hs4 S3 N3 Kr3 Kc3
    have fz := Kc4.out.frozen 6
    obtain ⟨cc0, cc1, cc2, cc3, cc4, cc5, cc6⟩ := cells_7 Kc4.out
    go_upto_region 11 with (fail)
    clear fz cc0 cc1 cc2 cc3 cc4 cc5 cc6
    generalize hw : w4.setCell ⟨w1.heap.size, 6, none⟩ (.int .i64 cn) = w5
    obtain ⟨kq, kept⟩ := cell_7_6 Kc4.out S4.out N4.out (by omega) (by omega) (by omega) (.int .i64 cn) w5 hw.symm
    have Kr5 := Lib.hid (kept.blk (by omega) Kr4.out)
    have Kc5 := Lib.hid kq
    have S5 := Lib.hid kept.src
    have N5 := Lib.hid kept.only
    have szq5 := Nat.le_of_eq kept.size.symm
    clear kq kept hw S4 N4 Kr4 Kc4
    obtain ⟨q0, q1, q2, q3, q4, q5, q6⟩ := cells_7 Kc5.out
    obtain ⟨fr0, fr1, fr2, fr3, fr4, fr5, fr6, fr7, fr8, fr9, fr10, fr11, fr12, fr13, fr14, fr15, fr16, fr17, fr18, fr19, fr20⟩ := facts_7 Kr5.out
    go_wp2_with fail
    obtain ⟨kq, kept⟩ := stored_7 Kr5.out S5.out N5.out (by omega) (by omega) (by omega) (.string sr) (.int .i64 kd) (.string pl) (.string va) (.int .i64 lo) (.int .i64 hi) (.int .i64 cn) _ rfl
    exact bodyPost_ret (v := .agg #[.string sr, .int .i64 kd, .string pl, .string va, .int .i64 lo, .int .i64 hi, .int .i64 cn]) (by simp [results, Tryz.results163, go_sem, fr14, fr15, fr16, fr17, fr18, fr19, fr20]) rfl ⟨⟨sr, kd, pl, va, lo, hi, cn⟩, rfl, ⟨by dsimp only; omega, by dsimp only; omega, by dsimp only; omega, by dsimp only; omega, by dsimp only; omega, by dsimp only; omega, by dsimp only; omega⟩, kept.src, kept.only⟩
  · skip
    go_wp2_with fail
    have BU := Blk.new w3 9 #[.string ⟨#[]⟩, .string ⟨#[97, 115, 104]⟩, .string ⟨#[79, 108, 100]⟩]
    refine (draw_any 3 B g _ (S3.out.alloc _) (by simp; omega)).mono ?_
    rintro e w4 ⟨y, rfl, y0, y1, _, hs4, ho4⟩
    obtain ⟨j, rfl⟩ : ∃ j : Nat, y = j := ⟨y.toNat, by omega⟩
    have hj : j < 3 := by have := y1 (by omega); omega
    obtain ⟨us, cu, zus⟩ := strs_at (n := 100) (cs := [.string ⟨#[]⟩, .string ⟨#[97, 115, 104]⟩, .string ⟨#[79, 108, 100]⟩]) rfl (BU.grown ho4 (by intro e; injection e with e; omega)) (k := j) (by simp; omega)
    have hj0 : (0 : Int) ≤ (j : Int) := by omega
    have hjn : (j : Int) < 3 := by omega
    clear y0 y1 BU
    have Kr4 := Lib.hid ((Kr3.out.alloc _).grown ho4 (by intro e; injection e with e; omega))
    have Kc4 := Lib.hid ((Kc3.out.alloc _).grown ho4 (by intro e; injection e with e; omega))
    have N4 := Lib.hid (only_trans (only_trans N3.out (only_of_below ((Below.refl _ _).alloc (Nat.le_refl _) _))) ho4)
    have S4 := Lib.hid hs4
    have szq4 : w3.heap.size + 1 ≤ w4.heap.size := by have := ho4.size; (try simp at this); omega
    clear ho4 hs4 S3 N3 Kr3 Kc3
    have fz := Kc4.out.frozen 3
    obtain ⟨cc0, cc1, cc2, cc3, cc4, cc5, cc6⟩ := cells_7 Kc4.out
    go_upto_region 11 with (fail)
    clear fz cc0 cc1 cc2 cc3 cc4 cc5 cc6
    generalize hw : w4.setCell ⟨w1.heap.size, 3, none⟩ (.string us) = w5
    obtain ⟨kq, kept⟩ := cell_7_3 Kc4.out S4.out N4.out (by omega) (by omega) (by omega) (.string us) w5 hw.symm
    have Kr5 := Lib.hid (kept.blk (by omega) Kr4.out)
    have Kc5 := Lib.hid kq
    have S5 := Lib.hid kept.src
    have N5 := Lib.hid kept.only
    have szq5 := Nat.le_of_eq kept.size.symm
    clear kq kept hw S4 N4 Kr4 Kc4
    obtain ⟨q0, q1, q2, q3, q4, q5, q6⟩ := cells_7 Kc5.out
    obtain ⟨fr0, fr1, fr2, fr3, fr4, fr5, fr6, fr7, fr8, fr9, fr10, fr11, fr12, fr13, fr14, fr15, fr16, fr17, fr18, fr19, fr20⟩ := facts_7 Kr5.out
    go_wp2_with fail
    obtain ⟨kq, kept⟩ := stored_7 Kr5.out S5.out N5.out (by omega) (by omega) (by omega) (.string sr) (.int .i64 kd) (.string pl) (.string us) (.int .i64 lo) (.int .i64 hi) (.int .i64 wt) _ rfl
    exact bodyPost_ret (v := .agg #[.string sr, .int .i64 kd, .string pl, .string us, .int .i64 lo, .int .i64 hi, .int .i64 wt]) (by simp [results, Tryz.results163, go_sem, fr14, fr15, fr16, fr17, fr18, fr19, fr20]) rfl ⟨⟨sr, kd, pl, us, lo, hi, wt⟩, rfl, ⟨by dsimp only; omega, by dsimp only; omega, by dsimp only; omega, by dsimp only; omega, by dsimp only; omega, by dsimp only; omega, by dsimp only; omega⟩, kept.src, kept.only⟩
  · skip
    go_wp2_with fail
    refine (draw_any 6 B g w3 S3.out (by omega)).mono ?_
    rintro e w4 ⟨y, rfl, y0, y1, _, hs4, ho4⟩
    have hy := y1 (by omega)
    clear y1
    have Kr4 := Lib.hid ((Kr3.out).grown ho4 (by intro e; injection e with e; omega))
    have Kc4 := Lib.hid ((Kc3.out).grown ho4 (by intro e; injection e with e; omega))
    have N4 := Lib.hid (only_trans N3.out ho4)
    have S4 := Lib.hid hs4
    have szq4 : w3.heap.size ≤ w4.heap.size := by have := ho4.size; (try simp at this); omega
    clear ho4 hs4 S3 N3 Kr3 Kc3
    have yw : IntKind.i64.wrap (y - 1) = y - 1 := IntWalk.i64_in _ (by omega)
    have fz := Kc4.out.frozen 1
    obtain ⟨cc0, cc1, cc2, cc3, cc4, cc5, cc6⟩ := cells_7 Kc4.out
    go_upto_region 11 with (fail)
    clear fz cc0 cc1 cc2 cc3 cc4 cc5 cc6
    generalize hw : w4.setCell ⟨w1.heap.size, 1, none⟩ (.int .i64 (y - 1)) = w5
    obtain ⟨kq, kept⟩ := cell_7_1 Kc4.out S4.out N4.out (by omega) (by omega) (by omega) (.int .i64 (y - 1)) w5 hw.symm
    have Kr5 := Lib.hid (kept.blk (by omega) Kr4.out)
    have Kc5 := Lib.hid kq
    have S5 := Lib.hid kept.src
    have N5 := Lib.hid kept.only
    have szq5 := Nat.le_of_eq kept.size.symm
    clear kq kept hw S4 N4 Kr4 Kc4
    obtain ⟨q0, q1, q2, q3, q4, q5, q6⟩ := cells_7 Kc5.out
    obtain ⟨fr0, fr1, fr2, fr3, fr4, fr5, fr6, fr7, fr8, fr9, fr10, fr11, fr12, fr13, fr14, fr15, fr16, fr17, fr18, fr19, fr20⟩ := facts_7 Kr5.out
    go_wp2_with fail
    obtain ⟨kq, kept⟩ := stored_7 Kr5.out S5.out N5.out (by omega) (by omega) (by omega) (.string sr) (.int .i64 (y - 1)) (.string pl) (.string va) (.int .i64 lo) (.int .i64 hi) (.int .i64 wt) _ rfl
    exact bodyPost_ret (v := .agg #[.string sr, .int .i64 (y - 1), .string pl, .string va, .int .i64 lo, .int .i64 hi, .int .i64 wt]) (by simp [results, Tryz.results163, go_sem, fr14, fr15, fr16, fr17, fr18, fr19, fr20]) rfl ⟨⟨sr, (y - 1), pl, va, lo, hi, wt⟩, rfl, ⟨by dsimp only; omega, by dsimp only; omega, by dsimp only; omega, by dsimp only; omega, by dsimp only; omega, by dsimp only; omega, by dsimp only; omega⟩, kept.src, kept.only⟩
  · skip
    go_wp2_with fail
    refine (spanD_any B g w3 S3.out (by omega)).mono ?_
    rintro e w4 ⟨p, q, rfl, d0, d1, d2, d3, hsq, hoq⟩
    have Kr4 := Lib.hid ((Kr3.out).grown hoq (by intro e; injection e with e; omega))
    have Kc4 := Lib.hid ((Kc3.out).grown hoq (by intro e; injection e with e; omega))
    have N4 := Lib.hid (only_trans N3.out hoq)
    have S4 := Lib.hid hsq
    have szq4 : w3.heap.size ≤ w4.heap.size := by have := hoq.size; (try simp at this); omega
    clear hoq hsq S3 N3 Kr3 Kc3
    obtain ⟨p0, p1, p2, p3⟩ := pairf_7_4 Kc4.out
    go_upto_region 11 with (fail)
    clear p0 p1 p2 p3
    generalize hw : (w4.setCell ⟨w1.heap.size, 4, none⟩ (.int .i64 p)).setCell ⟨w1.heap.size, 5, none⟩ (.int .i64 q) = w5
    obtain ⟨kq, kept⟩ := pair_7_4 Kc4.out S4.out N4.out (by omega) (by omega) (by omega) (.int .i64 p) (.int .i64 q) w5 hw.symm
    have Kr5 := Lib.hid (kept.blk (by omega) Kr4.out)
    have Kc5 := Lib.hid kq
    have S5 := Lib.hid kept.src
    have N5 := Lib.hid kept.only
    have szq5 := Nat.le_of_eq kept.size.symm
    clear kq kept hw S4 N4 Kr4 Kc4
    obtain ⟨q0, q1, q2, q3, q4, q5, q6⟩ := cells_7 Kc5.out
    obtain ⟨fr0, fr1, fr2, fr3, fr4, fr5, fr6, fr7, fr8, fr9, fr10, fr11, fr12, fr13, fr14, fr15, fr16, fr17, fr18, fr19, fr20⟩ := facts_7 Kr5.out
    go_wp2_with fail
    obtain ⟨kq, kept⟩ := stored_7 Kr5.out S5.out N5.out (by omega) (by omega) (by omega) (.string sr) (.int .i64 kd) (.string pl) (.string va) (.int .i64 p) (.int .i64 q) (.int .i64 wt) _ rfl
    exact bodyPost_ret (v := .agg #[.string sr, .int .i64 kd, .string pl, .string va, .int .i64 p, .int .i64 q, .int .i64 wt]) (by simp [results, Tryz.results163, go_sem, fr14, fr15, fr16, fr17, fr18, fr19, fr20]) rfl ⟨⟨sr, kd, pl, va, p, q, wt⟩, rfl, ⟨by dsimp only; omega, by dsimp only; omega, by dsimp only; omega, by dsimp only; omega, by dsimp only; omega, by dsimp only; omega, by dsimp only; omega⟩, kept.src, kept.only⟩
  · skip
    have e0 : (x == 0) = false := by simp; omega
    have e1 : (x == 1) = false := by simp; omega
    have e2 : (x == 2) = false := by simp; omega
    have e3 : (x == 3) = false := by simp; omega
    obtain ⟨q0, q1, q2, q3, q4, q5, q6⟩ := cells_7 Kc3.out
    obtain ⟨fr0, fr1, fr2, fr3, fr4, fr5, fr6, fr7, fr8, fr9, fr10, fr11, fr12, fr13, fr14, fr15, fr16, fr17, fr18, fr19, fr20⟩ := facts_7 Kr3.out
    go_wp2_with fail
    obtain ⟨kq, kept⟩ := stored_7 Kr3.out S3.out N3.out (by omega) (by omega) (by omega) (.string sr) (.int .i64 kd) (.string pl) (.string va) (.int .i64 lo) (.int .i64 hi) (.int .i64 wt) _ rfl
    exact bodyPost_ret (v := .agg #[.string sr, .int .i64 kd, .string pl, .string va, .int .i64 lo, .int .i64 hi, .int .i64 wt]) (by simp [results, Tryz.results163, go_sem, fr14, fr15, fr16, fr17, fr18, fr19, fr20]) rfl ⟨⟨sr, kd, pl, va, lo, hi, wt⟩, rfl, ⟨by dsimp only; omega, by dsimp only; omega, by dsimp only; omega, by dsimp only; omega, by dsimp only; omega, by dsimp only; omega, by dsimp only; omega⟩, kept.src, kept.only⟩
end Go.Proofs.YtihhpmhigmegjaaGreatDoor

namespace Go.Proofs.YtihhpmhigmegjaaGreatDoor
open Go.ChangeShapes Go.WideShapes Go.ChangeAt Go.RowKit

theorem new_vs (w : World) (t : TypeId) (cs : List Value) (n : Nat) (hn : cs.length = n) : Reads (w.alloc (.cells cs.toArray t)) (w.alloc (.cells cs.toArray t)).heap.size n (some ⟨w.heap.size, 0, none⟩) 1 cs :=
  ⟨by omega, fun _ => ⟨w.heap.size, 0, rfl, by simp, fun j v hv => by
    rw [Nat.zero_add, (Blk.new w t cs.toArray).cell]; simpa using hv⟩⟩
/-- A drawn list. -/
def DrawnCs (w : World) (B g : Nat) (e : Ending) (w' : World) : Prop := ∃ (L : List Clm) (Bq : Option Addr) (dq : Nat), e = .returned (.slice Bq L.length dq) ∧ w'.ownsRow w.heap.size 81 7 (.slice Bq L.length dq) L.length (clC L) ∧ (∀ s ∈ L, SmallC s) ∧ L.length ≤ 20 ∧ Src w' B g ∧ Only w w' g
set_option maxRecDepth 100000 in
set_option maxHeartbeats 2000000 in
theorem listC_any (B g : Nat) (w : World) (hs : Src w B g) (hB : B ≤ w.heap.size) :
    Calls Tryz.prog 121 #[.pointer (some ⟨g, 0, none⟩)] w (DrawnCs w B g) := by
  obtain ⟨i0, hi0, hz0, hz1, hz2⟩ := info_parts infoClm
  have hgl := hs.lt
  have HS := Lib.hid hs; clear hs
  have OW := Lib.hid (World.ownsRow_made (e := 81) (base := w.heap.size) (size := 7) w #[] 0 (Nat.le_refl _) (by decide) rfl)
  have S0 := Lib.hid (HS.out.alloc (.cells #[] 81))
  have N0 := Lib.hid (only_of_below ((Below.refl w.heap.size w).alloc (Nat.le_refl _) (.cells #[] 81)) : Only w _ g)
  go_enter Tryz.func121, Tryz.ntmps121
  go_wp2_with fail
  refine (draw_any 9 B g _ S0.out (by simp; omega)).mono ?_
  rintro e w1 ⟨x, rfl, h0, h1, _, hs1, ho1⟩
  have h1' := h1 (by omega)
  have O1 := Lib.hid (own_only OW.out ho1 hgl)
  have N1 := Lib.hid (only_trans N0.out ho1)
  have S1 := Lib.hid hs1
  clear hs1 ho1 h1 OW N0 S0
  obtain ⟨m, rfl⟩ : ∃ m : Nat, x = m := ⟨x.toNat, by omega⟩
  have hm3 : m ≤ 8 := by omega
  clear h0 h1'
  go_wp2_with fail
  go_loopw [3, 4] (fun v3 v4 wr => ∃ (L : List Clm) (n j : Nat) (Bq : Option Addr) (dq : Nat), n + j ≤ 8 ∧ Hid (L.length = n) ∧ Hid (∀ s ∈ L, SmallC s) ∧ v3 = .slice Bq n dq ∧ Hid (wr.ownsRow w.heap.size 81 7 (.slice Bq n dq) n (clC L)) ∧ Hid (Src wr B g) ∧ Hid (Only w wr g) ∧ v4 = .int .i64 (j : Int)) (fun _ i _ => (intOf i).toNat)
  case atStart => exact ⟨[], 0, m, _, 0, by omega, rfl, (fun s h => by cases h), rfl, O1.out, S1.out, N1.out, rfl⟩
  case round =>
    clear O1 S1 N1
    obtain ⟨L, n, j, Bq, dq, hj, HN, HL, rfl, HO, S1, N1, rfl⟩ := hrel
    have hwB : w.heap.size ≤ wr.heap.size := N1.out.size
    cases j with
    | zero =>
      have hno : ¬ (0 : Int) < ((0 : Nat) : Int) := by omega
      go_wp2_with fail
      refine (draw_any 24 B g wr S1.out (by omega)).mono ?_
      rintro e w2 ⟨y, rfl, y0, y1, _, hs2, ho2⟩
      have hy := y1 (by omega)
      have O2 := Lib.hid (own_only HO.out ho2 hgl)
      have N2 := Lib.hid (only_trans N1.out ho2)
      have S2 := Lib.hid hs2
      have hz2' := N2.out.size
      clear hs2 ho2 y1 HO N1 S1
      obtain rfl | rfl | hx : y = 0 ∨ y = 1 ∨ 2 ≤ y := by omega
      · skip
        go_wp2_with fail
        refine (drawC_any B g w2 S2.out (by omega)).mono ?_
        rintro e w3 ⟨⟨sr, kd, pl, va, lo, hi, wt⟩, rfl, ⟨c0, c1, c2, c3, c4, c5, c6⟩, hs3, ho3⟩
        dsimp only [SmallC] at c0 c1 c2 c3 c4 c5 c6
        unfold Clm.val
        dsimp only
        have O3 := Lib.hid (own_only O2.out ho3 hgl)
        have N3 := Lib.hid (only_trans N2.out ho3)
        have S3 := Lib.hid hs3
        have hz3' := N3.out.size
        clear hs3 ho3
        go_wp2_with (at_builtin; refine wpList_append_any _ rfl (.tmp 21) (.tmp 24) _ rfl w.heap.size 81 i0 _ 7 80 Tryz.underlying24 hi0 hz0 hz1 hz2 rfl (by omega) (.slice Bq n dq) n (clC L) rfl (O3.out.alloc _) _ (some ⟨w3.heap.size, 0, none⟩) 1 1 [.string sr, .int .i64 kd, .string pl, .string va, .int .i64 lo, .int .i64 hi, .int .i64 wt] rfl (new_vs _ _ _ _ rfl) (by simp [Value.oneCell']) (by simp only [maxLen]; omega) (by omega) (by simp; omega) ?_; intro v4 w4 hown4 hg4 hat4; obtain ⟨B4, d4, rfl, _⟩ := own_shape hown4)
        have hlo : ∀ k, (Value.slice Bq n dq).ownBlock = some k → w.heap.size ≤ k := fun k hk => (own_lt O3.out k hk).1
        have S4 := Lib.hid ((S3.out.alloc _).grown hg4 (by intro e; have := hlo g e; omega) (fun k hk => by have := hlo k hk; omega))
        have N4 := Lib.hid (only_own (only_trans N3.out (only_of_below ((Below.refl w3.heap.size w3).alloc (Nat.le_refl _) _))) hg4 hlo)
        have O4 := Lib.hid (show w4.ownsRow w.heap.size 81 7 (.slice B4 (n + 1) d4) (n + 1) (clC (L ++ [⟨sr, kd, pl, va, lo, hi, wt⟩])) by simpa [clC, Clm.cells] using hown4)
        clear hown4 hg4 hat4 hlo
        go_wp2_with fail
        go_ret
        have hn := HN.out
        subst hn
        exact ⟨L ++ [(⟨sr, kd, pl, va, lo, hi, wt⟩ : Clm)], B4, d4, by first | rfl | simp, by first | exact O4.out | simpa using O4.out, (fun a ha => (List.mem_append.1 ha).elim (HL.out a) (fun h => by rw [List.mem_singleton] at h; rw [h]; exact ⟨c0, c1, c2, c3, c4, c5, c6⟩)), by (try simp); omega, S4.out, N4.out⟩
      · skip
        go_wp2_with fail
        go_loopw [3] (fun v3 wr => ∃ (L : List Clm) (n : Nat) (Bq : Option Addr) (dq : Nat), n ≤ 13 ∧ Hid (L.length = n) ∧ Hid (∀ s ∈ L, SmallC s) ∧ v3 = .slice Bq n dq ∧ Hid (wr.ownsRow w.heap.size 81 7 (.slice Bq n dq) n (clC L)) ∧ Hid (Src wr B g) ∧ Hid (Only w wr g)) (fun v _ => 13 - (match v with | .slice _ n _ => n | _ => 0))
        case atStart => exact ⟨L, n, Bq, dq, by omega, HN.out, HL.out, rfl, O2.out, S2.out, N2.out⟩
        case round =>
          clear O2 S2 N2 HN HL
          obtain ⟨L, n, Bq, dq, hj, HN, HL, rfl, HO, S1, N1⟩ := hrel
          have hwB : w.heap.size ≤ wr.heap.size := N1.out.size
          go_wp2_with fail
          refine (draw_any 2 B g wr S1.out (by omega)).mono ?_
          rintro e w2 ⟨z, rfl, z0, z1, _, hs2, ho2⟩
          have hzz := z1 (by omega)
          have O2 := Lib.hid (own_only HO.out ho2 hgl)
          have N2 := Lib.hid (only_trans N1.out ho2)
          have S2 := Lib.hid hs2
          have hz2' := N2.out.size
          have zw : IntKind.i64.wrap (12 + z) = 12 + z := IntWalk.i64_in _ (by omega)
          clear hs2 ho2 z1 HO N1 S1
          by_cases hlt : (n : Int) < 12 + z
          · skip
            go_wp2_with fail
            refine (goodC_any B g w2 S2.out (by omega)).mono ?_
            rintro e w3 ⟨⟨sr, kd, pl, va, lo, hi, wt⟩, rfl, ⟨c0, c1, c2, c3, c4, c5, c6⟩, hs3, ho3⟩
            dsimp only [SmallC] at c0 c1 c2 c3 c4 c5 c6
            unfold Clm.val
            dsimp only
            have O3 := Lib.hid (own_only O2.out ho3 hgl)
            have N3 := Lib.hid (only_trans N2.out ho3)
            have S3 := Lib.hid hs3
            have hz3' := N3.out.size
            clear hs3 ho3
            go_wp2_with (at_builtin; refine wpList_append_any _ rfl (.tmp 34) (.tmp 37) _ rfl w.heap.size 81 i0 _ 7 80 Tryz.underlying24 hi0 hz0 hz1 hz2 rfl (by omega) (.slice Bq n dq) n (clC L) rfl (O3.out.alloc _) _ (some ⟨w3.heap.size, 0, none⟩) 1 1 [.string sr, .int .i64 kd, .string pl, .string va, .int .i64 lo, .int .i64 hi, .int .i64 wt] rfl (new_vs _ _ _ _ rfl) (by simp [Value.oneCell']) (by simp only [maxLen]; omega) (by omega) (by simp; omega) ?_; intro v4 w4 hown4 hg4 hat4; obtain ⟨B4, d4, rfl, _⟩ := own_shape hown4)
            have hlo : ∀ k, (Value.slice Bq n dq).ownBlock = some k → w.heap.size ≤ k := fun k hk => (own_lt O3.out k hk).1
            have S4 := Lib.hid ((S3.out.alloc _).grown hg4 (by intro e; have := hlo g e; omega) (fun k hk => by have := hlo k hk; omega))
            have N4 := Lib.hid (only_own (only_trans N3.out (only_of_below ((Below.refl w3.heap.size w3).alloc (Nat.le_refl _) _))) hg4 hlo)
            have O4 := Lib.hid (show w4.ownsRow w.heap.size 81 7 (.slice B4 (n + 1) d4) (n + 1) (clC (L ++ [⟨sr, kd, pl, va, lo, hi, wt⟩])) by simpa [clC, Clm.cells] using hown4)
            clear hown4 hg4 hat4 hlo
            go_roundw
            case rel => exact ⟨L ++ [(⟨sr, kd, pl, va, lo, hi, wt⟩ : Clm)], n + 1, B4, d4, by omega, by have := HN.out; simp [Hid, this], (fun a ha => (List.mem_append.1 ha).elim (HL.out a) (fun h => by rw [List.mem_singleton] at h; rw [h]; exact ⟨c0, c1, c2, c3, c4, c5, c6⟩)), rfl, O4.out, S4.out, N4.out⟩
            case measure => dsimp only; omega
          · skip
            go_wp2_with fail
            go_ret
            have hn := HN.out
            subst hn
            exact ⟨L, Bq, dq, by first | rfl | simp, by first | exact O2.out | simpa using O2.out, HL.out, by (try simp); omega, S2.out, N2.out⟩
      · skip
        have e0 : (y == 0) = false := by simp; omega
        have e1 : (y == 1) = false := by simp; omega
        go_wp2_with fail
        go_ret
        have hn := HN.out
        subst hn
        exact ⟨L, Bq, dq, by first | rfl | simp, by first | exact O2.out | simpa using O2.out, HL.out, by (try simp); omega, S2.out, N2.out⟩
    | succ j =>
      have hyes : (0 : Int) < ((j + 1 : Nat) : Int) := by omega
      go_wp2_with fail
      refine (goodC_any B g wr S1.out (by omega)).mono ?_
      rintro e w2 ⟨⟨sr, kd, pl, va, lo, hi, wt⟩, rfl, ⟨c0, c1, c2, c3, c4, c5, c6⟩, hs2, ho2⟩
      dsimp only [SmallC] at c0 c1 c2 c3 c4 c5 c6
      unfold Clm.val
      dsimp only
      have O2 := Lib.hid (own_only HO.out ho2 hgl)
      have N2 := Lib.hid (only_trans N1.out ho2)
      have S2 := Lib.hid hs2
      have hz2' := N2.out.size
      clear hs2 ho2
      go_wp2_with (at_builtin; refine wpList_append_any _ rfl (.tmp 12) (.tmp 15) _ rfl w.heap.size 81 i0 _ 7 80 Tryz.underlying24 hi0 hz0 hz1 hz2 rfl (by omega) (.slice Bq n dq) n (clC L) rfl (O2.out.alloc _) _ (some ⟨w2.heap.size, 0, none⟩) 1 1 [.string sr, .int .i64 kd, .string pl, .string va, .int .i64 lo, .int .i64 hi, .int .i64 wt] rfl (new_vs _ _ _ _ rfl) (by simp [Value.oneCell']) (by simp only [maxLen]; omega) (by omega) (by simp; omega) ?_; intro v4 w4 hown4 hg4 hat4; obtain ⟨B4, d4, rfl, _⟩ := own_shape hown4)
      have hlo : ∀ k, (Value.slice Bq n dq).ownBlock = some k → w.heap.size ≤ k := fun k hk => (own_lt O2.out k hk).1
      have S4 := Lib.hid ((S2.out.alloc _).grown hg4 (by intro e; have := hlo g e; omega) (fun k hk => by have := hlo k hk; omega))
      have N4 := Lib.hid (only_own (only_trans N2.out (only_of_below ((Below.refl w2.heap.size w2).alloc (Nat.le_refl _) _))) hg4 hlo)
      have O4 := Lib.hid (show w4.ownsRow w.heap.size 81 7 (.slice B4 (n + 1) d4) (n + 1) (clC (L ++ [⟨sr, kd, pl, va, lo, hi, wt⟩])) by simpa [clC, Clm.cells] using hown4)
      clear hown4 hg4 hat4 hlo
      go_roundw
      case rel => exact ⟨L ++ [(⟨sr, kd, pl, va, lo, hi, wt⟩ : Clm)], n + 1, j, B4, d4, by omega, by have := HN.out; simp [Hid, this], (fun a ha => (List.mem_append.1 ha).elim (HL.out a) (fun h => by rw [List.mem_singleton] at h; rw [h]; exact ⟨c0, c1, c2, c3, c4, c5, c6⟩)), rfl, O4.out, S4.out, N4.out, by go_num⟩
      case measure => simp [intOf]
end Go.Proofs.YtihhpmhigmegjaaGreatDoor
