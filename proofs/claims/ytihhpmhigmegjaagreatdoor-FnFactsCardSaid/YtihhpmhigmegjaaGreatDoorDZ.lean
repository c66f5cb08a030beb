/- Merged: l21List of the reference: a drawn list of claims, now and then with a circle. l24Fact of the reference: a drawn fact. DrawTelling, DrawIsCertain, DrawIsFact of the reference. -/
import Derived.Test.YtihhpmhigmegjaaGreatDoorRows
import Derived.Test.YtihhpmhigmegjaaGreatDoorL0
import Derived.Test.YtihhpmhigmegjaaGreatDoorM0
import Derived.WalkKit
import Derived.ProofKit
import Derived.OpenShut
import Derived.BigQuiet
import Derived.Outline
import Derived.WalkSpells
import Derived.WalkLawsBesides
import Derived.Deep.DeepCutAuto
import Derived.Test.YtihhpmhigmegjaaGreatDoorDX
import Derived.Test.YtihhpmhigmegjaaGreatDoorO2
import Derived.Test.YtihhpmhigmegjaaGreatDoorDY
import Derived.Test.YtihhpmhigmegjaaGreatDoorRD
import Derived.Test.YtihhpmhigmegjaaGreatDoorFF0
import Derived.Test.YtihhpmhigmegjaaGreatDoorSC
namespace Go.Proofs.YtihhpmhigmegjaaGreatDoor
open Go.ChangeShapes Go.WideShapes Go.ChangeAt Go.RowKit

set_option maxRecDepth 100000 in
set_option maxHeartbeats 4000000 in
/-- What follows the circle: the list out of l20List is taken over up to nine. -/
theorem list21_any (B g : Nat) (w : World) (hs : Src w B g) (hB : B ≤ w.heap.size) :
    Calls Tryz.prog 60 #[.pointer (some ⟨g, 0, none⟩)] w (DrawnCs w B g) := by
  have mixed : Tryz.prog.follows Departure.mixedOrders = true := by kernel_rfl
  obtain ⟨i0, hi0, hz0, hz1, hz2⟩ := info_parts infoClm
  have hgl := hs.lt
  have HS := Lib.hid hs; clear hs
  have OW := Lib.hid (World.ownsRow_made (e := 81) (base := w.heap.size) (size := 7) w #[] 0 (Nat.le_refl _) (by decide) rfl)
  have S0 := Lib.hid (HS.out.alloc (.cells #[] 81))
  have N0 := Lib.hid (only_of_below ((Below.refl w.heap.size w).alloc (Nat.le_refl _) (.cells #[] 81)) : Only w _ g)
  go_enter Tryz.func60, Tryz.ntmps60
  go_wp2_with fail
  refine (draw_any 3 B g _ S0.out (by simp; omega)).mono ?_
  rintro e w1 ⟨x, rfl, h0, h1, _, hs1, ho1⟩
  have h1' := h1 (by omega)
  have O1 := Lib.hid (own_only OW.out ho1 hgl)
  have N1 := Lib.hid (only_trans N0.out ho1)
  have S1 := Lib.hid hs1
  have hz1' : w.heap.size + 1 ≤ w1.heap.size := by have := ho1.size; simp at this; omega
  clear hs1 ho1 h1 OW N0 S0
  have PP : ∃ p : World → Prop, p = fun W => True := ⟨_, rfl⟩
  clear PP
  by_cases hx : x = 0
  · subst hx
    have PN := Lib.hid (blks_one w1 9 #[.string ⟨#[97, 115, 104]⟩, .string ⟨#[98, 114, 105, 103]⟩, .string ⟨#[99, 111, 114, 107]⟩, .string ⟨#[97, 115, 104]⟩])
    go_upto_region 4 with (fail)
    generalize hW : w1.alloc (.cells #[.string ⟨#[97, 115, 104]⟩, .string ⟨#[98, 114, 105, 103]⟩, .string ⟨#[99, 111, 114, 107]⟩, .string ⟨#[97, 115, 104]⟩] 9) = W
    obtain ⟨kp, bw, hwz⟩ := PN.out W hW.symm
    have hwz := Nat.le_of_eq hwz.symm
    clear hW PN
    have KP := Lib.hid kp
    have O2 := Lib.hid (own_below O1.out bw)
    have S2 := Lib.hid (S1.out.below bw)
    have N2 := Lib.hid (only_trans N1.out (only_of_below bw : Only w1 W g))
    clear kp bw O1 S1 N1
    have HP0 := Lib.hid (show ∀ q, (Value.slice (some ⟨w.heap.size, 0, none⟩) 0 0).ownBlock = some q → q ≠ w1.heap.size by intro q hq; simp [Value.ownBlock] at hq; omega)
    generalize hpb : w1.heap.size = pb at *
    clear hpb
    go_wp2_with fail
    go_loopw [3, 5, 6] (fun v3 v5 v6 wr => ∃ (L : List Clm) (n k : Nat) (Bq : Option Addr) (dq : Nat), k ≤ 3 ∧ n ≤ k ∧ Hid (L.length = n) ∧ Hid (∀ s ∈ L, SmallC s) ∧ v3 = .slice Bq n dq ∧ Hid (wr.ownsRow w.heap.size 81 7 (.slice Bq n dq) n (clC L)) ∧ Hid (Src wr B g) ∧ Hid (Only w wr g) ∧ Hid (Blk wr pb 9 #[.string ⟨#[97, 115, 104]⟩, .string ⟨#[98, 114, 105, 103]⟩, .string ⟨#[99, 111, 114, 107]⟩, .string ⟨#[97, 115, 104]⟩]) ∧ Hid (∀ q, (Value.slice Bq n dq).ownBlock = some q → q ≠ pb) ∧ v5 = .int .i64 (k : Int)) (fun _ i _ _ => 3 - (intOf i).toNat)
    case atStart => exact ⟨[], 0, 0, _, 0, by omega, by omega, rfl, (fun s h => by cases h), rfl, O2.out, S2.out, N2.out, KP.out, HP0.out, rfl⟩
    case round =>
      clear O2 S2 N2 KP
      obtain ⟨L, n, k, Bq, dq, hk, hnk, HN, HL, rfl, HO, S0, N0, Kp0, HP, rfl⟩ := hrel
      have hwB : w.heap.size ≤ wr.heap.size := N0.out.size
      have hpw : pb < wr.heap.size := Kp0.out.lt
      by_cases hlt : k < 3
      · have hyes : (k : Int) < 3 := by omega
        go_upto_region 7 with (fail)
        have hWB : B ≤ wr.heap.size := by omega
        have hgW : g < wr.heap.size := by omega
        have hS0 : SrcOnly wr B g wr.drew := SrcOnly.drew ⟨S0.out, only_refl _ _⟩
        refine' wp_region_slots (SrcOnly wr B g) (fun w w' => Only w w' g) [isRow 9 wr.heap.size [.string ⟨#[97, 116, 108, 97, 115]⟩, .string ⟨#[99, 104, 97, 114, 116, 101, 114]⟩, .string ⟨#[114, 111, 108, 108]⟩], isV (.int .i64 ((k : Nat) : Int)), isAt 9 wr.heap.size [.string ⟨#[97, 116, 108, 97, 115]⟩, .string ⟨#[99, 104, 97, 114, 116, 101, 114]⟩, .string ⟨#[114, 111, 108, 108]⟩], isStr 100, isV (.slice (some ⟨pb, 0, none⟩) 4 4), isV (.int .i64 ((k : Nat) : Int)), isAt 9 (pb) [.string ⟨#[97, 115, 104]⟩, .string ⟨#[98, 114, 105, 103]⟩, .string ⟨#[99, 111, 114, 107]⟩, .string ⟨#[97, 115, 104]⟩], isStr 100, isV (.slice (some ⟨pb, 0, none⟩) 4 4), isV (.int .i64 ((k : Nat) : Int)), isV (.int .i64 ((k : Int) + 1)), isAt 9 (pb) [.string ⟨#[97, 115, 104]⟩, .string ⟨#[98, 114, 105, 103]⟩, .string ⟨#[99, 111, 114, 107]⟩, .string ⟨#[97, 115, 104]⟩], isStr 100, isV (.pointer (some ⟨g, 0, none⟩)), isInt (0) (19), isInt (1200) (1219), isV (.pointer (some ⟨g, 0, none⟩)), isInt (0) (29), isInt (1215) (1244), (fun v _ => ∃ (y0 : Int) (y1 : Int), v = .agg #[.int .i64 y0, .int .i64 y1] ∧ 1200 ≤ y0 ∧ y0 ≤ 1219 ∧ 1215 ≤ y1 ∧ y1 ≤ 1244), isV (.pointer (some ⟨g, 0, none⟩)), isInt (0) (8), isInt (1) (9), (fun v _ => ∃ (y0 : ByteArray) (y2 : ByteArray) (y3 : ByteArray) (y4 : Int) (y5 : Int) (y6 : Int), v = .agg #[.string y0, .int .i64 1, .string y2, .string y3, .int .i64 y4, .int .i64 y5, .int .i64 y6] ∧ y0.size ≤ 100 ∧ y2.size ≤ 100 ∧ y3.size ≤ 100 ∧ 1200 ≤ y4 ∧ y4 ≤ 1219 ∧ 1215 ≤ y5 ∧ y5 ≤ 1244 ∧ 1 ≤ y6 ∧ y6 ≤ 9), isBox 81 wr.heap.size [.string ⟨#[]⟩, .int .i64 0, .string ⟨#[]⟩, .string ⟨#[]⟩, .int .i64 0, .int .i64 0, .int .i64 0]] mixed (by kernel_rfl) (by kernel_rfl) hS0 ?_ _ _ ?_ ?_ ?_
        · exact AllStable.cons (stable_Row _ (by omega) _ _) (AllStable.cons (stable_V _ _) (AllStable.cons (stable_At _ (by omega) _ _) (AllStable.cons (stable_Str _ _) (AllStable.cons (stable_V _ _) (AllStable.cons (stable_V _ _) (AllStable.cons (stable_At _ (by omega) _ _) (AllStable.cons (stable_Str _ _) (AllStable.cons (stable_V _ _) (AllStable.cons (stable_V _ _) (AllStable.cons (stable_V _ _) (AllStable.cons (stable_At _ (by omega) _ _) (AllStable.cons (stable_Str _ _) (AllStable.cons (stable_V _ _) (AllStable.cons (stable_Int _ _ _) (AllStable.cons (stable_Int _ _ _) (AllStable.cons (stable_V _ _) (AllStable.cons (stable_Int _ _ _) (AllStable.cons (stable_Int _ _ _) (AllStable.cons (stable_pure _) (AllStable.cons (stable_V _ _) (AllStable.cons (stable_Int _ _ _) (AllStable.cons (stable_Int _ _ _) (AllStable.cons (stable_pure _) (AllStable.cons (stable_Box _ (by omega) _ _) (AllStable.nil)))))))))))))))))))))))))
        rotate_left 2
        · intro f; simp only [lay, List.setIfInBounds_toArray, List.set_cons_succ, List.set_cons_zero, Nat.reduceAdd]; exact rfl
        · refine AllTo.cons ?_ ?_
          · intro f v1 hS hT K hK
            simp only [Act.put, List.setIfInBounds_toArray, List.set_cons_succ, List.set_cons_zero] at hK
            go_simp
            exact hK.out _ _ ⟨v1.heap.size, rfl, hS.2.size, Blk.new _ _ _⟩ (hS.alloc _).1 (hS.alloc _).2
          refine AllTo.cons ?_ ?_
          · intro f v1 hS hT K hK
            simp only [Act.put, List.setIfInBounds_toArray, List.set_cons_succ, List.set_cons_zero] at hK
            go_simp
            exact hK.out _ _ (rfl) hS (only_refl _ _)
          refine AllTo.cons ?_ ?_
          · intro f v1 hS hT K hK
            obtain ⟨ba, ea, na, ka⟩ := hT 0 _ rfl rfl
            have ei := hT 1 _ rfl rfl
            dsimp only [isV] at ei
            have hk0 : (0 : Int) ≤ (k : Int) := by omega
            have hkn : (k : Int) < 3 := by omega
            simp only [Act.put, List.setIfInBounds_toArray, List.set_cons_succ, List.set_cons_zero, ea, ei] at hK
            go_simp
            exact hK.out _ _ ⟨ba, k, rfl, by simp; omega, na, ka⟩ hS (only_refl _ _)
          refine AllTo.cons ?_ ?_
          · intro f v1 hS hT K hK
            obtain ⟨ba, ia, ea, ta, na, ka⟩ := hT 2 _ rfl rfl
            obtain ⟨s, hc, hsz⟩ := strs_at (n := 100) rfl ka ta
            simp only [Act.put, List.setIfInBounds_toArray, List.set_cons_succ, List.set_cons_zero, ea] at hK
            go_simp
            exact hK.out _ _ (⟨s, rfl, hsz⟩) hS (only_refl _ _)
          refine AllTo.cons ?_ ?_
          · intro f v1 hS hT K hK
            simp only [Act.put, List.setIfInBounds_toArray, List.set_cons_succ, List.set_cons_zero] at hK
            go_simp
            exact hK.out _ _ (rfl) hS (only_refl _ _)
          refine AllTo.cons ?_ ?_
          · intro f v1 hS hT K hK
            simp only [Act.put, List.setIfInBounds_toArray, List.set_cons_succ, List.set_cons_zero] at hK
            go_simp
            exact hK.out _ _ (rfl) hS (only_refl _ _)
          refine AllTo.cons ?_ ?_
          · intro f v1 hS hT K hK
            have ea := hT 4 _ rfl rfl
            dsimp only [isV] at ea
            have ei := hT 5 _ rfl rfl
            dsimp only [isV] at ei
            have hk0 : (0 : Int) ≤ (k : Int) := by omega
            have hkn : (k : Int) < 4 := by omega
            simp only [Act.put, List.setIfInBounds_toArray, List.set_cons_succ, List.set_cons_zero, ea, ei] at hK
            go_simp
            exact hK.out _ _ ⟨pb, k, rfl, by simp; omega, Nat.le_refl _, Kp0.out.grown hS.2 (by intro e; injection e with e; omega)⟩ hS (only_refl _ _)
          refine AllTo.cons ?_ ?_
          · intro f v1 hS hT K hK
            obtain ⟨ba, ia, ea, ta, na, ka⟩ := hT 6 _ rfl rfl
            obtain ⟨s, hc, hsz⟩ := strs_at (n := 100) rfl ka ta
            simp only [Act.put, List.setIfInBounds_toArray, List.set_cons_succ, List.set_cons_zero, ea] at hK
            go_simp
            exact hK.out _ _ (⟨s, rfl, hsz⟩) hS (only_refl _ _)
          refine AllTo.cons ?_ ?_
          · intro f v1 hS hT K hK
            simp only [Act.put, List.setIfInBounds_toArray, List.set_cons_succ, List.set_cons_zero] at hK
            go_simp
            exact hK.out _ _ (rfl) hS (only_refl _ _)
          refine AllTo.cons ?_ ?_
          · intro f v1 hS hT K hK
            simp only [Act.put, List.setIfInBounds_toArray, List.set_cons_succ, List.set_cons_zero] at hK
            go_simp
            exact hK.out _ _ (rfl) hS (only_refl _ _)
          refine AllTo.cons ?_ ?_
          · intro f v1 hS hT K hK
            have ea := hT 9 _ rfl rfl
            dsimp only [isV] at ea
            have hw : IntKind.i64.wrap ((k : Int) + 1) = (k : Int) + 1 := IntWalk.i64_in _ (by omega)
            simp only [Act.put, List.setIfInBounds_toArray, List.set_cons_succ, List.set_cons_zero, ea] at hK
            go_simp
            exact hK.out _ _ (rfl) hS (only_refl _ _)
          refine AllTo.cons ?_ ?_
          · intro f v1 hS hT K hK
            have ea := hT 8 _ rfl rfl
            dsimp only [isV] at ea
            have ei := hT 10 _ rfl rfl
            dsimp only [isV] at ei
            have hk0 : (0 : Int) ≤ ((k : Int) + 1) := by omega
            have hkn : ((k : Int) + 1) < 4 := by omega
            simp only [Act.put, List.setIfInBounds_toArray, List.set_cons_succ, List.set_cons_zero, ea, ei] at hK
            go_simp
            exact hK.out _ _ ⟨pb, k + 1, rfl, by simp; omega, Nat.le_refl _, Kp0.out.grown hS.2 (by intro e; injection e with e; omega)⟩ hS (only_refl _ _)
          refine AllTo.cons ?_ ?_
          · intro f v1 hS hT K hK
            obtain ⟨ba, ia, ea, ta, na, ka⟩ := hT 11 _ rfl rfl
            obtain ⟨s, hc, hsz⟩ := strs_at (n := 100) rfl ka ta
            simp only [Act.put, List.setIfInBounds_toArray, List.set_cons_succ, List.set_cons_zero, ea] at hK
            go_simp
            exact hK.out _ _ (⟨s, rfl, hsz⟩) hS (only_refl _ _)
          refine AllTo.cons ?_ ?_
          · intro f v1 hS hT K hK
            simp only [Act.put, List.setIfInBounds_toArray, List.set_cons_succ, List.set_cons_zero] at hK
            go_simp
            exact hK.out _ _ (rfl) hS (only_refl _ _)
          refine AllTo.cons ?_ ?_
          · intro f v1 hS hT K hK
            have e0 := hT 13 _ rfl rfl
            dsimp only [isV] at e0
            simp only [Act.put, List.setIfInBounds_toArray, List.set_cons_succ, List.set_cons_zero, e0] at hK
            go_simp
            refine (draw_any 20 B g v1 hS.1 (Nat.le_trans hWB hS.2.size)).mono ?_
            rintro e w1 ⟨x, rfl, x0, x1, _, hs1, ho1⟩
            exact hK.out _ _ ⟨x, rfl, x0, by have := x1 (by omega); omega⟩ (hS.go hs1 ho1) ho1
          refine AllTo.cons ?_ ?_
          · intro f v1 hS hT K hK
            obtain ⟨xb, eb, lb, ub⟩ := hT 14 _ rfl rfl
            have hw : IntKind.i64.wrap (1200 + xb) = 1200 + xb := IntWalk.i64_in _ (by omega)
            simp only [Act.put, List.setIfInBounds_toArray, List.set_cons_succ, List.set_cons_zero, eb] at hK
            go_simp
            exact hK.out _ _ (⟨_, rfl, by omega, by omega⟩) hS (only_refl _ _)
          refine AllTo.cons ?_ ?_
          · intro f v1 hS hT K hK
            simp only [Act.put, List.setIfInBounds_toArray, List.set_cons_succ, List.set_cons_zero] at hK
            go_simp
            exact hK.out _ _ (rfl) hS (only_refl _ _)
          refine AllTo.cons ?_ ?_
          · intro f v1 hS hT K hK
            have e0 := hT 16 _ rfl rfl
            dsimp only [isV] at e0
            simp only [Act.put, List.setIfInBounds_toArray, List.set_cons_succ, List.set_cons_zero, e0] at hK
            go_simp
            refine (draw_any 30 B g v1 hS.1 (Nat.le_trans hWB hS.2.size)).mono ?_
            rintro e w1 ⟨x, rfl, x0, x1, _, hs1, ho1⟩
            exact hK.out _ _ ⟨x, rfl, x0, by have := x1 (by omega); omega⟩ (hS.go hs1 ho1) ho1
          refine AllTo.cons ?_ ?_
          · intro f v1 hS hT K hK
            obtain ⟨xb, eb, lb, ub⟩ := hT 17 _ rfl rfl
            have hw : IntKind.i64.wrap (1215 + xb) = 1215 + xb := IntWalk.i64_in _ (by omega)
            simp only [Act.put, List.setIfInBounds_toArray, List.set_cons_succ, List.set_cons_zero, eb] at hK
            go_simp
            exact hK.out _ _ (⟨_, rfl, by omega, by omega⟩) hS (only_refl _ _)
          refine AllTo.cons ?_ ?_
          · intro f v1 hS hT K hK
            obtain ⟨xp0, ep0, lp0, up0⟩ := hT 15 _ rfl rfl
            obtain ⟨xp1, ep1, lp1, up1⟩ := hT 18 _ rfl rfl
            simp only [Act.put, List.setIfInBounds_toArray, List.set_cons_succ, List.set_cons_zero, ep0, ep1] at hK
            go_simp
            exact hK.out _ _ (⟨_, _, rfl, by omega, by omega, by omega, by omega⟩) hS (only_refl _ _)
          refine AllTo.cons ?_ ?_
          · intro f v1 hS hT K hK
            simp only [Act.put, List.setIfInBounds_toArray, List.set_cons_succ, List.set_cons_zero] at hK
            go_simp
            exact hK.out _ _ (rfl) hS (only_refl _ _)
          refine AllTo.cons ?_ ?_
          · intro f v1 hS hT K hK
            have e0 := hT 20 _ rfl rfl
            dsimp only [isV] at e0
            simp only [Act.put, List.setIfInBounds_toArray, List.set_cons_succ, List.set_cons_zero, e0] at hK
            go_simp
            refine (draw_any 9 B g v1 hS.1 (Nat.le_trans hWB hS.2.size)).mono ?_
            rintro e w1 ⟨x, rfl, x0, x1, _, hs1, ho1⟩
            exact hK.out _ _ ⟨x, rfl, x0, by have := x1 (by omega); omega⟩ (hS.go hs1 ho1) ho1
          refine AllTo.cons ?_ ?_
          · intro f v1 hS hT K hK
            obtain ⟨xb, eb, lb, ub⟩ := hT 21 _ rfl rfl
            have hw : IntKind.i64.wrap (1 + xb) = 1 + xb := IntWalk.i64_in _ (by omega)
            simp only [Act.put, List.setIfInBounds_toArray, List.set_cons_succ, List.set_cons_zero, eb] at hK
            go_simp
            exact hK.out _ _ (⟨_, rfl, by omega, by omega⟩) hS (only_refl _ _)
          refine AllTo.cons ?_ ?_
          · intro f v1 hS hT K hK
            obtain ⟨sp0, ep0, zp0⟩ := hT 3 _ rfl rfl
            obtain ⟨sp2, ep2, zp2⟩ := hT 7 _ rfl rfl
            obtain ⟨sp3, ep3, zp3⟩ := hT 12 _ rfl rfl
            obtain ⟨yp40, yp41, ep4, lp40, up40, lp41, up41⟩ := hT 19 _ rfl rfl
            obtain ⟨xp5, ep5, lp5, up5⟩ := hT 22 _ rfl rfl
            simp only [Act.put, List.setIfInBounds_toArray, List.set_cons_succ, List.set_cons_zero, ep0, ep2, ep3, ep4, ep5] at hK
            go_simp
            exact hK.out _ _ (⟨_, _, _, _, _, _, rfl, by omega, by omega, by omega, by omega, by omega, by omega, by omega, by omega, by omega⟩) hS (only_refl _ _)
          refine AllTo.cons ?_ ?_
          · intro f v1 hS hT K hK
            simp only [Act.put, List.setIfInBounds_toArray, List.set_cons_succ, List.set_cons_zero] at hK
            go_simp
            exact hK.out _ _ ⟨v1.heap.size, rfl, hS.2.size, Blk.new _ _ _⟩ (hS.alloc _).1 (hS.alloc _).2
          exact AllTo.nil
        · intro f v1 hS hT K hK
          skip
          have Kp1 := Lib.hid (Kp0.out.grown hS.2 (by intro e; injection e with e; omega))
          have S1 := Lib.hid hS.1
          have N1 := Lib.hid (only_trans N0.out hS.2)
          have szq1 := hS.2.size
          have O2 := Lib.hid (own_only HO.out hS.2 hgl)
          clear hS S0 N0 Kp0
          obtain ⟨cb, eb, nb, kb⟩ := hT 24 _ rfl
          obtain ⟨sr, pl, va, lo, hi, wt, ea, zsr, zpl, zva, llo, ulo, lhi, uhi, lwt, uwt⟩ := hT 23 _ rfl
          have Kc1 := Lib.hid kb
          obtain ⟨f0, f1, f2, f3, f4, f5, f6, f7, f8, f9, f10, f11, f12, f13, f14, f15, f16, f17, f18, f19, f20⟩ := facts_7 kb
          go_simp
          refine hK.out _ _ ?_
          clear kb hT hK K eb ea f0 f1 f2 f3 f4 f5 f6 f7 f8 f9 f10 f11 f12 f13 f14 f15 f16 f17 f18 f19 f20
          generalize hw : (((((((v1.setCell ⟨cb, 0, none⟩ (.string sr)).setCell ⟨cb, 1, none⟩ (.int .i64 1)).setCell ⟨cb, 2, none⟩ (.string pl)).setCell ⟨cb, 3, none⟩ (.string va)).setCell ⟨cb, 4, none⟩ (.int .i64 lo)).setCell ⟨cb, 5, none⟩ (.int .i64 hi)).setCell ⟨cb, 6, none⟩ (.int .i64 wt)) = w2
          obtain ⟨kq, kept⟩ := stored_7 Kc1.out S1.out N1.out (by omega) (by omega) (by omega) (.string sr) (.int .i64 1) (.string pl) (.string va) (.int .i64 lo) (.int .i64 hi) (.int .i64 wt) w2 hw.symm
          have Kp2 := Lib.hid (kept.blk (by omega) Kp1.out)
          have Kc2 := Lib.hid kq
          have S2 := Lib.hid kept.src
          have N2 := Lib.hid kept.only
          have szq2 := Nat.le_of_eq kept.size.symm
          have O3 := Lib.hid (kept.own O2.out (fun q hq => by have := (own_lt HO.out q hq).2; omega))
          clear O2
          clear kq kept hw S1 N1 Kp1 Kc1
          obtain ⟨q0, q1, q2, q3, q4, q5, q6⟩ := cells_7 Kc2.out
          go_wp2_with fail
          have HC := specClm_any (⟨sr, 1, pl, va, lo, hi, wt⟩ : Clm) ⟨by dsimp only; omega, by dsimp only; omega, by dsimp only; omega⟩ w2
          unfold Clm.val at HC
          dsimp only at HC
          refine HC.mono ?_; clear HC
          rintro e w9 ⟨rfl, b9⟩
          clear q0 q1 q2 q3 q4 q5 q6
          have Kp3 := Lib.hid (Kp2.out.below b9 Kp2.out.lt)
          have Kc3 := Lib.hid (Kc2.out.below b9 Kc2.out.lt)
          have S3 := Lib.hid (S2.out.below b9)
          have N3 := Lib.hid (only_trans N2.out (only_of_below b9))
          have szq3 : w2.heap.size ≤ w9.heap.size := b9.size
          have O9 := Lib.hid (own_below O3.out b9)
          clear b9 S2 N2 Kp2 Kc2
          clear O3
          have hsm : SmallC ⟨sr, 1, pl, va, lo, hi, wt⟩ := ⟨by dsimp only; omega, by dsimp only; omega, by dsimp only; omega, by dsimp only; omega, by dsimp only; omega, by dsimp only; omega, by dsimp only; omega⟩
          obtain ⟨q0, q1, q2, q3, q4, q5, q6⟩ := cells_7 Kc3.out
          cases hcl : clmB ⟨sr, 1, pl, va, lo, hi, wt⟩
          · go_wp2_with fail
            go_roundw
            case rel => exact ⟨L, n, k + 1, Bq, dq, by omega, by omega, HN.out, HL.out, rfl, O9.out, S3.out, N3.out, Kp3.out, HP.out, by go_num⟩
            case measure => simp [intOf]; omega
          · skip
            go_wp2_with (at_builtin; refine wpList_append_any _ rfl (.tmp 44) (.tmp 46) _ rfl w.heap.size 81 i0 _ 7 80 Tryz.underlying24 hi0 hz0 hz1 hz2 rfl (by omega) (.slice Bq n dq) n (clC L) rfl (O9.out.alloc _) _ (some ⟨w9.heap.size, 0, none⟩) 1 1 [.string sr, .int .i64 1, .string pl, .string va, .int .i64 lo, .int .i64 hi, .int .i64 wt] rfl (new_vs _ _ _ _ rfl) (by simp [Value.oneCell']) (by simp only [maxLen]; omega) (by omega) (by simp; omega) ?_; intro v4 w4 hown4 hg4 hat4; obtain ⟨B4, d4, rfl, _⟩ := own_shape hown4)
            have hlo : ∀ k, (Value.slice Bq n dq).ownBlock = some k → w.heap.size ≤ k := fun k hk => (own_lt O9.out k hk).1
            have S4 := Lib.hid ((S3.out.alloc _).grown hg4 (by intro e; have := hlo g e; omega) (fun k hk => by have := hlo k hk; omega))
            have N4 := Lib.hid (only_own (only_trans N3.out (only_of_below ((Below.refl w9.heap.size w9).alloc (Nat.le_refl _) _))) hg4 hlo)
            have O4 := Lib.hid (show w4.ownsRow w.heap.size 81 7 (.slice B4 (n + 1) d4) (n + 1) (clC (L ++ [⟨sr, 1, pl, va, lo, hi, wt⟩])) by simpa [clC, Clm.cells] using hown4)
            have KP4 := Lib.hid ((Kp3.out.alloc _).grown hg4 (fun e => HP.out pb e.symm rfl))
            have HP4 := Lib.hid (show ∀ q, (Value.slice B4 (n + 1) d4).ownBlock = some q → q ≠ pb from fun q hq => by rcases hat4 with h | h; (rw [h] at hq; exact HP.out q hq); (rw [h] at hq; injection hq with hq; simp at hq; omega))
            clear hown4 hg4 hat4 hlo
            go_roundw
            case rel => exact ⟨L ++ [(⟨sr, 1, pl, va, lo, hi, wt⟩ : Clm)], n + 1, k + 1, B4, d4, by omega, by omega, by have := HN.out; simp [Hid, this], (fun a ha => (List.mem_append.1 ha).elim (HL.out a) (fun h => by rw [List.mem_singleton] at h; rw [h]; exact hsm)), rfl, O4.out, S4.out, N4.out, KP4.out, HP4.out, by go_num⟩
            case measure => simp [intOf]; omega
      · have hno : ¬ (k : Int) < 3 := by omega
        go_wp2_with fail
        refine (listC_any B g wr S0.out (by omega)).mono ?_
        rintro e wm ⟨M, Cq, cq, rfl, hom, hM, hMl, hsm, hom2⟩
        have HM := Lib.hid hM
        have HQ := Lib.hid (show ∀ q, (Value.slice Cq M.length cq).ownBlock = some q → wr.heap.size ≤ q from fun q hq => (own_lt hom q hq).1)
        have OM := Lib.hid (Reads.of_own hom)
        have OMM := Lib.hid hom
        have O7 := Lib.hid (own_only HO.out hom2 hgl)
        have S7 := Lib.hid hsm
        have N7 := Lib.hid (only_trans N0.out hom2)
        have hz7 := hom2.size
        have HL7 := Lib.hid (fun q hq => (own_lt HO.out q hq).2)
        clear hom hom2 hsm hM
        go_wp2_with fail
        go_loopw [3, 8] (fun v3 v8 wr => ∃ (L : List Clm) (n k : Nat) (Bq : Option Addr) (dq : Nat), k ≤ M.length ∧ n ≤ 9 ∧ Hid (L.length = n) ∧ Hid (∀ s ∈ L, SmallC s) ∧ v3 = .slice Bq n dq ∧ Hid (wr.ownsRow w.heap.size 81 7 (.slice Bq n dq) n (clC L)) ∧ Hid (Src wr B g) ∧ Hid (Only w wr g) ∧ Hid (wr.ownsRow w.heap.size 81 7 (.slice Cq M.length cq) M.length (clC M)) ∧ Hid (∀ q r, (Value.slice Bq n dq).ownBlock = some q → (Value.slice Cq M.length cq).ownBlock = some r → q ≠ r) ∧ v8 = .int .i64 (k : Int)) (fun _ i _ => M.length - (intOf i).toNat)
        case atStart => exact ⟨L, n, 0, Bq, dq, by omega, by omega, HN.out, HL.out, rfl, O7.out, S7.out, N7.out, own_mono OMM.out (by omega), (fun q r h1 h2 => by have := HL7.out q h1; have := HQ.out r h2; omega), rfl⟩
        case round =>
          clear O7 S7 N7 HL7 HQ OM OMM HN HL
          obtain ⟨L, n, k, Bq, dq, hk, hn9, HN, HL, rfl, HO, S1, N1, OM, HD, rfl⟩ := hrel
          have hwB : w.heap.size ≤ wr.heap.size := N1.out.size
          by_cases hlt : k < M.length
          · by_cases h9 : n < 9
            · have hk1 : (k : Int) < (M.length : Int) := by omega
              have hn1 : (n : Int) < 9 := by omega
              obtain ⟨ab, ao, rfl, hadb, hcell⟩ := (Reads.of_own OM.out).2 (by omega)
              obtain ⟨e0, e1, e2, e3, e4, e5, e6⟩ := clC_get M k hlt
              have c0 := hcell _ _ e0
              have c1 := hcell _ _ e1
              have c2 := hcell _ _ e2
              have c3 := hcell _ _ e3
              have c4 := hcell _ _ e4
              have c5 := hcell _ _ e5
              have c6 := hcell _ _ e6
              rw [← Nat.add_assoc] at c1 c2 c3 c4 c5 c6
              clear hcell e0 e1 e2 e3 e4 e5 e6
              have hsm := HM.out _ (List.getElem_mem hlt)
              generalize M[k] = b at c0 c1 c2 c3 c4 c5 c6 hsm
              obtain ⟨sr, kd, pl, va, lo, hi, wt⟩ := b
              dsimp only at c0 c1 c2 c3 c4 c5 c6
              go_wp2_with (at_builtin; refine wpList_append_any _ rfl (.tmp 61) (.tmp 66) _ rfl w.heap.size 81 i0 _ 7 80 Tryz.underlying24 hi0 hz0 hz1 hz2 rfl (by omega) (.slice Bq n dq) n (clC L) rfl (HO.out.alloc _) _ (some ⟨wr.heap.size, 0, none⟩) 1 1 [.string sr, .int .i64 kd, .string pl, .string va, .int .i64 lo, .int .i64 hi, .int .i64 wt] rfl (new_vs _ _ _ _ rfl) (by simp [Value.oneCell']) (by simp only [maxLen]; omega) (by omega) (by simp; omega) ?_; intro v4 w4 hown4 hg4 hat4; obtain ⟨B4, d4, rfl, _⟩ := own_shape hown4)
              have hlo : ∀ k, (Value.slice Bq n dq).ownBlock = some k → w.heap.size ≤ k := fun k hk => (own_lt HO.out k hk).1
              have S4 := Lib.hid ((S1.out.alloc _).grown hg4 (by intro e; have := hlo g e; omega) (fun k hk => by have := hlo k hk; omega))
              have N4 := Lib.hid (only_own (only_trans N1.out (only_of_below ((Below.refl wr.heap.size wr).alloc (Nat.le_refl _) _))) hg4 hlo)
              have O4 := Lib.hid (show w4.ownsRow w.heap.size 81 7 (.slice B4 (n + 1) d4) (n + 1) (clC (L ++ [⟨sr, kd, pl, va, lo, hi, wt⟩])) by simpa [clC, Clm.cells] using hown4)
              have OM4 := Lib.hid ((own_below OM.out ((Below.refl wr.heap.size wr).alloc (Nat.le_refl _) _)).kept hg4 (by cases hq : (Value.slice Bq n dq).ownBlock with | none => (cases hr : (Value.slice (some ⟨ab, ao, none⟩) M.length cq).ownBlock with | none => exact .inl rfl | some r => exact .inr (by intro e; cases e)) | some q => (cases hr : (Value.slice (some ⟨ab, ao, none⟩) M.length cq).ownBlock with | none => exact .inl rfl | some r => exact .inr (by intro e; injection e with e; exact HD.out q r hq hr (by omega)))))
              have HD4 := Lib.hid (show ∀ q r, (Value.slice B4 (n + 1) d4).ownBlock = some q → (Value.slice (some ⟨ab, ao, none⟩) M.length cq).ownBlock = some r → q ≠ r from fun q r hq hr => by rcases hat4 with h | h; (rw [h] at hq; exact HD.out q r hq hr); (rw [h] at hq; injection hq with hq; have := (own_lt OM.out r hr).2; simp at hq; omega))
              clear hown4 hg4 hat4 hlo
              go_roundw
              case rel => exact ⟨L ++ [(⟨sr, kd, pl, va, lo, hi, wt⟩ : Clm)], n + 1, k + 1, B4, d4, by omega, by omega, by have := HN.out; simp [Hid, this], (fun a ha => (List.mem_append.1 ha).elim (HL.out a) (fun h => by rw [List.mem_singleton] at h; rw [h]; exact hsm)), rfl, O4.out, S4.out, N4.out, OM4.out, HD4.out, by go_num⟩
              case measure => simp [intOf]; omega
            · have hk1 : (k : Int) < (M.length : Int) := by omega
              have hn1 : ¬ (n : Int) < 9 := by omega
              go_wp2_with fail
              go_ret
              have hn := HN.out
              subst hn
              exact ⟨L, Bq, dq, rfl, HO.out, HL.out, by omega, S1.out, N1.out⟩
          · have hk1 : ¬ (k : Int) < (M.length : Int) := by omega
            go_wp2_with fail
            go_ret
            have hn := HN.out
            subst hn
            exact ⟨L, Bq, dq, rfl, HO.out, HL.out, by omega, S1.out, N1.out⟩
  · have hx0 : (x == 0) = false := by simp; omega
    have HN := Lib.hid (show ([] : List Clm).length = 0 from rfl)
    have HL := Lib.hid (show ∀ s ∈ ([] : List Clm), SmallC s from fun s h => by cases h)
    go_wp2_with fail
    refine (listC_any B g w1 S1.out (by omega)).mono ?_
    rintro e wm ⟨M, Cq, cq, rfl, hom, hM, hMl, hsm, hom2⟩
    have HM := Lib.hid hM
    have HQ := Lib.hid (show ∀ q, (Value.slice Cq M.length cq).ownBlock = some q → w1.heap.size ≤ q from fun q hq => (own_lt hom q hq).1)
    have OM := Lib.hid (Reads.of_own hom)
    have OMM := Lib.hid hom
    have O7 := Lib.hid (own_only O1.out hom2 hgl)
    have S7 := Lib.hid hsm
    have N7 := Lib.hid (only_trans N1.out hom2)
    have hz7 := hom2.size
    have HL7 := Lib.hid (fun q hq => (own_lt O1.out q hq).2)
    clear hom hom2 hsm hM
    go_wp2_with fail
    go_loopw [3, 8] (fun v3 v8 wr => ∃ (L : List Clm) (n k : Nat) (Bq : Option Addr) (dq : Nat), k ≤ M.length ∧ n ≤ 9 ∧ Hid (L.length = n) ∧ Hid (∀ s ∈ L, SmallC s) ∧ v3 = .slice Bq n dq ∧ Hid (wr.ownsRow w.heap.size 81 7 (.slice Bq n dq) n (clC L)) ∧ Hid (Src wr B g) ∧ Hid (Only w wr g) ∧ Hid (wr.ownsRow w.heap.size 81 7 (.slice Cq M.length cq) M.length (clC M)) ∧ Hid (∀ q r, (Value.slice Bq n dq).ownBlock = some q → (Value.slice Cq M.length cq).ownBlock = some r → q ≠ r) ∧ v8 = .int .i64 (k : Int)) (fun _ i _ => M.length - (intOf i).toNat)
    case atStart => exact ⟨[], 0, 0, _, 0, by omega, by omega, HN.out, HL.out, rfl, O7.out, S7.out, N7.out, own_mono OMM.out (by omega), (fun q r h1 h2 => by have := HL7.out q h1; have := HQ.out r h2; omega), rfl⟩
    case round =>
      clear O7 S7 N7 HL7 HQ OM OMM HN HL
      obtain ⟨L, n, k, Bq, dq, hk, hn9, HN, HL, rfl, HO, S1, N1, OM, HD, rfl⟩ := hrel
      have hwB : w.heap.size ≤ wr.heap.size := N1.out.size
      by_cases hlt : k < M.length
      · by_cases h9 : n < 9
        · have hk1 : (k : Int) < (M.length : Int) := by omega
          have hn1 : (n : Int) < 9 := by omega
          obtain ⟨ab, ao, rfl, hadb, hcell⟩ := (Reads.of_own OM.out).2 (by omega)
          obtain ⟨e0, e1, e2, e3, e4, e5, e6⟩ := clC_get M k hlt
          have c0 := hcell _ _ e0
          have c1 := hcell _ _ e1
          have c2 := hcell _ _ e2
          have c3 := hcell _ _ e3
          have c4 := hcell _ _ e4
          have c5 := hcell _ _ e5
          have c6 := hcell _ _ e6
          rw [← Nat.add_assoc] at c1 c2 c3 c4 c5 c6
          clear hcell e0 e1 e2 e3 e4 e5 e6
          have hsm := HM.out _ (List.getElem_mem hlt)
          generalize M[k] = b at c0 c1 c2 c3 c4 c5 c6 hsm
          obtain ⟨sr, kd, pl, va, lo, hi, wt⟩ := b
          dsimp only at c0 c1 c2 c3 c4 c5 c6
          go_wp2_with (at_builtin; refine wpList_append_any _ rfl (.tmp 61) (.tmp 66) _ rfl w.heap.size 81 i0 _ 7 80 Tryz.underlying24 hi0 hz0 hz1 hz2 rfl (by omega) (.slice Bq n dq) n (clC L) rfl (HO.out.alloc _) _ (some ⟨wr.heap.size, 0, none⟩) 1 1 [.string sr, .int .i64 kd, .string pl, .string va, .int .i64 lo, .int .i64 hi, .int .i64 wt] rfl (new_vs _ _ _ _ rfl) (by simp [Value.oneCell']) (by simp only [maxLen]; omega) (by omega) (by simp; omega) ?_; intro v4 w4 hown4 hg4 hat4; obtain ⟨B4, d4, rfl, _⟩ := own_shape hown4)
          have hlo : ∀ k, (Value.slice Bq n dq).ownBlock = some k → w.heap.size ≤ k := fun k hk => (own_lt HO.out k hk).1
          have S4 := Lib.hid ((S1.out.alloc _).grown hg4 (by intro e; have := hlo g e; omega) (fun k hk => by have := hlo k hk; omega))
          have N4 := Lib.hid (only_own (only_trans N1.out (only_of_below ((Below.refl wr.heap.size wr).alloc (Nat.le_refl _) _))) hg4 hlo)
          have O4 := Lib.hid (show w4.ownsRow w.heap.size 81 7 (.slice B4 (n + 1) d4) (n + 1) (clC (L ++ [⟨sr, kd, pl, va, lo, hi, wt⟩])) by simpa [clC, Clm.cells] using hown4)
          have OM4 := Lib.hid ((own_below OM.out ((Below.refl wr.heap.size wr).alloc (Nat.le_refl _) _)).kept hg4 (by cases hq : (Value.slice Bq n dq).ownBlock with | none => (cases hr : (Value.slice (some ⟨ab, ao, none⟩) M.length cq).ownBlock with | none => exact .inl rfl | some r => exact .inr (by intro e; cases e)) | some q => (cases hr : (Value.slice (some ⟨ab, ao, none⟩) M.length cq).ownBlock with | none => exact .inl rfl | some r => exact .inr (by intro e; injection e with e; exact HD.out q r hq hr (by omega)))))
          have HD4 := Lib.hid (show ∀ q r, (Value.slice B4 (n + 1) d4).ownBlock = some q → (Value.slice (some ⟨ab, ao, none⟩) M.length cq).ownBlock = some r → q ≠ r from fun q r hq hr => by rcases hat4 with h | h; (rw [h] at hq; exact HD.out q r hq hr); (rw [h] at hq; injection hq with hq; have := (own_lt OM.out r hr).2; simp at hq; omega))
          clear hown4 hg4 hat4 hlo
          go_roundw
          case rel => exact ⟨L ++ [(⟨sr, kd, pl, va, lo, hi, wt⟩ : Clm)], n + 1, k + 1, B4, d4, by omega, by omega, by have := HN.out; simp [Hid, this], (fun a ha => (List.mem_append.1 ha).elim (HL.out a) (fun h => by rw [List.mem_singleton] at h; rw [h]; exact hsm)), rfl, O4.out, S4.out, N4.out, OM4.out, HD4.out, by go_num⟩
          case measure => simp [intOf]; omega
        · have hk1 : (k : Int) < (M.length : Int) := by omega
          have hn1 : ¬ (n : Int) < 9 := by omega
          go_wp2_with fail
          go_ret
          have hn := HN.out
          subst hn
          exact ⟨L, Bq, dq, rfl, HO.out, HL.out, by omega, S1.out, N1.out⟩
      · have hk1 : ¬ (k : Int) < (M.length : Int) := by omega
        go_wp2_with fail
        go_ret
        have hn := HN.out
        subst hn
        exact ⟨L, Bq, dq, rfl, HO.out, HL.out, by omega, S1.out, N1.out⟩
end Go.Proofs.YtihhpmhigmegjaaGreatDoor

namespace Go.Proofs.YtihhpmhigmegjaaGreatDoor
open Go.ChangeShapes Go.WideShapes Go.ChangeAt Go.RowKit

/-- A fact with short texts. -/
def SmallF (f : Fct) : Prop := f.place.size ≤ 3000 ∧ f.val_.size ≤ 3000
/-- A drawn fact. -/
def DrawnF (w : World) (B g : Nat) (e : Ending) (w' : World) : Prop := ∃ f : Fct, e = .returned f.val ∧ SmallF f ∧ Src w' B g ∧ Only w w' g
set_option maxRecDepth 100000 in
set_option maxHeartbeats 4000000 in
theorem fact_any (xs : List Clm) (hxs : ∀ c ∈ xs, SmallC c) (hl : xs.length ≤ 20) (A : Option Addr) (c : Nat) (B g : Nat) (w : World) (hs : Src w B g) (hB : B ≤ w.heap.size) (hr : Reads w w.heap.size 7 A xs.length (clC xs)) (hg : ∀ b o, 0 < xs.length → A = some ⟨b, o, none⟩ → b ≠ g) :
    Calls Tryz.prog 61 #[.pointer (some ⟨g, 0, none⟩), .slice A xs.length c] w (DrawnF w B g) := by
  have mixed : Tryz.prog.follows Departure.mixedOrders = true := by kernel_rfl
  have hgl := hs.lt
  have HX := Lib.hid hxs; clear hxs
  have HS := Lib.hid hs; clear hs
  have HR := Lib.hid (show ∀ W, Only w W g → ∀ i, (hi : i < xs.length) → ∃ b o, A = some ⟨b, o, none⟩ ∧ ∀ j u, (clC xs)[j]? = some u → W.cell? ⟨b, o + j, none⟩ = some u from fun W hW i hi => by
    obtain ⟨b, o, hA, hb, hc⟩ := hr.2 (by omega)
    refine ⟨b, o, hA, fun j u hu => ?_⟩
    have hne := hg b o (by omega) hA
    rw [World.cell?_of_block (hW.block b hb (by intro e; injection e with e; exact hne e))]
    exact hc j u hu)
  clear hr hg
  have KN := Lib.hid (blks_one w 26 #[.int .i64 0, .string ⟨#[]⟩, .string ⟨#[]⟩, .int .i64 0])
  go_enter Tryz.func61, Tryz.ntmps61
  go_upto_region 1 with (fail)
  generalize hW : w.alloc (.cells #[.int .i64 0, .string ⟨#[]⟩, .string ⟨#[]⟩, .int .i64 0] 26) = w0
  obtain ⟨b0, bw, hwz⟩ := KN.out w0 hW.symm
  have hwz := Nat.le_of_eq hwz.symm
  clear hW KN
  have N0 := Lib.hid (only_of_below bw : Only w w0 g)
  have S0 := Lib.hid (HS.out.below bw)
  have Kr0 := Lib.hid b0
  clear bw b0
  have hWB : B ≤ w0.heap.size := by omega
  have hgW : g < w0.heap.size := by omega
  have hS0 : SrcOnly w0 B g w0.drew := SrcOnly.drew ⟨S0.out, only_refl _ _⟩
  refine' wp_region_slots (SrcOnly w0 B g) (fun w w' => Only w w' g) [isV (.pointer (some ⟨g, 0, none⟩)), isInt (0) (1), isRow 9 w0.heap.size [.string ⟨#[97, 115, 104]⟩, .string ⟨#[98, 114, 105, 103]⟩, .string ⟨#[99, 111, 114, 107]⟩], isV (.pointer (some ⟨g, 0, none⟩)), isInt (0) (2), isAt 9 w0.heap.size [.string ⟨#[97, 115, 104]⟩, .string ⟨#[98, 114, 105, 103]⟩, .string ⟨#[99, 111, 114, 107]⟩], isStr 100, isRow 9 w0.heap.size [.string ⟨#[97, 115, 104]⟩, .string ⟨#[100, 101, 118, 97]⟩, .string ⟨#[110, 101, 119, 116, 111, 110]⟩], isV (.pointer (some ⟨g, 0, none⟩)), isInt (0) (2), isAt 9 w0.heap.size [.string ⟨#[97, 115, 104]⟩, .string ⟨#[100, 101, 118, 97]⟩, .string ⟨#[110, 101, 119, 116, 111, 110]⟩], isStr 100, isV (.pointer (some ⟨g, 0, none⟩)), isInt (1200) (3001), (fun v _ => ∃ (y0 : Int) (y1 : ByteArray) (y2 : ByteArray) (y3 : Int), v = .agg #[.int .i64 y0, .string y1, .string y2, .int .i64 y3] ∧ 0 ≤ y0 ∧ y0 ≤ 1 ∧ y1.size ≤ 100 ∧ y2.size ≤ 100 ∧ 1200 ≤ y3 ∧ y3 ≤ 3001), isBox 26 w0.heap.size [.int .i64 0, .string ⟨#[]⟩, .string ⟨#[]⟩, .int .i64 0]] mixed (by kernel_rfl) (by kernel_rfl) hS0 ?_ _ _ ?_ ?_ ?_
  · exact AllStable.cons (stable_V _ _) (AllStable.cons (stable_Int _ _ _) (AllStable.cons (stable_Row _ (by omega) _ _) (AllStable.cons (stable_V _ _) (AllStable.cons (stable_Int _ _ _) (AllStable.cons (stable_At _ (by omega) _ _) (AllStable.cons (stable_Str _ _) (AllStable.cons (stable_Row _ (by omega) _ _) (AllStable.cons (stable_V _ _) (AllStable.cons (stable_Int _ _ _) (AllStable.cons (stable_At _ (by omega) _ _) (AllStable.cons (stable_Str _ _) (AllStable.cons (stable_V _ _) (AllStable.cons (stable_Int _ _ _) (AllStable.cons (stable_pure _) (AllStable.cons (stable_Box _ (by omega) _ _) (AllStable.nil))))))))))))))))
  rotate_left 2
  · intro f; simp only [lay, List.setIfInBounds_toArray, List.set_cons_succ, List.set_cons_zero, Nat.reduceAdd]; exact rfl
  · refine AllTo.cons ?_ ?_
    · intro f v1 hS hT K hK
      simp only [Act.put, List.setIfInBounds_toArray, List.set_cons_succ, List.set_cons_zero] at hK
      go_simp
      exact hK.out _ _ (rfl) hS (only_refl _ _)
    refine AllTo.cons ?_ ?_
    · intro f v1 hS hT K hK
      have e0 := hT 0 _ rfl rfl
      dsimp only [isV] at e0
      simp only [Act.put, List.setIfInBounds_toArray, List.set_cons_succ, List.set_cons_zero, e0] at hK
      go_simp
      refine (draw_any 2 B g v1 hS.1 (Nat.le_trans hWB hS.2.size)).mono ?_
      rintro e w1 ⟨x, rfl, x0, x1, _, hs1, ho1⟩
      exact hK.out _ _ ⟨x, rfl, x0, by have := x1 (by omega); omega⟩ (hS.go hs1 ho1) ho1
    refine AllTo.cons ?_ ?_
    · intro f v1 hS hT K hK
      simp only [Act.put, List.setIfInBounds_toArray, List.set_cons_succ, List.set_cons_zero] at hK
      go_simp
      exact hK.out _ _ ⟨v1.heap.size, rfl, hS.2.size, Blk.new _ _ _⟩ (hS.alloc _).1 (hS.alloc _).2
    refine AllTo.cons ?_ ?_
    · intro f v1 hS hT K hK
      simp only [Act.put, List.setIfInBounds_toArray, List.set_cons_succ, List.set_cons_zero] at hK
      go_simp
      exact hK.out _ _ (rfl) hS (only_refl _ _)
    refine AllTo.cons ?_ ?_
    · intro f v1 hS hT K hK
      have e0 := hT 3 _ rfl rfl
      dsimp only [isV] at e0
      simp only [Act.put, List.setIfInBounds_toArray, List.set_cons_succ, List.set_cons_zero, e0] at hK
      go_simp
      refine (draw_any 3 B g v1 hS.1 (Nat.le_trans hWB hS.2.size)).mono ?_
      rintro e w1 ⟨x, rfl, x0, x1, _, hs1, ho1⟩
      exact hK.out _ _ ⟨x, rfl, x0, by have := x1 (by omega); omega⟩ (hS.go hs1 ho1) ho1
    refine AllTo.cons ?_ ?_
    · intro f v1 hS hT K hK
      obtain ⟨ba, ea, na, ka⟩ := hT 2 _ rfl rfl
      obtain ⟨xi, ei, li, ui⟩ := hT 4 _ rfl rfl
      obtain ⟨k, rfl⟩ : ∃ k : Nat, xi = k := ⟨xi.toNat, by omega⟩
      have hkn : (k : Int) < 3 := by omega
      simp only [Act.put, List.setIfInBounds_toArray, List.set_cons_succ, List.set_cons_zero, ea, ei] at hK
      go_simp
      exact hK.out _ _ ⟨ba, k, rfl, by simp; omega, na, ka⟩ hS (only_refl _ _)
    refine AllTo.cons ?_ ?_
    · intro f v1 hS hT K hK
      obtain ⟨ba, ia, ea, ta, na, ka⟩ := hT 5 _ rfl rfl
      obtain ⟨s, hc, hsz⟩ := strs_at (n := 100) rfl ka ta
      simp only [Act.put, List.setIfInBounds_toArray, List.set_cons_succ, List.set_cons_zero, ea] at hK
      go_simp
      exact hK.out _ _ (⟨s, rfl, hsz⟩) hS (only_refl _ _)
    refine AllTo.cons ?_ ?_
    · intro f v1 hS hT K hK
      simp only [Act.put, List.setIfInBounds_toArray, List.set_cons_succ, List.set_cons_zero] at hK
      go_simp
      exact hK.out _ _ ⟨v1.heap.size, rfl, hS.2.size, Blk.new _ _ _⟩ (hS.alloc _).1 (hS.alloc _).2
    refine AllTo.cons ?_ ?_
    · intro f v1 hS hT K hK
      simp only [Act.put, List.setIfInBounds_toArray, List.set_cons_succ, List.set_cons_zero] at hK
      go_simp
      exact hK.out _ _ (rfl) hS (only_refl _ _)
    refine AllTo.cons ?_ ?_
    · intro f v1 hS hT K hK
      have e0 := hT 8 _ rfl rfl
      dsimp only [isV] at e0
      simp only [Act.put, List.setIfInBounds_toArray, List.set_cons_succ, List.set_cons_zero, e0] at hK
      go_simp
      refine (draw_any 3 B g v1 hS.1 (Nat.le_trans hWB hS.2.size)).mono ?_
      rintro e w1 ⟨x, rfl, x0, x1, _, hs1, ho1⟩
      exact hK.out _ _ ⟨x, rfl, x0, by have := x1 (by omega); omega⟩ (hS.go hs1 ho1) ho1
    refine AllTo.cons ?_ ?_
    · intro f v1 hS hT K hK
      obtain ⟨ba, ea, na, ka⟩ := hT 7 _ rfl rfl
      obtain ⟨xi, ei, li, ui⟩ := hT 9 _ rfl rfl
      obtain ⟨k, rfl⟩ : ∃ k : Nat, xi = k := ⟨xi.toNat, by omega⟩
      have hkn : (k : Int) < 3 := by omega
      simp only [Act.put, List.setIfInBounds_toArray, List.set_cons_succ, List.set_cons_zero, ea, ei] at hK
      go_simp
      exact hK.out _ _ ⟨ba, k, rfl, by simp; omega, na, ka⟩ hS (only_refl _ _)
    refine AllTo.cons ?_ ?_
    · intro f v1 hS hT K hK
      obtain ⟨ba, ia, ea, ta, na, ka⟩ := hT 10 _ rfl rfl
      obtain ⟨s, hc, hsz⟩ := strs_at (n := 100) rfl ka ta
      simp only [Act.put, List.setIfInBounds_toArray, List.set_cons_succ, List.set_cons_zero, ea] at hK
      go_simp
      exact hK.out _ _ (⟨s, rfl, hsz⟩) hS (only_refl _ _)
    refine AllTo.cons ?_ ?_
    · intro f v1 hS hT K hK
      simp only [Act.put, List.setIfInBounds_toArray, List.set_cons_succ, List.set_cons_zero] at hK
      go_simp
      exact hK.out _ _ (rfl) hS (only_refl _ _)
    refine AllTo.cons ?_ ?_
    · intro f v1 hS hT K hK
      have e0 := hT 12 _ rfl rfl
      dsimp only [isV] at e0
      simp only [Act.put, List.setIfInBounds_toArray, List.set_cons_succ, List.set_cons_zero, e0] at hK
      go_simp
      refine (year_any B g v1 hS.1 (Nat.le_trans hWB hS.2.size)).mono ?_
      rintro e w1 ⟨x, rfl, x0, x1, hs1, ho1⟩
      exact hK.out _ _ (⟨x, rfl, by omega, by omega⟩) (hS.go hs1 ho1) ho1
    refine AllTo.cons ?_ ?_
    · intro f v1 hS hT K hK
      obtain ⟨xp0, ep0, lp0, up0⟩ := hT 1 _ rfl rfl
      obtain ⟨sp1, ep1, zp1⟩ := hT 6 _ rfl rfl
      obtain ⟨sp2, ep2, zp2⟩ := hT 11 _ rfl rfl
      obtain ⟨xp3, ep3, lp3, up3⟩ := hT 13 _ rfl rfl
      simp only [Act.put, List.setIfInBounds_toArray, List.set_cons_succ, List.set_cons_zero, ep0, ep1, ep2, ep3] at hK
      go_simp
      exact hK.out _ _ (⟨_, _, _, _, rfl, by omega, by omega, by omega, by omega, by omega, by omega⟩) hS (only_refl _ _)
    refine AllTo.cons ?_ ?_
    · intro f v1 hS hT K hK
      simp only [Act.put, List.setIfInBounds_toArray, List.set_cons_succ, List.set_cons_zero] at hK
      go_simp
      exact hK.out _ _ ⟨v1.heap.size, rfl, hS.2.size, Blk.new _ _ _⟩ (hS.alloc _).1 (hS.alloc _).2
    exact AllTo.nil
  · intro f v1 hS hT K hK
    skip
    have Kr1 := Lib.hid (Kr0.out.grown hS.2 (by intro e; injection e with e; omega))
    have S1 := Lib.hid hS.1
    have N1 := Lib.hid (only_trans N0.out hS.2)
    have szq1 := hS.2.size
    clear hS S0 N0 Kr0
    obtain ⟨fb, eb, nb, kb⟩ := hT 15 _ rfl
    obtain ⟨kd, pl, va, yr, ea, lkd, ukd, zpl, zva, lyr, uyr⟩ := hT 14 _ rfl
    have Kf1 := Lib.hid kb
    obtain ⟨f0, f1, f2, f3, f4, f5, f6, f7, f8, f9, f10, f11⟩ := facts_4 kb
    go_simp
    refine hK.out _ _ ?_
    clear kb hT hK K eb ea f0 f1 f2 f3 f4 f5 f6 f7 f8 f9 f10 f11
    generalize hw : ((((v1.setCell ⟨fb, 0, none⟩ (.int .i64 kd)).setCell ⟨fb, 1, none⟩ (.string pl)).setCell ⟨fb, 2, none⟩ (.string va)).setCell ⟨fb, 3, none⟩ (.int .i64 yr)) = w2
    obtain ⟨kq, kept⟩ := stored_4 Kf1.out S1.out N1.out (by omega) (by omega) (by omega) (.int .i64 kd) (.string pl) (.string va) (.int .i64 yr) w2 hw.symm
    have Kr2 := Lib.hid (kept.blk (by omega) Kr1.out)
    have Kf2 := Lib.hid kq
    have S2 := Lib.hid kept.src
    have N2 := Lib.hid kept.only
    have szq2 := Nat.le_of_eq kept.size.symm
    clear kq kept hw S1 N1 Kr1 Kf1
    by_cases hn : 0 < xs.length
    · have hn1 : (0 : Int) < (xs.length : Int) := by omega
      go_wp2_with fail
      refine (draw_any 3 B g w2 S2.out (by omega)).mono ?_
      rintro e w3 ⟨z, rfl, z0, z1, _, hs3, ho3⟩
      have hz := z1 (by omega)
      clear z1
      have Kr3 := Lib.hid ((Kr2.out).grown ho3 (by intro e; injection e with e; omega))
      have Kf3 := Lib.hid ((Kf2.out).grown ho3 (by intro e; injection e with e; omega))
      have N3 := Lib.hid (only_trans N2.out ho3)
      have S3 := Lib.hid hs3
      have szq3 : w2.heap.size ≤ w3.heap.size := by have := ho3.size; (try simp at this); omega
      clear ho3 hs3 S2 N2 Kr2 Kf2
      by_cases hz : 0 < z
      · skip
        go_wp2_with fail
        refine (draw_any (xs.length : Int) B g w3 S3.out (by omega)).mono ?_
        rintro e w4 ⟨y, rfl, y0, y1, y2, hsq, hoq⟩
        have hy : y < (xs.length : Int) := by
          by_cases h1 : (1 : Int) < xs.length
          · exact y1 h1
          · have := y2 (by omega); omega
        clear y1 y2
        obtain ⟨i, rfl⟩ : ∃ i : Nat, y = i := ⟨y.toNat, by omega⟩
        have Kr4 := Lib.hid ((Kr3.out).grown hoq (by intro e; injection e with e; omega))
        have Kf4 := Lib.hid ((Kf3.out).grown hoq (by intro e; injection e with e; omega))
        have N4 := Lib.hid (only_trans N3.out hoq)
        have S4 := Lib.hid hsq
        have szq4 : w3.heap.size ≤ w4.heap.size := by have := hoq.size; (try simp at this); omega
        clear hoq hsq S3 N3 Kr3 Kf3
        have hi : i < xs.length := by omega
        obtain ⟨ab, ao, rfl, hcell⟩ := HR.out w4 N4.out i hi
        obtain ⟨e0, e1, e2, e3, e4, e5, e6⟩ := clC_get xs i hi
        have c0 := hcell _ _ e0
        have c1 := hcell _ _ e1
        have c2 := hcell _ _ e2
        have c3 := hcell _ _ e3
        have c4 := hcell _ _ e4
        have c5 := hcell _ _ e5
        have c6 := hcell _ _ e6
        rw [← Nat.add_assoc] at c1 c2 c3 c4 c5 c6
        clear hcell e0 e1 e2 e3 e4 e5 e6 HR
        have hsm := HX.out _ (List.getElem_mem hi)
        generalize xs[i] = b at c0 c1 c2 c3 c4 c5 c6 hsm
        obtain ⟨sr, ck, cp, cv, lo, hh, wt⟩ := b
        dsimp only [SmallC] at c0 c1 c2 c3 c4 c5 c6 hsm
        obtain ⟨m0, m1, m2, m3, m4, m5, m6⟩ := hsm
        have hfl := Kf4.out.lt
        go_upto_region 4 with (fail)
        generalize hW3 : w4.alloc (.cells #[.string sr, .int .i64 ck, .string cp, .string cv, .int .i64 lo, .int .i64 hh, .int .i64 wt] 81) = w5
        have Kc5 := Lib.hid (show Blk w5 w4.heap.size 81 #[.string sr, .int .i64 ck, .string cp, .string cv, .int .i64 lo, .int .i64 hh, .int .i64 wt] by rw [← hW3]; exact Blk.new _ _ _)
        have Kr5 := Lib.hid (show Blk w5 w.heap.size 26 #[.int .i64 0, .string ⟨#[]⟩, .string ⟨#[]⟩, .int .i64 0] by rw [← hW3]; exact Kr4.out.alloc _)
        have Kf5 := Lib.hid (show Blk w5 fb 26 #[.int .i64 kd, .string pl, .string va, .int .i64 yr] by rw [← hW3]; exact Kf4.out.alloc _)
        have S5 := Lib.hid (show Src w5 B g by rw [← hW3]; exact S4.out.alloc _)
        have N5 := Lib.hid (show Only w w5 g by rw [← hW3]; exact only_trans N4.out (only_of_below ((Below.refl _ _).alloc (Nat.le_refl _) _)))
        have szq5 : w4.heap.size + 1 ≤ w5.heap.size := Kc5.out.lt
        clear hW3 Kr4 Kf4 S4 N4 c0 c1 c2 c3 c4 c5 c6
        go_upto_region 4 with (fail)
        have hWB : B ≤ w5.heap.size := by omega
        have hgW : g < w5.heap.size := by omega
        have hS0 : SrcOnly w5 B g w5.drew := SrcOnly.drew ⟨S5.out, only_refl _ _⟩
        refine' wp_region_slots (SrcOnly w5 B g) (fun w w' => Only w w' g) [isV (.pointer (some ⟨w4.heap.size, 1, none⟩)), isV (.int .i64 ck), isV (.pointer (some ⟨w4.heap.size, 2, none⟩)), isV (.string cp), isV (.pointer (some ⟨w4.heap.size, 3, none⟩)), isV (.string cv), isV (.pointer (some ⟨g, 0, none⟩)), isV (.pointer (some ⟨w4.heap.size, 4, none⟩)), isV (.pointer (some ⟨w4.heap.size, 4, none⟩)), isV (.int .i64 lo), isV (.pointer (some ⟨w4.heap.size, 4, none⟩)), isV (.pointer (some ⟨w4.heap.size, 5, none⟩)), isV (.int .i64 hh), isV (.pointer (some ⟨w4.heap.size, 4, none⟩)), isV (.pointer (some ⟨w4.heap.size, 5, none⟩)), isV (.int .i64 hh), isV (.int .i64 (hh + 1)), isRow 2 w5.heap.size [.int .i64 lo, .int .i64 hh, .int .i64 (hh + 1)], isInt (-10000) (10001), (fun v _ => ∃ (y3 : Int), v = .agg #[.int .i64 ck, .string cp, .string cv, .int .i64 y3] ∧ -10000 ≤ y3 ∧ y3 ≤ 10001)] mixed (by kernel_rfl) (by kernel_rfl) hS0 ?_ _ _ ?_ ?_ ?_
        · exact AllStable.cons (stable_V _ _) (AllStable.cons (stable_V _ _) (AllStable.cons (stable_V _ _) (AllStable.cons (stable_V _ _) (AllStable.cons (stable_V _ _) (AllStable.cons (stable_V _ _) (AllStable.cons (stable_V _ _) (AllStable.cons (stable_V _ _) (AllStable.cons (stable_V _ _) (AllStable.cons (stable_V _ _) (AllStable.cons (stable_V _ _) (AllStable.cons (stable_V _ _) (AllStable.cons (stable_V _ _) (AllStable.cons (stable_V _ _) (AllStable.cons (stable_V _ _) (AllStable.cons (stable_V _ _) (AllStable.cons (stable_V _ _) (AllStable.cons (stable_Row _ (by omega) _ _) (AllStable.cons (stable_Int _ _ _) (AllStable.cons (stable_pure _) (AllStable.nil))))))))))))))))))))
        rotate_left 2
        · intro f; simp only [lay, List.setIfInBounds_toArray, List.set_cons_succ, List.set_cons_zero, Nat.reduceAdd]; exact rfl
        · refine AllTo.cons ?_ ?_
          · intro f v6 hS hT K hK
            simp only [Act.put, List.setIfInBounds_toArray, List.set_cons_succ, List.set_cons_zero] at hK
            go_simp
            exact hK.out _ _ (rfl) hS (only_refl _ _)
          refine AllTo.cons ?_ ?_
          · intro f v6 hS hT K hK
            have ea := hT 0 _ rfl rfl
            dsimp only [isV] at ea
            have hc : v6.cell? ⟨w4.heap.size, 1, none⟩ = some (.int .i64 ck) := by rw [(Kc5.out.grown hS.2 (by intro e; injection e with e; omega)).cell]; rfl
            simp only [Act.put, List.setIfInBounds_toArray, List.set_cons_succ, List.set_cons_zero, ea] at hK
            go_simp
            exact hK.out _ _ (rfl) hS (only_refl _ _)
          refine AllTo.cons ?_ ?_
          · intro f v6 hS hT K hK
            simp only [Act.put, List.setIfInBounds_toArray, List.set_cons_succ, List.set_cons_zero] at hK
            go_simp
            exact hK.out _ _ (rfl) hS (only_refl _ _)
          refine AllTo.cons ?_ ?_
          · intro f v6 hS hT K hK
            have ea := hT 2 _ rfl rfl
            dsimp only [isV] at ea
            have hc : v6.cell? ⟨w4.heap.size, 2, none⟩ = some (.string cp) := by rw [(Kc5.out.grown hS.2 (by intro e; injection e with e; omega)).cell]; rfl
            simp only [Act.put, List.setIfInBounds_toArray, List.set_cons_succ, List.set_cons_zero, ea] at hK
            go_simp
            exact hK.out _ _ (rfl) hS (only_refl _ _)
          refine AllTo.cons ?_ ?_
          · intro f v6 hS hT K hK
            simp only [Act.put, List.setIfInBounds_toArray, List.set_cons_succ, List.set_cons_zero] at hK
            go_simp
            exact hK.out _ _ (rfl) hS (only_refl _ _)
          refine AllTo.cons ?_ ?_
          · intro f v6 hS hT K hK
            have ea := hT 4 _ rfl rfl
            dsimp only [isV] at ea
            have hc : v6.cell? ⟨w4.heap.size, 3, none⟩ = some (.string cv) := by rw [(Kc5.out.grown hS.2 (by intro e; injection e with e; omega)).cell]; rfl
            simp only [Act.put, List.setIfInBounds_toArray, List.set_cons_succ, List.set_cons_zero, ea] at hK
            go_simp
            exact hK.out _ _ (rfl) hS (only_refl _ _)
          refine AllTo.cons ?_ ?_
          · intro f v6 hS hT K hK
            simp only [Act.put, List.setIfInBounds_toArray, List.set_cons_succ, List.set_cons_zero] at hK
            go_simp
            exact hK.out _ _ (rfl) hS (only_refl _ _)
          refine AllTo.cons ?_ ?_
          · intro f v6 hS hT K hK
            simp only [Act.put, List.setIfInBounds_toArray, List.set_cons_succ, List.set_cons_zero] at hK
            go_simp
            exact hK.out _ _ (rfl) hS (only_refl _ _)
          refine AllTo.cons ?_ ?_
          · intro f v6 hS hT K hK
            have ea := hT 7 _ rfl rfl
            dsimp only [isV] at ea
            simp only [Act.put, List.setIfInBounds_toArray, List.set_cons_succ, List.set_cons_zero, ea] at hK
            go_simp
            exact hK.out _ _ (rfl) hS (only_refl _ _)
          refine AllTo.cons ?_ ?_
          · intro f v6 hS hT K hK
            have ea := hT 8 _ rfl rfl
            dsimp only [isV] at ea
            have hc : v6.cell? ⟨w4.heap.size, 4, none⟩ = some (.int .i64 lo) := by rw [(Kc5.out.grown hS.2 (by intro e; injection e with e; omega)).cell]; rfl
            simp only [Act.put, List.setIfInBounds_toArray, List.set_cons_succ, List.set_cons_zero, ea] at hK
            go_simp
            exact hK.out _ _ (rfl) hS (only_refl _ _)
          refine AllTo.cons ?_ ?_
          · intro f v6 hS hT K hK
            simp only [Act.put, List.setIfInBounds_toArray, List.set_cons_succ, List.set_cons_zero] at hK
            go_simp
            exact hK.out _ _ (rfl) hS (only_refl _ _)
          refine AllTo.cons ?_ ?_
          · intro f v6 hS hT K hK
            have ea := hT 10 _ rfl rfl
            dsimp only [isV] at ea
            simp only [Act.put, List.setIfInBounds_toArray, List.set_cons_succ, List.set_cons_zero, ea] at hK
            go_simp
            exact hK.out _ _ (rfl) hS (only_refl _ _)
          refine AllTo.cons ?_ ?_
          · intro f v6 hS hT K hK
            have ea := hT 11 _ rfl rfl
            dsimp only [isV] at ea
            have hc : v6.cell? ⟨w4.heap.size, 5, none⟩ = some (.int .i64 hh) := by rw [(Kc5.out.grown hS.2 (by intro e; injection e with e; omega)).cell]; rfl
            simp only [Act.put, List.setIfInBounds_toArray, List.set_cons_succ, List.set_cons_zero, ea] at hK
            go_simp
            exact hK.out _ _ (rfl) hS (only_refl _ _)
          refine AllTo.cons ?_ ?_
          · intro f v6 hS hT K hK
            simp only [Act.put, List.setIfInBounds_toArray, List.set_cons_succ, List.set_cons_zero] at hK
            go_simp
            exact hK.out _ _ (rfl) hS (only_refl _ _)
          refine AllTo.cons ?_ ?_
          · intro f v6 hS hT K hK
            have ea := hT 13 _ rfl rfl
            dsimp only [isV] at ea
            simp only [Act.put, List.setIfInBounds_toArray, List.set_cons_succ, List.set_cons_zero, ea] at hK
            go_simp
            exact hK.out _ _ (rfl) hS (only_refl _ _)
          refine AllTo.cons ?_ ?_
          · intro f v6 hS hT K hK
            have ea := hT 14 _ rfl rfl
            dsimp only [isV] at ea
            have hc : v6.cell? ⟨w4.heap.size, 5, none⟩ = some (.int .i64 hh) := by rw [(Kc5.out.grown hS.2 (by intro e; injection e with e; omega)).cell]; rfl
            simp only [Act.put, List.setIfInBounds_toArray, List.set_cons_succ, List.set_cons_zero, ea] at hK
            go_simp
            exact hK.out _ _ (rfl) hS (only_refl _ _)
          refine AllTo.cons ?_ ?_
          · intro f v6 hS hT K hK
            have ea := hT 15 _ rfl rfl
            dsimp only [isV] at ea
            have hw : IntKind.i64.wrap (hh + 1) = hh + 1 := IntWalk.i64_in _ (by omega)
            simp only [Act.put, List.setIfInBounds_toArray, List.set_cons_succ, List.set_cons_zero, ea] at hK
            go_simp
            exact hK.out _ _ (rfl) hS (only_refl _ _)
          refine AllTo.cons ?_ ?_
          · intro f v6 hS hT K hK
            have ep0 := hT 9 _ rfl rfl
            dsimp only [isV] at ep0
            have ep1 := hT 12 _ rfl rfl
            dsimp only [isV] at ep1
            have ep2 := hT 16 _ rfl rfl
            dsimp only [isV] at ep2
            simp only [Act.put, List.setIfInBounds_toArray, List.set_cons_succ, List.set_cons_zero, ep0, ep1, ep2] at hK
            go_simp
            exact hK.out _ _ ⟨v6.heap.size, rfl, hS.2.size, Blk.new _ _ _⟩ (hS.alloc _).1 (hS.alloc _).2
          refine AllTo.cons ?_ ?_
          · intro f v6 hS hT K hK
            have e0 := hT 6 _ rfl rfl
            dsimp only [isV] at e0
            obtain ⟨b1, e1, n1, k1⟩ := hT 17 _ rfl rfl
            simp only [Act.put, List.setIfInBounds_toArray, List.set_cons_succ, List.set_cons_zero, e0, e1] at hK
            go_simp
            refine (pick_any [lo, hh, (hh + 1)] _ _ B g v6 hS.1 (Nat.le_trans hWB hS.2.size) (by simp) (by simp) k1 (by omega)).mono ?_
            rintro e w1 ⟨x, rfl, hx, hs1, ho1⟩
            simp only [List.mem_cons, List.not_mem_nil, or_false] at hx
            exact hK.out _ _ ⟨x, rfl, by omega, by omega⟩ (hS.go hs1 ho1) ho1
          refine AllTo.cons ?_ ?_
          · intro f v6 hS hT K hK
            have ep0 := hT 1 _ rfl rfl
            dsimp only [isV] at ep0
            have ep1 := hT 3 _ rfl rfl
            dsimp only [isV] at ep1
            have ep2 := hT 5 _ rfl rfl
            dsimp only [isV] at ep2
            obtain ⟨xp3, ep3, lp3, up3⟩ := hT 18 _ rfl rfl
            simp only [Act.put, List.setIfInBounds_toArray, List.set_cons_succ, List.set_cons_zero, ep0, ep1, ep2, ep3] at hK
            go_simp
            exact hK.out _ _ (⟨_, rfl, by omega, by omega⟩) hS (only_refl _ _)
          exact AllTo.nil
        · intro f v6 hS hT K hK
          skip
          have Kr6 := Lib.hid (Kr5.out.grown hS.2 (by intro e; injection e with e; omega))
          have Kf6 := Lib.hid (Kf5.out.grown hS.2 (by intro e; injection e with e; omega))
          have Kc6 := Lib.hid (Kc5.out.grown hS.2 (by intro e; injection e with e; omega))
          have S6 := Lib.hid hS.1
          have N6 := Lib.hid (only_trans N5.out hS.2)
          have szq6 := hS.2.size
          clear hS S5 N5 Kr5 Kf5 Kc5
          obtain ⟨yd, ea, lyd, uyd⟩ := hT 19 _ rfl
          obtain ⟨f0, f1, f2, f3, f4, f5, f6, f7, f8, f9, f10, f11⟩ := facts_4 Kf6.out
          go_simp
          refine hK.out _ _ ?_
          clear hT hK K ea f0 f1 f2 f3 f4 f5 f6 f7 f8 f9 f10 f11
          generalize hw : ((((v6.setCell ⟨fb, 0, none⟩ (.int .i64 ck)).setCell ⟨fb, 1, none⟩ (.string cp)).setCell ⟨fb, 2, none⟩ (.string cv)).setCell ⟨fb, 3, none⟩ (.int .i64 yd)) = w7
          obtain ⟨kq, kept⟩ := stored_4 Kf6.out S6.out N6.out (by omega) (by omega) (by omega) (.int .i64 ck) (.string cp) (.string cv) (.int .i64 yd) w7 hw.symm
          have Kr7 := Lib.hid (kept.blk (by omega) Kr6.out)
          have Kf7 := Lib.hid kq
          have Kc7 := Lib.hid (kept.blk (by omega) Kc6.out)
          have S7 := Lib.hid kept.src
          have N7 := Lib.hid kept.only
          have szq7 := Nat.le_of_eq kept.size.symm
          clear kq kept hw S6 N6 Kr6 Kf6 Kc6
          go_wp2_with fail
          refine (draw_any 24 B g w7 S7.out (by omega)).mono ?_
          rintro e w8 ⟨u, rfl, u0, u1, _, hs8, ho8⟩
          have hu := u1 (by omega)
          clear u1
          have Kr8 := Lib.hid ((Kr7.out).grown ho8 (by intro e; injection e with e; omega))
          have Kf8 := Lib.hid ((Kf7.out).grown ho8 (by intro e; injection e with e; omega))
          have Kc8 := Lib.hid ((Kc7.out).grown ho8 (by intro e; injection e with e; omega))
          have N8 := Lib.hid (only_trans N7.out ho8)
          have S8 := Lib.hid hs8
          have szq8 : w7.heap.size ≤ w8.heap.size := by have := ho8.size; (try simp at this); omega
          clear ho8 hs8 S7 N7 Kr7 Kf7 Kc7
          by_cases hu0 : u = 0
          · subst hu0
            go_wp2_with fail
            refine (phrase_any B g w8 S8.out (by omega)).mono ?_
            rintro e w9 ⟨ph, rfl, hph, hsq, hoq⟩
            have Kr9 := Lib.hid ((Kr8.out).grown hoq (by intro e; injection e with e; omega))
            have Kf9 := Lib.hid ((Kf8.out).grown hoq (by intro e; injection e with e; omega))
            have Kc9 := Lib.hid ((Kc8.out).grown hoq (by intro e; injection e with e; omega))
            have N9 := Lib.hid (only_trans N8.out hoq)
            have S9 := Lib.hid hsq
            have szq9 : w8.heap.size ≤ w9.heap.size := by have := hoq.size; (try simp at this); omega
            clear hoq hsq S8 N8 Kr8 Kf8 Kc8
            have fz := Kf9.out.frozen 2
            obtain ⟨cf0, cf1, cf2, cf3⟩ := cells_4 Kf9.out
            go_upto_region 7 with (fail)
            clear fz cf0 cf1 cf2 cf3
            generalize hw : w9.setCell ⟨fb, 2, none⟩ (.string ph) = w10
            obtain ⟨kq, kept⟩ := cell_4_2 Kf9.out S9.out N9.out (by omega) (by omega) (by omega) (.string ph) w10 hw.symm
            have Kr10 := Lib.hid (kept.blk (by omega) Kr9.out)
            have Kf10 := Lib.hid kq
            have Kc10 := Lib.hid (kept.blk (by omega) Kc9.out)
            have S10 := Lib.hid kept.src
            have N10 := Lib.hid kept.only
            have szq10 := Nat.le_of_eq kept.size.symm
            clear kq kept hw S9 N9 Kr9 Kf9 Kc9
            obtain ⟨q0, q1, q2, q3⟩ := cells_4 Kf10.out
            obtain ⟨fr0, fr1, fr2, fr3, fr4, fr5, fr6, fr7, fr8, fr9, fr10, fr11⟩ := facts_4 Kr10.out
            go_wp2_with fail
            obtain ⟨kq, kept⟩ := stored_4 Kr10.out S10.out N10.out (by omega) (by omega) (by omega) (.int .i64 ck) (.string cp) (.string ph) (.int .i64 yd) _ rfl
            exact bodyPost_ret (v := .agg #[.int .i64 ck, .string cp, .string ph, .int .i64 yd]) (by simp [results, Tryz.results61, go_sem, fr8, fr9, fr10, fr11]) rfl ⟨⟨ck, cp, ph, yd⟩, rfl, ⟨by dsimp only; omega, by dsimp only; omega⟩, kept.src, kept.only⟩
          · have hu1 : (u == 0) = false := by simp; omega
            obtain ⟨q0, q1, q2, q3⟩ := cells_4 Kf8.out
            obtain ⟨fr0, fr1, fr2, fr3, fr4, fr5, fr6, fr7, fr8, fr9, fr10, fr11⟩ := facts_4 Kr8.out
            go_wp2_with fail
            obtain ⟨kq, kept⟩ := stored_4 Kr8.out S8.out N8.out (by omega) (by omega) (by omega) (.int .i64 ck) (.string cp) (.string cv) (.int .i64 yd) _ rfl
            exact bodyPost_ret (v := .agg #[.int .i64 ck, .string cp, .string cv, .int .i64 yd]) (by simp [results, Tryz.results61, go_sem, fr8, fr9, fr10, fr11]) rfl ⟨⟨ck, cp, cv, yd⟩, rfl, ⟨by dsimp only; omega, by dsimp only; omega⟩, kept.src, kept.only⟩
      · skip
        go_wp2_with fail
        refine (draw_any 24 B g w3 S3.out (by omega)).mono ?_
        rintro e w4 ⟨u, rfl, u0, u1, _, hs4, ho4⟩
        have hu := u1 (by omega)
        clear u1
        have Kr4 := Lib.hid ((Kr3.out).grown ho4 (by intro e; injection e with e; omega))
        have Kf4 := Lib.hid ((Kf3.out).grown ho4 (by intro e; injection e with e; omega))
        have N4 := Lib.hid (only_trans N3.out ho4)
        have S4 := Lib.hid hs4
        have szq4 : w3.heap.size ≤ w4.heap.size := by have := ho4.size; (try simp at this); omega
        clear ho4 hs4 S3 N3 Kr3 Kf3
        by_cases hu0 : u = 0
        · subst hu0
          go_wp2_with fail
          refine (phrase_any B g w4 S4.out (by omega)).mono ?_
          rintro e w5 ⟨ph, rfl, hph, hsq, hoq⟩
          have Kr5 := Lib.hid ((Kr4.out).grown hoq (by intro e; injection e with e; omega))
          have Kf5 := Lib.hid ((Kf4.out).grown hoq (by intro e; injection e with e; omega))
          have N5 := Lib.hid (only_trans N4.out hoq)
          have S5 := Lib.hid hsq
          have szq5 : w4.heap.size ≤ w5.heap.size := by have := hoq.size; (try simp at this); omega
          clear hoq hsq S4 N4 Kr4 Kf4
          have fz := Kf5.out.frozen 2
          obtain ⟨cf0, cf1, cf2, cf3⟩ := cells_4 Kf5.out
          go_upto_region 7 with (fail)
          clear fz cf0 cf1 cf2 cf3
          generalize hw : w5.setCell ⟨fb, 2, none⟩ (.string ph) = w6
          obtain ⟨kq, kept⟩ := cell_4_2 Kf5.out S5.out N5.out (by omega) (by omega) (by omega) (.string ph) w6 hw.symm
          have Kr6 := Lib.hid (kept.blk (by omega) Kr5.out)
          have Kf6 := Lib.hid kq
          have S6 := Lib.hid kept.src
          have N6 := Lib.hid kept.only
          have szq6 := Nat.le_of_eq kept.size.symm
          clear kq kept hw S5 N5 Kr5 Kf5
          obtain ⟨q0, q1, q2, q3⟩ := cells_4 Kf6.out
          obtain ⟨fr0, fr1, fr2, fr3, fr4, fr5, fr6, fr7, fr8, fr9, fr10, fr11⟩ := facts_4 Kr6.out
          go_wp2_with fail
          obtain ⟨kq, kept⟩ := stored_4 Kr6.out S6.out N6.out (by omega) (by omega) (by omega) (.int .i64 kd) (.string pl) (.string ph) (.int .i64 yr) _ rfl
          exact bodyPost_ret (v := .agg #[.int .i64 kd, .string pl, .string ph, .int .i64 yr]) (by simp [results, Tryz.results61, go_sem, fr8, fr9, fr10, fr11]) rfl ⟨⟨kd, pl, ph, yr⟩, rfl, ⟨by dsimp only; omega, by dsimp only; omega⟩, kept.src, kept.only⟩
        · have hu1 : (u == 0) = false := by simp; omega
          obtain ⟨q0, q1, q2, q3⟩ := cells_4 Kf4.out
          obtain ⟨fr0, fr1, fr2, fr3, fr4, fr5, fr6, fr7, fr8, fr9, fr10, fr11⟩ := facts_4 Kr4.out
          go_wp2_with fail
          obtain ⟨kq, kept⟩ := stored_4 Kr4.out S4.out N4.out (by omega) (by omega) (by omega) (.int .i64 kd) (.string pl) (.string va) (.int .i64 yr) _ rfl
          exact bodyPost_ret (v := .agg #[.int .i64 kd, .string pl, .string va, .int .i64 yr]) (by simp [results, Tryz.results61, go_sem, fr8, fr9, fr10, fr11]) rfl ⟨⟨kd, pl, va, yr⟩, rfl, ⟨by dsimp only; omega, by dsimp only; omega⟩, kept.src, kept.only⟩
    · have hn1 : ¬ (0 : Int) < (xs.length : Int) := by omega
      go_wp2_with fail
      refine (draw_any 24 B g w2 S2.out (by omega)).mono ?_
      rintro e w3 ⟨u, rfl, u0, u1, _, hs3, ho3⟩
      have hu := u1 (by omega)
      clear u1
      have Kr3 := Lib.hid ((Kr2.out).grown ho3 (by intro e; injection e with e; omega))
      have Kf3 := Lib.hid ((Kf2.out).grown ho3 (by intro e; injection e with e; omega))
      have N3 := Lib.hid (only_trans N2.out ho3)
      have S3 := Lib.hid hs3
      have szq3 : w2.heap.size ≤ w3.heap.size := by have := ho3.size; (try simp at this); omega
      clear ho3 hs3 S2 N2 Kr2 Kf2
      by_cases hu0 : u = 0
      · subst hu0
        go_wp2_with fail
        refine (phrase_any B g w3 S3.out (by omega)).mono ?_
        rintro e w4 ⟨ph, rfl, hph, hsq, hoq⟩
        have Kr4 := Lib.hid ((Kr3.out).grown hoq (by intro e; injection e with e; omega))
        have Kf4 := Lib.hid ((Kf3.out).grown hoq (by intro e; injection e with e; omega))
        have N4 := Lib.hid (only_trans N3.out hoq)
        have S4 := Lib.hid hsq
        have szq4 : w3.heap.size ≤ w4.heap.size := by have := hoq.size; (try simp at this); omega
        clear hoq hsq S3 N3 Kr3 Kf3
        have fz := Kf4.out.frozen 2
        obtain ⟨cf0, cf1, cf2, cf3⟩ := cells_4 Kf4.out
        go_upto_region 7 with (fail)
        clear fz cf0 cf1 cf2 cf3
        generalize hw : w4.setCell ⟨fb, 2, none⟩ (.string ph) = w5
        obtain ⟨kq, kept⟩ := cell_4_2 Kf4.out S4.out N4.out (by omega) (by omega) (by omega) (.string ph) w5 hw.symm
        have Kr5 := Lib.hid (kept.blk (by omega) Kr4.out)
        have Kf5 := Lib.hid kq
        have S5 := Lib.hid kept.src
        have N5 := Lib.hid kept.only
        have szq5 := Nat.le_of_eq kept.size.symm
        clear kq kept hw S4 N4 Kr4 Kf4
        obtain ⟨q0, q1, q2, q3⟩ := cells_4 Kf5.out
        obtain ⟨fr0, fr1, fr2, fr3, fr4, fr5, fr6, fr7, fr8, fr9, fr10, fr11⟩ := facts_4 Kr5.out
        go_wp2_with fail
        obtain ⟨kq, kept⟩ := stored_4 Kr5.out S5.out N5.out (by omega) (by omega) (by omega) (.int .i64 kd) (.string pl) (.string ph) (.int .i64 yr) _ rfl
        exact bodyPost_ret (v := .agg #[.int .i64 kd, .string pl, .string ph, .int .i64 yr]) (by simp [results, Tryz.results61, go_sem, fr8, fr9, fr10, fr11]) rfl ⟨⟨kd, pl, ph, yr⟩, rfl, ⟨by dsimp only; omega, by dsimp only; omega⟩, kept.src, kept.only⟩
      · have hu1 : (u == 0) = false := by simp; omega
        obtain ⟨q0, q1, q2, q3⟩ := cells_4 Kf3.out
        obtain ⟨fr0, fr1, fr2, fr3, fr4, fr5, fr6, fr7, fr8, fr9, fr10, fr11⟩ := facts_4 Kr3.out
        go_wp2_with fail
        obtain ⟨kq, kept⟩ := stored_4 Kr3.out S3.out N3.out (by omega) (by omega) (by omega) (.int .i64 kd) (.string pl) (.string va) (.int .i64 yr) _ rfl
        exact bodyPost_ret (v := .agg #[.int .i64 kd, .string pl, .string va, .int .i64 yr]) (by simp [results, Tryz.results61, go_sem, fr8, fr9, fr10, fr11]) rfl ⟨⟨kd, pl, va, yr⟩, rfl, ⟨by dsimp only; omega, by dsimp only; omega⟩, kept.src, kept.only⟩
end Go.Proofs.YtihhpmhigmegjaaGreatDoor

namespace Go.Proofs.YtihhpmhigmegjaaGreatDoor
open Go.ChangeShapes Go.WideShapes Go.ChangeAt Go.RowKit

theorem own_farC {w : World} {base : Nat} {e : TypeId} {size n : Nat} {v : Value} {xs : List Value} (h : w.ownsRow base e size v n xs) (r i : Nat) (u : Value) (hr : r < base) : (w.setCell ⟨r, i, none⟩ u).ownsRow base e size v n xs :=
  own_only h (only_set (only_refl w r) i u) hr
/-- Drawn claims and a drawn fact. -/
def DrawnCF (w : World) (e : Ending) (w' : World) : Prop := ∃ (L : List Clm) (f : Fct) (Bq : Option Addr) (dq : Nat), e = .returned (.tuple #[.slice Bq L.length dq, f.val]) ∧ w'.ownsRow w.heap.size 81 7 (.slice Bq L.length dq) L.length (clC L) ∧ (∀ s ∈ L, SmallC s) ∧ L.length ≤ 20 ∧ SmallF f ∧ Below w.heap.size w w'
theorem below_chain4 {a w : World} (h : Below a.heap.size a w) (r : Nat) (hr : a.heap.size ≤ r) (v0 v1 v2 v3 : Value) : Below a.heap.size a ((((w.setCell ⟨r, 0, none⟩ v0).setCell ⟨r, 1, none⟩ v1).setCell ⟨r, 2, none⟩ v2).setCell ⟨r, 3, none⟩ v3) :=
  (((h.setCell (p := ⟨r, 0, none⟩) hr v0).setCell (p := ⟨r, 1, none⟩) hr v1).setCell (p := ⟨r, 2, none⟩) hr v2).setCell (p := ⟨r, 3, none⟩) hr v3
set_option maxRecDepth 100000 in
set_option maxHeartbeats 1000000 in
theorem drawTell_any (A : Option Addr) (n c : Nat) (w : World) (h : Code8 w A n) :
    Calls Tryz.prog 44 #[.slice A n c] w (DrawnCF w) := by
  have HC := Lib.hid h; clear h
  have KN := Lib.hid (blks_one w 26 #[.int .i64 0, .string ⟨#[]⟩, .string ⟨#[]⟩, .int .i64 0])
  go_enter Tryz.func44, Tryz.ntmps44
  go_wp2_with fail
  generalize hW : w.alloc (.cells #[.int .i64 0, .string ⟨#[]⟩, .string ⟨#[]⟩, .int .i64 0] 26) = W
  obtain ⟨b0, bw, hwz⟩ := KN.out W hW.symm
  have hwz := Nat.le_of_eq hwz.symm
  clear hW KN
  refine (from_code A n c W (HC.out.below bw)).mono ?_
  rintro e w1 ⟨g, rfl, hs1, b1⟩
  have hgb := hs1.base
  have hgl := hs1.lt
  have B1 := Lib.hid (bw.trans (b1.mono bw.size))
  have K1 := Lib.hid (b0.below b1 b0.lt)
  have S1 := Lib.hid hs1
  have hz1 := b1.size
  clear b0 bw hs1 b1
  go_wp2_with fail
  refine (list21_any W.heap.size g w1 S1.out hz1).mono ?_
  rintro e w2 ⟨L, Bq, dq, rfl, own, hsm, hln, hs2, ho2⟩
  have hz2 := ho2.size
  have K2 := Lib.hid (K1.out.grown ho2 (by intro e; injection e with e; omega))
  have B2 := Lib.hid (B1.out.trans (only_below ho2 (B := w.heap.size) (by omega) (by omega)))
  have OW := Lib.hid own
  have S2 := Lib.hid hs2
  have HL := Lib.hid hsm
  have HF := Lib.hid (fact_any L hsm hln Bq dq W.heap.size g w2 hs2 (by omega) (Reads.of_own own) (fun b o hb hA => by subst hA; have := (own_lt own b rfl).1; omega))
  clear ho2 own hs2 hsm
  go_wp2_with fail
  refine HF.out.mono ?_
  rintro e w3 ⟨⟨kd, pl, va, yr⟩, rfl, ⟨f0, f1⟩, hs3, ho3⟩
  have hz3 := ho3.size
  have K3 := Lib.hid (K2.out.grown ho3 (by intro e; injection e with e; omega))
  have B3 := Lib.hid (B2.out.trans (only_below ho3 (B := w.heap.size) (by omega) (by omega)))
  have O3 := Lib.hid (own_only OW.out ho3 hgl)
  unfold Fct.val
  dsimp only at f0 f1 ⊢
  clear hs3 ho3 HF
  obtain ⟨r0, r1, r2, r3, r4, r5, r6, r7, r8, r9, r10, r11⟩ := facts_4 K3.out
  go_wp2_with fail
  exact bodyPost_ret (v := .tuple #[.slice Bq L.length dq, .agg #[.int .i64 kd, .string pl, .string va, .int .i64 yr]]) (by simp [results, Tryz.results44, go_sem, r8, r9, r10, r11]) rfl ⟨L, ⟨kd, pl, va, yr⟩, Bq, dq, rfl, own_mono (own_farC (own_farC (own_farC (own_farC O3.out _ _ _ (by omega)) _ _ _ (by omega)) _ _ _ (by omega)) _ _ _ (by omega)) (by omega), HL.out, hln, ⟨f0, f1⟩, below_chain4 B3.out _ (Nat.le_refl _) _ _ _ _⟩
set_option maxRecDepth 100000 in
theorem drawCer_any (A : Option Addr) (n c : Nat) (w : World) (h : Code8 w A n) :
    Calls Tryz.prog 7 #[.slice A n c] w (DrawnCF w) := by
  have HC := Lib.hid h; clear h
  have KN := Lib.hid (blks_one w 26 #[.int .i64 0, .string ⟨#[]⟩, .string ⟨#[]⟩, .int .i64 0])
  go_enter Tryz.func7, Tryz.ntmps7
  go_wp2_with fail
  generalize hW : w.alloc (.cells #[.int .i64 0, .string ⟨#[]⟩, .string ⟨#[]⟩, .int .i64 0] 26) = W
  obtain ⟨b0, bw, hwz⟩ := KN.out W hW.symm
  have hwz := Nat.le_of_eq hwz.symm
  clear hW KN
  refine (drawTell_any A n c W (HC.out.below bw)).mono ?_
  rintro e w3 ⟨L, ⟨kd, pl, va, yr⟩, Bq, dq, rfl, own, hsm, hln, ⟨f0, f1⟩, b1⟩
  have K3 := Lib.hid (b0.below b1 b0.lt)
  have B3 := Lib.hid (bw.trans (b1.mono bw.size))
  have O3 := Lib.hid own
  have HL := Lib.hid hsm
  unfold Fct.val
  dsimp only at f0 f1 ⊢
  clear own hsm b0 bw b1
  obtain ⟨r0, r1, r2, r3, r4, r5, r6, r7, r8, r9, r10, r11⟩ := facts_4 K3.out
  go_wp2_with fail
  exact bodyPost_ret (v := .tuple #[.slice Bq L.length dq, .agg #[.int .i64 kd, .string pl, .string va, .int .i64 yr]]) (by simp [results, Tryz.results7, go_sem, r8, r9, r10, r11]) rfl ⟨L, ⟨kd, pl, va, yr⟩, Bq, dq, rfl, own_mono (own_farC (own_farC (own_farC (own_farC O3.out _ _ _ (by omega)) _ _ _ (by omega)) _ _ _ (by omega)) _ _ _ (by omega)) (by omega), HL.out, hln, ⟨f0, f1⟩, below_chain4 B3.out _ (Nat.le_refl _) _ _ _ _⟩
set_option maxRecDepth 100000 in
set_option maxHeartbeats 1000000 in
theorem drawFct_any (A : Option Addr) (n c : Nat) (w : World) (h : Code8 w A n) :
    Calls Tryz.prog 18 #[.slice A n c] w (fun e w' => ∃ f : Fct, e = .returned f.val ∧ SmallF f ∧ Below w.heap.size w w') := by
  have HC := Lib.hid h; clear h
  have KN := Lib.hid (blks_one w 26 #[.int .i64 0, .string ⟨#[]⟩, .string ⟨#[]⟩, .int .i64 0])
  go_enter Tryz.func18, Tryz.ntmps18
  go_wp2_with fail
  generalize hW : w.alloc (.cells #[.int .i64 0, .string ⟨#[]⟩, .string ⟨#[]⟩, .int .i64 0] 26) = W
  obtain ⟨b0, bw, hwz⟩ := KN.out W hW.symm
  have hwz := Nat.le_of_eq hwz.symm
  clear hW KN
  refine (from_code A n c W (HC.out.below bw)).mono ?_
  rintro e w1 ⟨g, rfl, hs1, b1⟩
  have hgb := hs1.base
  have hgl := hs1.lt
  have B1 := Lib.hid (bw.trans (b1.mono bw.size))
  have K1 := Lib.hid (b0.below b1 b0.lt)
  have S1 := Lib.hid hs1
  have hz1 := b1.size
  clear b0 bw hs1 b1
  go_wp2_with fail
  refine (list21_any W.heap.size g w1 S1.out hz1).mono ?_
  rintro e w2 ⟨L, Bq, dq, rfl, own, hsm, hln, hs2, ho2⟩
  have hz2 := ho2.size
  have K2 := Lib.hid (K1.out.grown ho2 (by intro e; injection e with e; omega))
  have B2 := Lib.hid (B1.out.trans (only_below ho2 (B := w.heap.size) (by omega) (by omega)))
  have HF := Lib.hid (fact_any L hsm hln Bq dq W.heap.size g w2 hs2 (by omega) (Reads.of_own own) (fun b o hb hA => by subst hA; have := (own_lt own b rfl).1; omega))
  clear ho2 own hs2 hsm
  go_wp2_with fail
  refine HF.out.mono ?_
  rintro e w3 ⟨⟨kd, pl, va, yr⟩, rfl, ⟨f0, f1⟩, hs3, ho3⟩
  have hz3 := ho3.size
  have K3 := Lib.hid (K2.out.grown ho3 (by intro e; injection e with e; omega))
  have B3 := Lib.hid (B2.out.trans (only_below ho3 (B := w.heap.size) (by omega) (by omega)))
  unfold Fct.val
  dsimp only at f0 f1 ⊢
  clear hs3 ho3 HF
  obtain ⟨r0, r1, r2, r3, r4, r5, r6, r7, r8, r9, r10, r11⟩ := facts_4 K3.out
  go_wp2_with fail
  exact bodyPost_ret (v := .agg #[.int .i64 kd, .string pl, .string va, .int .i64 yr]) (by simp [results, Tryz.results18, go_sem, r8, r9, r10, r11]) rfl ⟨⟨kd, pl, va, yr⟩, rfl, ⟨f0, f1⟩, below_chain4 B3.out _ (Nat.le_refl _) _ _ _ _⟩
end Go.Proofs.YtihhpmhigmegjaaGreatDoor
