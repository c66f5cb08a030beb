/- l26Good of the reference: a drawn entry. -/
import Derived.Test.YtihhpmhigmegjaaGreatDoorRows
import Derived.Test.YtihhpmhigmegjaaGreatDoorL0
import Derived.Test.YtihhpmhigmegjaaGreatDoorM0
import Derived.WalkKit
import Derived.ProofKit
import Derived.OpenShut
import Derived.BigQuiet
import Derived.Outline
import Derived.WalkSpells
import Derived.WalkLawsBesides
import Derived.Deep.DeepCutAuto
import Derived.Test.YtihhpmhigmegjaaGreatDoorRU
import Derived.Test.YtihhpmhigmegjaaGreatDoorRD
import Derived.Test.YtihhpmhigmegjaaGreatDoorFE0
namespace Go.Proofs.YtihhpmhigmegjaaGreatDoor
open Go.ChangeShapes Go.WideShapes Go.ChangeAt Go.RowKit

/-- An entry with a short text. -/
def SmallE (e : Ent) : Prop := e.text.size ≤ 3000
/-- A drawn entry. -/
def DrawnE (w : World) (B g : Nat) (e : Ending) (w' : World) : Prop := ∃ c : Ent, e = .returned c.val ∧ SmallE c ∧ Src w' B g ∧ Only w w' g
set_option maxRecDepth 100000 in
set_option maxHeartbeats 2000000 in
theorem goodE_any (B g : Nat) (w : World) (hs : Src w B g) (hB : B ≤ w.heap.size) :
    Calls Tryz.prog 133 #[.pointer (some ⟨g, 0, none⟩)] w (DrawnE w B g) := by
  have mixed : Tryz.prog.follows Departure.mixedOrders = true := by kernel_rfl
  have hgl := hs.lt
  have HS := Lib.hid hs; clear hs
  have KN := Lib.hid (blks_one w 45 #[.string ⟨#[]⟩, .int .i64 0, .int .i64 0, .int .i64 0])
  go_enter Tryz.func133, Tryz.ntmps133
  go_upto_region 1 with (fail)
  generalize hW : w.alloc (.cells #[.string ⟨#[]⟩, .int .i64 0, .int .i64 0, .int .i64 0] 45) = w0
  obtain ⟨b0, bw, hwz⟩ := KN.out w0 hW.symm
  have hwz := Nat.le_of_eq hwz.symm
  clear hW KN
  have N0 := Lib.hid (only_of_below bw : Only w w0 g)
  have S0 := Lib.hid (HS.out.below bw)
  have Kr0 := Lib.hid b0
  clear bw b0
  have hWB : B ≤ w0.heap.size := by omega
  have hgW : g < w0.heap.size := by omega
  have hS0 : SrcOnly w0 B g w0.drew := SrcOnly.drew ⟨S0.out, only_refl _ _⟩
  refine' wp_region_slots (SrcOnly w0 B g) (fun w w' => Only w w' g) [isV (.pointer (some ⟨g, 0, none⟩)), isStr 300, isRowT 9 w0.heap.size 4 300, isV (.pointer (some ⟨g, 0, none⟩)), isInt (0) (3), isAtT 9 w0.heap.size 4 300, isStr 300, isV (.pointer (some ⟨g, 0, none⟩)), isInt (0) (20), isInt (-10) (10), isV (.pointer (some ⟨g, 0, none⟩)), isInt (0) (20), isInt (-10) (10), (fun v _ => ∃ (y0 : Int) (y1 : Int), v = .agg #[.int .i64 y0, .int .i64 y1] ∧ -10 ≤ y0 ∧ y0 ≤ 10 ∧ -10 ≤ y1 ∧ y1 ≤ 10), isV (.pointer (some ⟨g, 0, none⟩)), isInt (0) (4), isInt (1200) (1204), (fun v _ => ∃ (y0 : ByteArray) (y1 : Int) (y2 : Int) (y3 : Int), v = .agg #[.string y0, .int .i64 y1, .int .i64 y2, .int .i64 y3] ∧ y0.size ≤ 300 ∧ -10 ≤ y1 ∧ y1 ≤ 10 ∧ -10 ≤ y2 ∧ y2 ≤ 10 ∧ 1200 ≤ y3 ∧ y3 ≤ 1204)] mixed (by kernel_rfl) (by kernel_rfl) hS0 ?_ _ _ ?_ ?_ ?_
  · exact AllStable.cons (stable_V _ _) (AllStable.cons (stable_Str _ _) (AllStable.cons (stable_RowT _ (by omega) _ _) (AllStable.cons (stable_V _ _) (AllStable.cons (stable_Int _ _ _) (AllStable.cons (stable_AtT _ (by omega) _ _) (AllStable.cons (stable_Str _ _) (AllStable.cons (stable_V _ _) (AllStable.cons (stable_Int _ _ _) (AllStable.cons (stable_Int _ _ _) (AllStable.cons (stable_V _ _) (AllStable.cons (stable_Int _ _ _) (AllStable.cons (stable_Int _ _ _) (AllStable.cons (stable_pure _) (AllStable.cons (stable_V _ _) (AllStable.cons (stable_Int _ _ _) (AllStable.cons (stable_Int _ _ _) (AllStable.cons (stable_pure _) (AllStable.nil))))))))))))))))))
  rotate_left 2
  · intro f; simp only [lay, List.setIfInBounds_toArray, List.set_cons_succ, List.set_cons_zero, Nat.reduceAdd]; exact rfl
  · refine AllTo.cons ?_ ?_
    · intro f v1 hS hT K hK
      simp only [Act.put, List.setIfInBounds_toArray, List.set_cons_succ, List.set_cons_zero] at hK
      go_simp
      exact hK.out _ _ (rfl) hS (only_refl _ _)
    refine AllTo.cons ?_ ?_
    · intro f v1 hS hT K hK
      have e0 := hT 0 _ rfl rfl
      dsimp only [isV] at e0
      simp only [Act.put, List.setIfInBounds_toArray, List.set_cons_succ, List.set_cons_zero, e0] at hK
      go_simp
      refine (good_any B g v1 hS.1 (Nat.le_trans hWB hS.2.size)).mono ?_
      rintro e w1 ⟨s, rfl, hz, hs1, ho1⟩
      exact hK.out _ _ (⟨s, rfl, hz⟩) (hS.go hs1 ho1) ho1
    refine AllTo.cons ?_ ?_
    · intro f v1 hS hT K hK
      obtain ⟨sp3, ep3, zp3⟩ := hT 1 _ rfl rfl
      simp only [Act.put, List.setIfInBounds_toArray, List.set_cons_succ, List.set_cons_zero, ep3] at hK
      go_simp
      exact hK.out _ _ ⟨[.string ⟨#[97, 115, 104]⟩, .string ⟨#[111, 108, 100, 32, 97, 115, 104]⟩, .string ⟨#[102, 111, 114, 100]⟩, .string sp3], v1.heap.size, rfl, rfl, strsB_of (by simp only [List.mem_cons, List.not_mem_nil, or_false]; rintro v (rfl | rfl | rfl | rfl) <;> first | exact ⟨_, rfl, by assumption⟩ | exact ⟨_, rfl, by decide⟩), hS.2.size, Blk.new _ _ _⟩ (hS.alloc _).1 (hS.alloc _).2
    refine AllTo.cons ?_ ?_
    · intro f v1 hS hT K hK
      simp only [Act.put, List.setIfInBounds_toArray, List.set_cons_succ, List.set_cons_zero] at hK
      go_simp
      exact hK.out _ _ (rfl) hS (only_refl _ _)
    refine AllTo.cons ?_ ?_
    · intro f v1 hS hT K hK
      have e0 := hT 3 _ rfl rfl
      dsimp only [isV] at e0
      simp only [Act.put, List.setIfInBounds_toArray, List.set_cons_succ, List.set_cons_zero, e0] at hK
      go_simp
      refine (draw_any 4 B g v1 hS.1 (Nat.le_trans hWB hS.2.size)).mono ?_
      rintro e w1 ⟨x, rfl, x0, x1, _, hs1, ho1⟩
      exact hK.out _ _ ⟨x, rfl, x0, by have := x1 (by omega); omega⟩ (hS.go hs1 ho1) ho1
    refine AllTo.cons ?_ ?_
    · intro f v1 hS hT K hK
      obtain ⟨csa, ba, ea, la, ta, na, ka⟩ := hT 2 _ rfl rfl
      obtain ⟨xi, ei, li, ui⟩ := hT 4 _ rfl rfl
      obtain ⟨k, rfl⟩ : ∃ k : Nat, xi = k := ⟨xi.toNat, by omega⟩
      have hkn : (k : Int) < 4 := by omega
      simp only [Act.put, List.setIfInBounds_toArray, List.set_cons_succ, List.set_cons_zero, ea, ei] at hK
      go_simp
      exact hK.out _ _ ⟨csa, ba, k, rfl, by omega, la, ta, na, ka⟩ hS (only_refl _ _)
    refine AllTo.cons ?_ ?_
    · intro f v1 hS hT K hK
      obtain ⟨csa, ba, ia, ea, ta, la, ya, na, ka⟩ := hT 5 _ rfl rfl
      obtain ⟨s, hc, hsz⟩ := strs_at (n := 300) ya ka (by rw [la]; exact ta)
      simp only [Act.put, List.setIfInBounds_toArray, List.set_cons_succ, List.set_cons_zero, ea] at hK
      go_simp
      exact hK.out _ _ (⟨s, rfl, hsz⟩) hS (only_refl _ _)
    refine AllTo.cons ?_ ?_
    · intro f v1 hS hT K hK
      simp only [Act.put, List.setIfInBounds_toArray, List.set_cons_succ, List.set_cons_zero] at hK
      go_simp
      exact hK.out _ _ (rfl) hS (only_refl _ _)
    refine AllTo.cons ?_ ?_
    · intro f v1 hS hT K hK
      have e0 := hT 7 _ rfl rfl
      dsimp only [isV] at e0
      simp only [Act.put, List.setIfInBounds_toArray, List.set_cons_succ, List.set_cons_zero, e0] at hK
      go_simp
      refine (draw_any 21 B g v1 hS.1 (Nat.le_trans hWB hS.2.size)).mono ?_
      rintro e w1 ⟨x, rfl, x0, x1, _, hs1, ho1⟩
      exact hK.out _ _ ⟨x, rfl, x0, by have := x1 (by omega); omega⟩ (hS.go hs1 ho1) ho1
    refine AllTo.cons ?_ ?_
    · intro f v1 hS hT K hK
      obtain ⟨xa, ea, la, ua⟩ := hT 8 _ rfl rfl
      have hw : IntKind.i64.wrap (xa - 10) = xa - 10 := IntWalk.i64_in _ (by omega)
      simp only [Act.put, List.setIfInBounds_toArray, List.set_cons_succ, List.set_cons_zero, ea] at hK
      go_simp
      exact hK.out _ _ (⟨_, rfl, by omega, by omega⟩) hS (only_refl _ _)
    refine AllTo.cons ?_ ?_
    · intro f v1 hS hT K hK
      simp only [Act.put, List.setIfInBounds_toArray, List.set_cons_succ, List.set_cons_zero] at hK
      go_simp
      exact hK.out _ _ (rfl) hS (only_refl _ _)
    refine AllTo.cons ?_ ?_
    · intro f v1 hS hT K hK
      have e0 := hT 10 _ rfl rfl
      dsimp only [isV] at e0
      simp only [Act.put, List.setIfInBounds_toArray, List.set_cons_succ, List.set_cons_zero, e0] at hK
      go_simp
      refine (draw_any 21 B g v1 hS.1 (Nat.le_trans hWB hS.2.size)).mono ?_
      rintro e w1 ⟨x, rfl, x0, x1, _, hs1, ho1⟩
      exact hK.out _ _ ⟨x, rfl, x0, by have := x1 (by omega); omega⟩ (hS.go hs1 ho1) ho1
    refine AllTo.cons ?_ ?_
    · intro f v1 hS hT K hK
      obtain ⟨xa, ea, la, ua⟩ := hT 11 _ rfl rfl
      have hw : IntKind.i64.wrap (xa - 10) = xa - 10 := IntWalk.i64_in _ (by omega)
      simp only [Act.put, List.setIfInBounds_toArray, List.set_cons_succ, List.set_cons_zero, ea] at hK
      go_simp
      exact hK.out _ _ (⟨_, rfl, by omega, by omega⟩) hS (only_refl _ _)
    refine AllTo.cons ?_ ?_
    · intro f v1 hS hT K hK
      obtain ⟨xp0, ep0, lp0, up0⟩ := hT 9 _ rfl rfl
      obtain ⟨xp1, ep1, lp1, up1⟩ := hT 12 _ rfl rfl
      simp only [Act.put, List.setIfInBounds_toArray, List.set_cons_succ, List.set_cons_zero, ep0, ep1] at hK
      go_simp
      exact hK.out _ _ (⟨_, _, rfl, by omega, by omega, by omega, by omega⟩) hS (only_refl _ _)
    refine AllTo.cons ?_ ?_
    · intro f v1 hS hT K hK
      simp only [Act.put, List.setIfInBounds_toArray, List.set_cons_succ, List.set_cons_zero] at hK
      go_simp
      exact hK.out _ _ (rfl) hS (only_refl _ _)
    refine AllTo.cons ?_ ?_
    · intro f v1 hS hT K hK
      have e0 := hT 14 _ rfl rfl
      dsimp only [isV] at e0
      simp only [Act.put, List.setIfInBounds_toArray, List.set_cons_succ, List.set_cons_zero, e0] at hK
      go_simp
      refine (draw_any 5 B g v1 hS.1 (Nat.le_trans hWB hS.2.size)).mono ?_
      rintro e w1 ⟨x, rfl, x0, x1, _, hs1, ho1⟩
      exact hK.out _ _ ⟨x, rfl, x0, by have := x1 (by omega); omega⟩ (hS.go hs1 ho1) ho1
    refine AllTo.cons ?_ ?_
    · intro f v1 hS hT K hK
      obtain ⟨xb, eb, lb, ub⟩ := hT 15 _ rfl rfl
      have hw : IntKind.i64.wrap (1200 + xb) = 1200 + xb := IntWalk.i64_in _ (by omega)
      simp only [Act.put, List.setIfInBounds_toArray, List.set_cons_succ, List.set_cons_zero, eb] at hK
      go_simp
      exact hK.out _ _ (⟨_, rfl, by omega, by omega⟩) hS (only_refl _ _)
    refine AllTo.cons ?_ ?_
    · intro f v1 hS hT K hK
      obtain ⟨sp0, ep0, zp0⟩ := hT 6 _ rfl rfl
      obtain ⟨yp10, yp11, ep1, lp10, up10, lp11, up11⟩ := hT 13 _ rfl rfl
      obtain ⟨xp2, ep2, lp2, up2⟩ := hT 16 _ rfl rfl
      simp only [Act.put, List.setIfInBounds_toArray, List.set_cons_succ, List.set_cons_zero, ep0, ep1, ep2] at hK
      go_simp
      exact hK.out _ _ (⟨_, _, _, _, rfl, by omega, by omega, by omega, by omega, by omega, by omega, by omega⟩) hS (only_refl _ _)
    exact AllTo.nil
  · intro f v1 hS hT K hK
    skip
    have Kr1 := Lib.hid (Kr0.out.grown hS.2 (by intro e; injection e with e; omega))
    have S1 := Lib.hid hS.1
    have N1 := Lib.hid (only_trans N0.out hS.2)
    have szq1 := hS.2.size
    clear hS S0 N0 Kr0
    obtain ⟨tx, x, y, si, ea, ztx, lx, ux, ly, uy, lsi, usi⟩ := hT 17 _ rfl
    obtain ⟨f0, f1, f2, f3, f4, f5, f6, f7, f8, f9, f10, f11⟩ := facts_4 Kr1.out
    go_simp
    refine hK.out _ _ ?_
    clear hT hK K ea f0 f1 f2 f3 f4 f5 f6 f7 f8 f9 f10 f11
    generalize hw : ((((v1.setCell ⟨w.heap.size, 0, none⟩ (.string tx)).setCell ⟨w.heap.size, 1, none⟩ (.int .i64 x)).setCell ⟨w.heap.size, 2, none⟩ (.int .i64 y)).setCell ⟨w.heap.size, 3, none⟩ (.int .i64 si)) = w2
    obtain ⟨kq, kept⟩ := stored_4 Kr1.out S1.out N1.out (by omega) (by omega) (by omega) (.string tx) (.int .i64 x) (.int .i64 y) (.int .i64 si) w2 hw.symm
    have Kr2 := Lib.hid kq
    have S2 := Lib.hid kept.src
    have N2 := Lib.hid kept.only
    have szq2 := Nat.le_of_eq kept.size.symm
    clear kq kept hw S1 N1 Kr1
    obtain ⟨q0, q1, q2, q3⟩ := cells_4 Kr2.out
    go_wp2_with fail
    exact bodyPost_ret (v := .agg #[.string tx, .int .i64 x, .int .i64 y, .int .i64 si]) (by simp [results, Tryz.results133, go_sem, q0, q1, q2, q3]) rfl ⟨⟨tx, x, y, si⟩, rfl, by dsimp only [SmallE]; omega, S2.out, N2.out⟩
end Go.Proofs.YtihhpmhigmegjaaGreatDoor
