/- l01DrawWord, l27Ballot of the reference: a drawn word, a drawn ballot. -/
import Derived.Test.YtihhpmhigmegjaaDoorRows
import Derived.Test.YtihhpmhigmegjaaDoorL0
import Derived.Test.YtihhpmhigmegjaaDoorM0
import Derived.WalkKit
import Derived.ProofKit
import Derived.OpenShut
import Derived.BigQuiet
import Derived.Outline
import Derived.WalkSpells
import Derived.WalkLawsBesides
import Derived.Deep.DeepCutAuto
import Derived.Test.YtihhpmhigmegjaaDoorRU
import Derived.Test.YtihhpmhigmegjaaDoorDR1
import Derived.Test.YtihhpmhigmegjaaDoorV0
namespace Go.Proofs.YtihhpmhigmegjaaDoor
open Go.ChangeShapes Go.WideShapes Go.ChangeAt Go.RowKit

set_option maxRecDepth 100000 in
set_option maxHeartbeats 1000000 in
theorem wordD_any (B g : Nat) (w : World) (hs : Src w B g) (hB : B ≤ w.heap.size) :
    Calls Tryd.prog 59 #[.pointer (some ⟨g, 0, none⟩)] w (DrawnS 300 w B g) := by
  have hgl := hs.lt
  have S0 := Lib.hid hs; clear hs
  have N0 := Lib.hid (only_refl w g)
  go_enter Tryd.func59, Tryd.ntmps59
  go_wp2_with fail
  refine (draw_any 30 B g w S0.out (by omega)).mono ?_
  rintro e w1 ⟨x, rfl, x0, x1, _, hs1, ho1⟩
  have hx := x1 (by omega)
  clear x1
  have N1 := Lib.hid (only_trans N0.out ho1)
  have S1 := Lib.hid hs1
  have szq1 : w.heap.size ≤ w1.heap.size := by have := ho1.size; (try simp at this); omega
  clear ho1 hs1 S0 N0
  by_cases hx0 : x = 0
  · subst hx0
    go_wp2_with fail
    have BU := Blk.new w1 9 #[.string ⟨#[]⟩, .string ⟨#[70, 111, 114, 100]⟩, .string ⟨#[97, 49]⟩, .string ⟨#[97, 98, 99, 100, 101, 102, 103, 104, 105, 106, 107, 108, 109, 110, 111, 112]⟩, .string ⟨#[97, 98, 99, 100, 101, 102, 103, 104, 105, 106, 107, 108, 109, 110, 111, 112, 113]⟩, .string ⟨#[97, 32, 98]⟩]
    refine (draw_any 6 B g _ (S1.out.alloc _) (by simp; omega)).mono ?_
    rintro e w2 ⟨y, rfl, y0, y1, _, hs2, ho2⟩
    obtain ⟨j, rfl⟩ : ∃ j : Nat, y = j := ⟨y.toNat, by omega⟩
    have hj : j < 6 := by have := y1 (by omega); omega
    obtain ⟨us, cu, zus⟩ := strs_at (n := 100) (cs := [.string ⟨#[]⟩, .string ⟨#[70, 111, 114, 100]⟩, .string ⟨#[97, 49]⟩, .string ⟨#[97, 98, 99, 100, 101, 102, 103, 104, 105, 106, 107, 108, 109, 110, 111, 112]⟩, .string ⟨#[97, 98, 99, 100, 101, 102, 103, 104, 105, 106, 107, 108, 109, 110, 111, 112, 113]⟩, .string ⟨#[97, 32, 98]⟩]) rfl (BU.grown ho2 (by intro e; injection e with e; omega)) (k := j) (by simp; omega)
    have hj0 : (0 : Int) ≤ (j : Int) := by omega
    have hjn : (j : Int) < 6 := by omega
    clear y0 y1 BU
    have N2 := Lib.hid (only_trans (only_trans N1.out (only_of_below ((Below.refl _ _).alloc (Nat.le_refl _) _))) ho2)
    have S2 := Lib.hid hs2
    have szq2 : w1.heap.size + 1 ≤ w2.heap.size := by have := ho2.size; (try simp at this); omega
    clear ho2 hs2 S1 N1
    go_wp2_with fail
    go_ret
    exact ⟨us, rfl, by omega, S2.out, N2.out⟩
  · have hx1 : (x == 0) = false := by simp [hx0]
    go_wp2_with fail
    refine (good_any B g w1 S1.out (by omega)).mono ?_
    rintro e w2 ⟨ph, rfl, hph, hsq, hoq⟩
    have N2 := Lib.hid (only_trans N1.out hoq)
    have S2 := Lib.hid hsq
    have szq2 : w1.heap.size ≤ w2.heap.size := by have := hoq.size; (try simp at this); omega
    clear hoq hsq S1 N1
    go_wp2_with fail
    go_ret
    exact ⟨ph, rfl, by omega, S2.out, N2.out⟩
/-- A ballot with a short name. -/
def SmallB (b : Bal) : Prop := b.name.size ≤ 300
/-- A drawn ballot. -/
def DrawnB (w : World) (B g : Nat) (e : Ending) (w' : World) : Prop := ∃ b : Bal, e = .returned b.val ∧ SmallB b ∧ Src w' B g ∧ Only w w' g
set_option maxRecDepth 100000 in
set_option maxHeartbeats 2000000 in
theorem ballot_any (B g : Nat) (w : World) (hs : Src w B g) (hB : B ≤ w.heap.size) :
    Calls Tryd.prog 38 #[.pointer (some ⟨g, 0, none⟩)] w (DrawnB w B g) := by
  have mixed : Tryd.prog.follows Departure.mixedOrders = true := by kernel_rfl
  have hgl := hs.lt
  have HS := Lib.hid hs; clear hs
  have KN := Lib.hid (blks_one w 32 #[.string ⟨#[]⟩, .int .i64 0, .int .i64 0])
  go_enter Tryd.func38, Tryd.ntmps38
  go_upto_region 1 with (fail)
  generalize hW : w.alloc (.cells #[.string ⟨#[]⟩, .int .i64 0, .int .i64 0] 32) = w0
  obtain ⟨b0, bw, hwz⟩ := KN.out w0 hW.symm
  have hwz := Nat.le_of_eq hwz.symm
  clear hW KN
  have N0 := Lib.hid (only_of_below bw : Only w w0 g)
  have S0 := Lib.hid (HS.out.below bw)
  have Kr0 := Lib.hid b0
  clear bw b0
  have hWB : B ≤ w0.heap.size := by omega
  have hgW : g < w0.heap.size := by omega
  have hS0 : SrcOnly w0 B g w0.drew := SrcOnly.drew ⟨S0.out, only_refl _ _⟩
  refine' wp_region_slots (SrcOnly w0 B g) (fun w w' => Only w w' g) [isRow 9 w0.heap.size [.string ⟨#[97, 100, 97]⟩, .string ⟨#[98, 101, 110]⟩, .string ⟨#[99, 108, 101, 111]⟩, .string ⟨#[100, 97, 110]⟩, .string ⟨#[101, 118, 97]⟩, .string ⟨#[102, 97, 121]⟩, .string ⟨#[103, 117, 115]⟩], isV (.pointer (some ⟨g, 0, none⟩)), isInt (0) (6), isAt 9 w0.heap.size [.string ⟨#[97, 100, 97]⟩, .string ⟨#[98, 101, 110]⟩, .string ⟨#[99, 108, 101, 111]⟩, .string ⟨#[100, 97, 110]⟩, .string ⟨#[101, 118, 97]⟩, .string ⟨#[102, 97, 121]⟩, .string ⟨#[103, 117, 115]⟩], isStr 100, isV (.pointer (some ⟨g, 0, none⟩)), isInt (0) (2), isInt (-1) (1), isV (.pointer (some ⟨g, 0, none⟩)), isV (.pointer (some ⟨g, 0, none⟩)), isInt (0) (8), isInt (1) (9), isRowN 2 w0.heap.size 4 (1) (9), isInt (1) (9), (fun v _ => ∃ (y0 : ByteArray) (y1 : Int) (y2 : Int), v = .agg #[.string y0, .int .i64 y1, .int .i64 y2] ∧ y0.size ≤ 100 ∧ -1 ≤ y1 ∧ y1 ≤ 1 ∧ 1 ≤ y2 ∧ y2 ≤ 9), isBox 32 w0.heap.size [.string ⟨#[]⟩, .int .i64 0, .int .i64 0]] mixed (by kernel_rfl) (by kernel_rfl) hS0 ?_ _ _ ?_ ?_ ?_
  · exact AllStable.cons (stable_Row _ (by omega) _ _) (AllStable.cons (stable_V _ _) (AllStable.cons (stable_Int _ _ _) (AllStable.cons (stable_At _ (by omega) _ _) (AllStable.cons (stable_Str _ _) (AllStable.cons (stable_V _ _) (AllStable.cons (stable_Int _ _ _) (AllStable.cons (stable_Int _ _ _) (AllStable.cons (stable_V _ _) (AllStable.cons (stable_V _ _) (AllStable.cons (stable_Int _ _ _) (AllStable.cons (stable_Int _ _ _) (AllStable.cons (stable_RowN _ (by omega) _ _) (AllStable.cons (stable_Int _ _ _) (AllStable.cons (stable_pure _) (AllStable.cons (stable_Box _ (by omega) _ _) (AllStable.nil))))))))))))))))
  rotate_left 2
  · intro f; simp only [lay, List.setIfInBounds_toArray, List.set_cons_succ, List.set_cons_zero, Nat.reduceAdd]; exact rfl
  · refine AllTo.cons ?_ ?_
    · intro f v1 hS hT K hK
      simp only [Act.put, List.setIfInBounds_toArray, List.set_cons_succ, List.set_cons_zero] at hK
      go_simp
      exact hK.out _ _ ⟨v1.heap.size, rfl, hS.2.size, Blk.new _ _ _⟩ (hS.alloc _).1 (hS.alloc _).2
    refine AllTo.cons ?_ ?_
    · intro f v1 hS hT K hK
      simp only [Act.put, List.setIfInBounds_toArray, List.set_cons_succ, List.set_cons_zero] at hK
      go_simp
      exact hK.out _ _ (rfl) hS (only_refl _ _)
    refine AllTo.cons ?_ ?_
    · intro f v1 hS hT K hK
      have e0 := hT 1 _ rfl rfl
      dsimp only [isV] at e0
      simp only [Act.put, List.setIfInBounds_toArray, List.set_cons_succ, List.set_cons_zero, e0] at hK
      go_simp
      refine (draw_any 7 B g v1 hS.1 (Nat.le_trans hWB hS.2.size)).mono ?_
      rintro e w1 ⟨x, rfl, x0, x1, _, hs1, ho1⟩
      exact hK.out _ _ ⟨x, rfl, x0, by have := x1 (by omega); omega⟩ (hS.go hs1 ho1) ho1
    refine AllTo.cons ?_ ?_
    · intro f v1 hS hT K hK
      obtain ⟨ba, ea, na, ka⟩ := hT 0 _ rfl rfl
      obtain ⟨xi, ei, li, ui⟩ := hT 2 _ rfl rfl
      obtain ⟨k, rfl⟩ : ∃ k : Nat, xi = k := ⟨xi.toNat, by omega⟩
      have hkn : (k : Int) < 7 := by omega
      simp only [Act.put, List.setIfInBounds_toArray, List.set_cons_succ, List.set_cons_zero, ea, ei] at hK
      go_simp
      exact hK.out _ _ ⟨ba, k, rfl, by simp; omega, na, ka⟩ hS (only_refl _ _)
    refine AllTo.cons ?_ ?_
    · intro f v1 hS hT K hK
      obtain ⟨ba, ia, ea, ta, na, ka⟩ := hT 3 _ rfl rfl
      obtain ⟨s, hc, hsz⟩ := strs_at (n := 100) rfl ka ta
      simp only [Act.put, List.setIfInBounds_toArray, List.set_cons_succ, List.set_cons_zero, ea] at hK
      go_simp
      exact hK.out _ _ (⟨s, rfl, hsz⟩) hS (only_refl _ _)
    refine AllTo.cons ?_ ?_
    · intro f v1 hS hT K hK
      simp only [Act.put, List.setIfInBounds_toArray, List.set_cons_succ, List.set_cons_zero] at hK
      go_simp
      exact hK.out _ _ (rfl) hS (only_refl _ _)
    refine AllTo.cons ?_ ?_
    · intro f v1 hS hT K hK
      have e0 := hT 5 _ rfl rfl
      dsimp only [isV] at e0
      simp only [Act.put, List.setIfInBounds_toArray, List.set_cons_succ, List.set_cons_zero, e0] at hK
      go_simp
      refine (draw_any 3 B g v1 hS.1 (Nat.le_trans hWB hS.2.size)).mono ?_
      rintro e w1 ⟨x, rfl, x0, x1, _, hs1, ho1⟩
      exact hK.out _ _ ⟨x, rfl, x0, by have := x1 (by omega); omega⟩ (hS.go hs1 ho1) ho1
    refine AllTo.cons ?_ ?_
    · intro f v1 hS hT K hK
      obtain ⟨xa, ea, la, ua⟩ := hT 6 _ rfl rfl
      have hw : IntKind.i64.wrap (xa - 1) = xa - 1 := IntWalk.i64_in _ (by omega)
      simp only [Act.put, List.setIfInBounds_toArray, List.set_cons_succ, List.set_cons_zero, ea] at hK
      go_simp
      exact hK.out _ _ (⟨_, rfl, by omega, by omega⟩) hS (only_refl _ _)
    refine AllTo.cons ?_ ?_
    · intro f v1 hS hT K hK
      simp only [Act.put, List.setIfInBounds_toArray, List.set_cons_succ, List.set_cons_zero] at hK
      go_simp
      exact hK.out _ _ (rfl) hS (only_refl _ _)
    refine AllTo.cons ?_ ?_
    · intro f v1 hS hT K hK
      simp only [Act.put, List.setIfInBounds_toArray, List.set_cons_succ, List.set_cons_zero] at hK
      go_simp
      exact hK.out _ _ (rfl) hS (only_refl _ _)
    refine AllTo.cons ?_ ?_
    · intro f v1 hS hT K hK
      have e0 := hT 9 _ rfl rfl
      dsimp only [isV] at e0
      simp only [Act.put, List.setIfInBounds_toArray, List.set_cons_succ, List.set_cons_zero, e0] at hK
      go_simp
      refine (draw_any 9 B g v1 hS.1 (Nat.le_trans hWB hS.2.size)).mono ?_
      rintro e w1 ⟨x, rfl, x0, x1, _, hs1, ho1⟩
      exact hK.out _ _ ⟨x, rfl, x0, by have := x1 (by omega); omega⟩ (hS.go hs1 ho1) ho1
    refine AllTo.cons ?_ ?_
    · intro f v1 hS hT K hK
      obtain ⟨xb, eb, lb, ub⟩ := hT 10 _ rfl rfl
      have hw : IntKind.i64.wrap (1 + xb) = 1 + xb := IntWalk.i64_in _ (by omega)
      simp only [Act.put, List.setIfInBounds_toArray, List.set_cons_succ, List.set_cons_zero, eb] at hK
      go_simp
      exact hK.out _ _ (⟨_, rfl, by omega, by omega⟩) hS (only_refl _ _)
    refine AllTo.cons ?_ ?_
    · intro f v1 hS hT K hK
      obtain ⟨xp3, ep3, lp3, up3⟩ := hT 11 _ rfl rfl
      simp only [Act.put, List.setIfInBounds_toArray, List.set_cons_succ, List.set_cons_zero, ep3] at hK
      go_simp
      exact hK.out _ _ ⟨[1, 1, 2, xp3], v1.heap.size, rfl, rfl, (by simp only [List.mem_cons, List.not_mem_nil, or_false]; rintro v (rfl | rfl | rfl | rfl) <;> omega), hS.2.size, Blk.new _ _ _⟩ (hS.alloc _).1 (hS.alloc _).2
    refine AllTo.cons ?_ ?_
    · intro f v1 hS hT K hK
      have e0 := hT 8 _ rfl rfl
      dsimp only [isV] at e0
      obtain ⟨xs1, b1, e1, l1, t1, n1, k1⟩ := hT 12 _ rfl rfl
      simp only [Act.put, List.setIfInBounds_toArray, List.set_cons_succ, List.set_cons_zero, e0, e1] at hK
      go_simp
      have hpk := pick_any xs1 b1 4 B g v1 hS.1 (Nat.le_trans hWB hS.2.size) (by omega) (by omega) k1 (by omega)
      rw [l1] at hpk
      refine hpk.mono ?_
      rintro e w1 ⟨x, rfl, hx, hs1, ho1⟩
      exact hK.out _ _ ⟨x, rfl, (t1 x hx).1, (t1 x hx).2⟩ (hS.go hs1 ho1) ho1
    refine AllTo.cons ?_ ?_
    · intro f v1 hS hT K hK
      obtain ⟨sp0, ep0, zp0⟩ := hT 4 _ rfl rfl
      obtain ⟨xp1, ep1, lp1, up1⟩ := hT 7 _ rfl rfl
      obtain ⟨xp2, ep2, lp2, up2⟩ := hT 13 _ rfl rfl
      simp only [Act.put, List.setIfInBounds_toArray, List.set_cons_succ, List.set_cons_zero, ep0, ep1, ep2] at hK
      go_simp
      exact hK.out _ _ (⟨_, _, _, rfl, by omega, by omega, by omega, by omega, by omega⟩) hS (only_refl _ _)
    refine AllTo.cons ?_ ?_
    · intro f v1 hS hT K hK
      simp only [Act.put, List.setIfInBounds_toArray, List.set_cons_succ, List.set_cons_zero] at hK
      go_simp
      exact hK.out _ _ ⟨v1.heap.size, rfl, hS.2.size, Blk.new _ _ _⟩ (hS.alloc _).1 (hS.alloc _).2
    exact AllTo.nil
  · intro f v1 hS hT K hK
    skip
    have Kr1 := Lib.hid (Kr0.out.grown hS.2 (by intro e; injection e with e; omega))
    have S1 := Lib.hid hS.1
    have N1 := Lib.hid (only_trans N0.out hS.2)
    have szq1 := hS.2.size
    clear hS S0 N0 Kr0
    obtain ⟨cb, eb, nb, kb⟩ := hT 15 _ rfl
    obtain ⟨nm, ch, wt, ea, znm, lch, uch, lwt, uwt⟩ := hT 14 _ rfl
    have Kc1 := Lib.hid kb
    obtain ⟨f0, f1, f2, f3, f4, f5, f6, f7, f8⟩ := facts_3 kb
    go_simp
    refine hK.out _ _ ?_
    clear kb hT hK K eb ea f0 f1 f2 f3 f4 f5 f6 f7 f8
    generalize hw : (((v1.setCell ⟨cb, 0, none⟩ (.string nm)).setCell ⟨cb, 1, none⟩ (.int .i64 ch)).setCell ⟨cb, 2, none⟩ (.int .i64 wt)) = w2
    obtain ⟨kq, kept⟩ := stored_3 Kc1.out S1.out N1.out (by omega) (by omega) (by omega) (.string nm) (.int .i64 ch) (.int .i64 wt) w2 hw.symm
    have Kr2 := Lib.hid (kept.blk (by omega) Kr1.out)
    have Kc2 := Lib.hid kq
    have S2 := Lib.hid kept.src
    have N2 := Lib.hid kept.only
    have szq2 := Nat.le_of_eq kept.size.symm
    clear kq kept hw S1 N1 Kr1 Kc1
    go_wp2_with fail
    refine (draw_any 30 B g w2 S2.out (by omega)).mono ?_
    rintro e w3 ⟨x, rfl, x0, x1, _, hs3, ho3⟩
    have hx := x1 (by omega)
    clear x1
    have Kr3 := Lib.hid ((Kr2.out).grown ho3 (by intro e; injection e with e; omega))
    have Kc3 := Lib.hid ((Kc2.out).grown ho3 (by intro e; injection e with e; omega))
    have N3 := Lib.hid (only_trans N2.out ho3)
    have S3 := Lib.hid hs3
    have szq3 : w2.heap.size ≤ w3.heap.size := by have := ho3.size; (try simp at this); omega
    clear ho3 hs3 S2 N2 Kr2 Kc2
    obtain rfl | rfl | rfl | hx : x = 0 ∨ x = 1 ∨ x = 2 ∨ 3 ≤ x := by omega
    · skip
      go_wp2_with fail
      refine (pick_any [-2, 2] w3.heap.size 2 B g (w3.alloc (.cells #[.int .i64 (-2), .int .i64 2] 2)) (S3.out.alloc _) (by simp; omega) (by simp) (by simp) (Blk.new _ _ _) (by omega)).mono ?_
      rintro e w4 ⟨cn, rfl, hcn, hs4, ho4⟩
      simp only [List.mem_cons, List.not_mem_nil, or_false] at hcn
      have Kr4 := Lib.hid ((Kr3.out.alloc _).grown ho4 (by intro e; injection e with e; omega))
      have Kc4 := Lib.hid ((Kc3.out.alloc _).grown ho4 (by intro e; injection e with e; omega))
      have N4 := Lib.hid (only_trans (only_trans N3.out (only_of_below ((Below.refl _ _).alloc (Nat.le_refl _) _))) ho4)
      have S4 := Lib.hid hs4
      have szq4 : w3.heap.size + 1 ≤ w4.heap.size := by have := ho4.size; (try simp at this); omega
      clear ho4 hs4 S3 N3 Kr3 Kc3
      have fz := Kc4.out.frozen 1
      obtain ⟨cc0, cc1, cc2⟩ := cells_3 Kc4.out
      go_upto_region 9 with (fail)
      clear fz cc0 cc1 cc2
      generalize hw : w4.setCell ⟨cb, 1, none⟩ (.int .i64 cn) = w5
      obtain ⟨kq, kept⟩ := cell_3_1 Kc4.out S4.out N4.out (by omega) (by omega) (by omega) (.int .i64 cn) w5 hw.symm
      have Kr5 := Lib.hid (kept.blk (by omega) Kr4.out)
      have Kc5 := Lib.hid kq
      have S5 := Lib.hid kept.src
      have N5 := Lib.hid kept.only
      have szq5 := Nat.le_of_eq kept.size.symm
      clear kq kept hw S4 N4 Kr4 Kc4
      obtain ⟨q0, q1, q2⟩ := cells_3 Kc5.out
      obtain ⟨fr0, fr1, fr2, fr3, fr4, fr5, fr6, fr7, fr8⟩ := facts_3 Kr5.out
      go_wp2_with fail
      obtain ⟨kq, kept⟩ := stored_3 Kr5.out S5.out N5.out (by omega) (by omega) (by omega) (.string nm) (.int .i64 cn) (.int .i64 wt) _ rfl
      exact bodyPost_ret (v := .agg #[.string nm, .int .i64 cn, .int .i64 wt]) (by simp [results, Tryd.results38, go_sem, fr6, fr7, fr8]) rfl ⟨⟨nm, cn, wt⟩, rfl, by dsimp only [SmallB]; omega, kept.src, kept.only⟩
    · skip
      go_wp2_with fail
      refine (pick_any [0, 100, 101] w3.heap.size 3 B g (w3.alloc (.cells #[.int .i64 0, .int .i64 100, .int .i64 101] 2)) (S3.out.alloc _) (by simp; omega) (by simp) (by simp) (Blk.new _ _ _) (by omega)).mono ?_
      rintro e w4 ⟨cn, rfl, hcn, hs4, ho4⟩
      simp only [List.mem_cons, List.not_mem_nil, or_false] at hcn
      have Kr4 := Lib.hid ((Kr3.out.alloc _).grown ho4 (by intro e; injection e with e; omega))
      have Kc4 := Lib.hid ((Kc3.out.alloc _).grown ho4 (by intro e; injection e with e; omega))
      have N4 := Lib.hid (only_trans (only_trans N3.out (only_of_below ((Below.refl _ _).alloc (Nat.le_refl _) _))) ho4)
      have S4 := Lib.hid hs4
      have szq4 : w3.heap.size + 1 ≤ w4.heap.size := by have := ho4.size; (try simp at this); omega
      clear ho4 hs4 S3 N3 Kr3 Kc3
      have fz := Kc4.out.frozen 2
      obtain ⟨cc0, cc1, cc2⟩ := cells_3 Kc4.out
      go_upto_region 9 with (fail)
      clear fz cc0 cc1 cc2
      generalize hw : w4.setCell ⟨cb, 2, none⟩ (.int .i64 cn) = w5
      obtain ⟨kq, kept⟩ := cell_3_2 Kc4.out S4.out N4.out (by omega) (by omega) (by omega) (.int .i64 cn) w5 hw.symm
      have Kr5 := Lib.hid (kept.blk (by omega) Kr4.out)
      have Kc5 := Lib.hid kq
      have S5 := Lib.hid kept.src
      have N5 := Lib.hid kept.only
      have szq5 := Nat.le_of_eq kept.size.symm
      clear kq kept hw S4 N4 Kr4 Kc4
      obtain ⟨q0, q1, q2⟩ := cells_3 Kc5.out
      obtain ⟨fr0, fr1, fr2, fr3, fr4, fr5, fr6, fr7, fr8⟩ := facts_3 Kr5.out
      go_wp2_with fail
      obtain ⟨kq, kept⟩ := stored_3 Kr5.out S5.out N5.out (by omega) (by omega) (by omega) (.string nm) (.int .i64 ch) (.int .i64 cn) _ rfl
      exact bodyPost_ret (v := .agg #[.string nm, .int .i64 ch, .int .i64 cn]) (by simp [results, Tryd.results38, go_sem, fr6, fr7, fr8]) rfl ⟨⟨nm, ch, cn⟩, rfl, by dsimp only [SmallB]; omega, kept.src, kept.only⟩
    · skip
      go_wp2_with fail
      refine (wordD_any B g w3 S3.out (by omega)).mono ?_
      rintro e w4 ⟨ph, rfl, hph, hsq, hoq⟩
      have Kr4 := Lib.hid ((Kr3.out).grown hoq (by intro e; injection e with e; omega))
      have Kc4 := Lib.hid ((Kc3.out).grown hoq (by intro e; injection e with e; omega))
      have N4 := Lib.hid (only_trans N3.out hoq)
      have S4 := Lib.hid hsq
      have szq4 : w3.heap.size ≤ w4.heap.size := by have := hoq.size; (try simp at this); omega
      clear hoq hsq S3 N3 Kr3 Kc3
      have fz := Kc4.out.frozen 0
      obtain ⟨cc0, cc1, cc2⟩ := cells_3 Kc4.out
      go_upto_region 9 with (fail)
      clear fz cc0 cc1 cc2
      generalize hw : w4.setCell ⟨cb, 0, none⟩ (.string ph) = w5
      obtain ⟨kq, kept⟩ := cell_3_0 Kc4.out S4.out N4.out (by omega) (by omega) (by omega) (.string ph) w5 hw.symm
      have Kr5 := Lib.hid (kept.blk (by omega) Kr4.out)
      have Kc5 := Lib.hid kq
      have S5 := Lib.hid kept.src
      have N5 := Lib.hid kept.only
      have szq5 := Nat.le_of_eq kept.size.symm
      clear kq kept hw S4 N4 Kr4 Kc4
      obtain ⟨q0, q1, q2⟩ := cells_3 Kc5.out
      obtain ⟨fr0, fr1, fr2, fr3, fr4, fr5, fr6, fr7, fr8⟩ := facts_3 Kr5.out
      go_wp2_with fail
      obtain ⟨kq, kept⟩ := stored_3 Kr5.out S5.out N5.out (by omega) (by omega) (by omega) (.string ph) (.int .i64 ch) (.int .i64 wt) _ rfl
      exact bodyPost_ret (v := .agg #[.string ph, .int .i64 ch, .int .i64 wt]) (by simp [results, Tryd.results38, go_sem, fr6, fr7, fr8]) rfl ⟨⟨ph, ch, wt⟩, rfl, by dsimp only [SmallB]; omega, kept.src, kept.only⟩
    · skip
      have e0 : (x == 0) = false := by simp; omega
      have e1 : (x == 1) = false := by simp; omega
      have e2 : (x == 2) = false := by simp; omega
      obtain ⟨q0, q1, q2⟩ := cells_3 Kc3.out
      obtain ⟨fr0, fr1, fr2, fr3, fr4, fr5, fr6, fr7, fr8⟩ := facts_3 Kr3.out
      go_wp2_with fail
      obtain ⟨kq, kept⟩ := stored_3 Kr3.out S3.out N3.out (by omega) (by omega) (by omega) (.string nm) (.int .i64 ch) (.int .i64 wt) _ rfl
      exact bodyPost_ret (v := .agg #[.string nm, .int .i64 ch, .int .i64 wt]) (by simp [results, Tryd.results38, go_sem, fr6, fr7, fr8]) rfl ⟨⟨nm, ch, wt⟩, rfl, by dsimp only [SmallB]; omega, kept.src, kept.only⟩
end Go.Proofs.YtihhpmhigmegjaaDoor
