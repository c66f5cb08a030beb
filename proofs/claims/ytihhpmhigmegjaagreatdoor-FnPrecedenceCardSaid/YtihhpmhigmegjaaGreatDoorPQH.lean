/- DrawHomonymsOf, DrawClearedEntries, DrawComparePrecedence of the reference. -/
import Derived.Test.YtihhpmhigmegjaaGreatDoorRows
import Derived.Test.YtihhpmhigmegjaaGreatDoorL0
import Derived.Test.YtihhpmhigmegjaaGreatDoorM0
import Derived.WalkKit
import Derived.ProofKit
import Derived.OpenShut
import Derived.BigQuiet
import Derived.Outline
import Derived.WalkSpells
import Derived.WalkLawsBesides
import Derived.Deep.DeepCutAuto
import Derived.Test.YtihhpmhigmegjaaGreatDoorRT
import Derived.Test.YtihhpmhigmegjaaGreatDoorPQL
import Derived.Test.YtihhpmhigmegjaaGreatDoorSC
namespace Go.Proofs.YtihhpmhigmegjaaGreatDoor
open Go.ChangeShapes Go.WideShapes Go.ChangeAt Go.RowKit

theorem own_farE {w : World} {base : Nat} {e : TypeId} {size n : Nat} {v : Value} {xs : List Value} (h : w.ownsRow base e size v n xs) (r i : Nat) (u : Value) (hr : r < base) : (w.setCell ⟨r, i, none⟩ u).ownsRow base e size v n xs :=
  own_only h (only_set (only_refl w r) i u) hr
theorem below_chainE {a w : World} (h : Below a.heap.size a w) (r : Nat) (hr : a.heap.size ≤ r) (v0 v1 v2 v3 : Value) : Below a.heap.size a ((((w.setCell ⟨r, 0, none⟩ v0).setCell ⟨r, 1, none⟩ v1).setCell ⟨r, 2, none⟩ v2).setCell ⟨r, 3, none⟩ v3) :=
  (((h.setCell (p := ⟨r, 0, none⟩) hr v0).setCell (p := ⟨r, 1, none⟩) hr v1).setCell (p := ⟨r, 2, none⟩) hr v2).setCell (p := ⟨r, 3, none⟩) hr v3
/-- Drawn entries, a drawn entry and a number. -/
def DrawnHom (w : World) (e : Ending) (w' : World) : Prop := ∃ (L : List Ent) (b : Ent) (d : Int) (Bq : Option Addr) (dq : Nat), e = .returned (.tuple #[.slice Bq L.length dq, b.val, .int .i64 d]) ∧ w'.ownsRow w.heap.size 45 4 (.slice Bq L.length dq) L.length (enC L) ∧ (∀ s ∈ L, SmallE s) ∧ L.length ≤ 20 ∧ SmallE b ∧ Below w.heap.size w w'
set_option maxRecDepth 100000 in
set_option maxHeartbeats 4000000 in
theorem drawHom_any (A : Option Addr) (n c : Nat) (w : World) (h : Code8 w A n) :
    Calls Tryz.prog 24 #[.slice A n c] w (DrawnHom w) := by
  have mixed : Tryz.prog.follows Departure.mixedOrders = true := by kernel_rfl
  have HC := Lib.hid h; clear h
  have KN := Lib.hid (blks_one w 45 #[.string ⟨#[]⟩, .int .i64 0, .int .i64 0, .int .i64 0])
  go_enter Tryz.func24, Tryz.ntmps24
  go_wp2_with fail
  generalize hW : w.alloc (.cells #[.string ⟨#[]⟩, .int .i64 0, .int .i64 0, .int .i64 0] 45) = W
  obtain ⟨b0, bw, hwz⟩ := KN.out W hW.symm
  have hwz := Nat.le_of_eq hwz.symm
  clear hW KN
  refine (from_code A n c W (HC.out.below bw)).mono ?_
  rintro e w1 ⟨g, rfl, hs1, b1⟩
  obtain ⟨B, hBe⟩ : ∃ B, B = W.heap.size := ⟨_, rfl⟩
  rw [← hBe] at hs1
  have hB1 : w.heap.size + 1 ≤ B := by omega
  have hB2 : B ≤ w1.heap.size := by rw [hBe]; exact b1.size
  have hgb := hs1.base
  have hgl := hs1.lt
  have N1 := Lib.hid (only_of_below (bw.trans (b1.mono bw.size)) : Only w w1 g)
  have Kr1 := Lib.hid (b0.below b1 b0.lt)
  have S1 := Lib.hid hs1
  clear b0 bw hs1 b1 hBe hwz HC
  go_wp2_with fail
  refine (listE_any B g w1 S1.out hB2).mono ?_
  rintro e w2 ⟨L, Bq, dq, rfl, own, hsm, hln, hs2, ho2⟩
  have O2 := Lib.hid own
  have HL := Lib.hid hsm
  clear own hsm
  have Kr2 := Lib.hid ((Kr1.out).grown ho2 (by intro e; injection e with e; omega))
  have N2 := Lib.hid (only_trans N1.out ho2)
  have S2 := Lib.hid hs2
  have szq2 : w1.heap.size ≤ w2.heap.size := by have := ho2.size; (try simp at this); omega
  clear ho2 hs2 S1 N1 Kr1
  go_wp2_with fail
  refine (drawE_any B g w2 S2.out (by omega)).mono ?_
  rintro e w3 ⟨⟨tx, ex, ey, si⟩, rfl, hsb, hs3, ho3⟩
  have O3 := Lib.hid (own_only O2.out ho3 (by omega))
  clear O2
  unfold Ent.val
  dsimp only [SmallE] at hsb ⊢
  have Kr3 := Lib.hid ((Kr2.out).grown ho3 (by intro e; injection e with e; omega))
  have N3 := Lib.hid (only_trans N2.out ho3)
  have S3 := Lib.hid hs3
  have szq3 : w2.heap.size ≤ w3.heap.size := by have := ho3.size; (try simp at this); omega
  clear ho3 hs3 S2 N2 Kr2
  go_upto_region 4 with (fail)
  generalize hW3 : w3.alloc (.cells #[.string tx, .int .i64 ex, .int .i64 ey, .int .i64 si] 45) = w4
  have Kc4 := Lib.hid (show Blk w4 w3.heap.size 45 #[.string tx, .int .i64 ex, .int .i64 ey, .int .i64 si] by rw [← hW3]; exact Blk.new _ _ _)
  have Kr4 := Lib.hid (show Blk w4 w.heap.size 45 #[.string ⟨#[]⟩, .int .i64 0, .int .i64 0, .int .i64 0] by rw [← hW3]; exact Kr3.out.alloc _)
  have S4 := Lib.hid (show Src w4 B g by rw [← hW3]; exact S3.out.alloc _)
  have N4 := Lib.hid (show Only w w4 g by rw [← hW3]; exact only_trans N3.out (only_of_below ((Below.refl _ _).alloc (Nat.le_refl _) _)))
  have O4 := Lib.hid (show w4.ownsRow w1.heap.size 45 4 (.slice Bq L.length dq) L.length (enC L) by rw [← hW3]; exact own_below O3.out ((Below.refl _ _).alloc (Nat.le_refl _) _))
  have HNE := Lib.hid (show ∀ k, (Value.slice Bq L.length dq).ownBlock = some k → k ≠ w3.heap.size from fun k hk => by have := (own_lt O3.out k hk).2; omega)
  have szq4 : w3.heap.size + 1 ≤ w4.heap.size := Kc4.out.lt
  clear hW3 S3 N3 Kr3 O3
  by_cases hn : 0 < L.length
  · have hn1 : (0 : Int) < (L.length : Int) := by omega
    go_wp2_with fail
    refine (draw_any 6 B g w4 S4.out (by omega)).mono ?_
    rintro e w5 ⟨z, rfl, z0, z1, z2, hs5, ho5⟩
    have O5 := Lib.hid (own_only O4.out ho5 (by omega))
    clear O4
    have Kr5 := Lib.hid ((Kr4.out).grown ho5 (by intro e; injection e with e; omega))
    have Kc5 := Lib.hid ((Kc4.out).grown ho5 (by intro e; injection e with e; omega))
    have N5 := Lib.hid (only_trans N4.out ho5)
    have S5 := Lib.hid hs5
    have szq5 : w4.heap.size ≤ w5.heap.size := by have := ho5.size; (try simp at this); omega
    clear ho5 hs5 S4 N4 Kr4 Kc4
    have hz := z1 (by omega)
    clear z1 z2
    by_cases hz0 : z = 0
    · subst hz0
      go_wp2_with fail
      refine (draw_any (L.length : Int) B g w5 S5.out (by omega)).mono ?_
      rintro e w6 ⟨y, rfl, y0, y1, y2, hs6, ho6⟩
      have O6 := Lib.hid (own_only O5.out ho6 (by omega))
      clear O5
      have Kr6 := Lib.hid ((Kr5.out).grown ho6 (by intro e; injection e with e; omega))
      have Kc6 := Lib.hid ((Kc5.out).grown ho6 (by intro e; injection e with e; omega))
      have N6 := Lib.hid (only_trans N5.out ho6)
      have S6 := Lib.hid hs6
      have szq6 : w5.heap.size ≤ w6.heap.size := by have := ho6.size; (try simp at this); omega
      clear ho6 hs6 S5 N5 Kr5 Kc5
      have hy : y < (L.length : Int) := by
        by_cases h1 : (1 : Int) < L.length
        · exact y1 h1
        · have := y2 (by omega); omega
      clear y1 y2
      obtain ⟨i, rfl⟩ : ∃ i : Nat, y = i := ⟨y.toNat, by omega⟩
      have hi : i < L.length := by omega
      have hsi := HL.out _ (List.getElem_mem hi)
      obtain ⟨ab, ao, hab, hadb, hcell⟩ := (Reads.of_own O6.out).2 (by omega)
      obtain ⟨e0, e1, e2, e3⟩ := enC_get L i hi
      have c0 := hcell _ _ e0
      have c1 := hcell _ _ e1
      have c2 := hcell _ _ e2
      have c3 := hcell _ _ e3
      rw [← Nat.add_assoc] at c1 c2 c3
      clear hcell e0 e1 e2 e3
      generalize L[i] = q at c0 c1 c2 c3 hsi
      obtain ⟨qt, qx, qy, qs⟩ := q
      dsimp only [SmallE] at c0 c1 c2 c3 hsi
      subst hab
      obtain ⟨fc0, fc1, fc2, fc3, fc4, fc5, fc6, fc7, fc8, fc9, fc10, fc11⟩ := facts_4 Kc6.out
      go_upto_region 6 with (fail)
      clear c0 c1 c2 c3
      clear fc0 fc1 fc2 fc3 fc4 fc5 fc6 fc7 fc8 fc9 fc10 fc11
      generalize hw : ((((w6.setCell ⟨w3.heap.size, 0, none⟩ (.string qt)).setCell ⟨w3.heap.size, 1, none⟩ (.int .i64 qx)).setCell ⟨w3.heap.size, 2, none⟩ (.int .i64 qy)).setCell ⟨w3.heap.size, 3, none⟩ (.int .i64 qs)) = w7
      obtain ⟨kq, kept⟩ := stored_4 Kc6.out S6.out N6.out (by omega) (by omega) (by omega) (.string qt) (.int .i64 qx) (.int .i64 qy) (.int .i64 qs) w7 hw.symm
      have Kr7 := Lib.hid (kept.blk (by omega) Kr6.out)
      have Kc7 := Lib.hid kq
      have S7 := Lib.hid kept.src
      have N7 := Lib.hid kept.only
      have szq7 := Nat.le_of_eq kept.size.symm
      have O7 := Lib.hid (kept.own O6.out HNE.out)
      clear O6 HNE
      clear kq kept hw S6 N6 Kr6 Kc6
      go_upto_region 6 with (fail)
      have hWB : B ≤ w7.heap.size := by omega
      have hgW : g < w7.heap.size := by omega
      have hS0 : SrcOnly w7 B g w7.drew := SrcOnly.drew ⟨S7.out, only_refl _ _⟩
      refine' wp_region_tail (SrcOnly w7 B g) (fun w w' => Only w w' g) [isV (.slice (some ⟨ab, ao, none⟩) L.length dq), isV (.agg #[.string qt, .int .i64 qx, .int .i64 qy, .int .i64 qs]), isV (.pointer (some ⟨g, 0, none⟩)), isV (.pointer (some ⟨g, 0, none⟩)), isInt (0) (19), isV (.pointer (some ⟨g, 0, none⟩)), isInt (0) (39), isRowN 2 w7.heap.size 8 (-1) (4001), isInt (-1) (4001), isV (.slice (some ⟨ab, ao, none⟩) L.length dq)] mixed (by kernel_rfl) hS0 ?_ _ _ _ ?_ ?_ ?_
      · exact AllStable.cons (stable_V _ _) (AllStable.cons (stable_V _ _) (AllStable.cons (stable_V _ _) (AllStable.cons (stable_V _ _) (AllStable.cons (stable_Int _ _ _) (AllStable.cons (stable_V _ _) (AllStable.cons (stable_Int _ _ _) (AllStable.cons (stable_RowN _ (by omega) _ _) (AllStable.cons (stable_Int _ _ _) (AllStable.cons (stable_V _ _) (AllStable.nil))))))))))
      rotate_left 3
      · intro f; simp only [lay, List.setIfInBounds_toArray, List.set_cons_succ, List.set_cons_zero, Nat.reduceAdd]; exact rfl
      · refine AllUpto.of 10 ?_ ?_ (by kernel_rfl) (by kernel_rfl)
        rotate_left
        · simp only [List.drop_succ_cons, List.drop_zero]; exact rfl
        simp only [List.take_succ_cons, List.take_zero]
        refine AllSteps.cons ?_ ?_
        · intro f v8 hS hT K hK
          simp only [Act.put, List.setIfInBounds_toArray, List.set_cons_succ, List.set_cons_zero] at hK
          go_simp
          exact hK.out _ _ (rfl) hS (only_refl _ _)
        refine AllSteps.cons ?_ ?_
        · intro f v8 hS hT K hK
          have hc0 : v8.cell? ⟨w3.heap.size, 0, none⟩ = some (.string qt) := by rw [(Kc7.out.grown hS.2 (by intro e; injection e with e; omega)).cell]; rfl
          have hc1 : v8.cell? ⟨w3.heap.size, 1, none⟩ = some (.int .i64 qx) := by rw [(Kc7.out.grown hS.2 (by intro e; injection e with e; omega)).cell]; rfl
          have hc2 : v8.cell? ⟨w3.heap.size, 2, none⟩ = some (.int .i64 qy) := by rw [(Kc7.out.grown hS.2 (by intro e; injection e with e; omega)).cell]; rfl
          have hc3 : v8.cell? ⟨w3.heap.size, 3, none⟩ = some (.int .i64 qs) := by rw [(Kc7.out.grown hS.2 (by intro e; injection e with e; omega)).cell]; rfl
          simp only [Act.put, List.setIfInBounds_toArray, List.set_cons_succ, List.set_cons_zero] at hK
          go_simp
          exact hK.out _ _ (rfl) hS (only_refl _ _)
        refine AllSteps.cons ?_ ?_
        · intro f v8 hS hT K hK
          simp only [Act.put, List.setIfInBounds_toArray, List.set_cons_succ, List.set_cons_zero] at hK
          go_simp
          exact hK.out _ _ (rfl) hS (only_refl _ _)
        refine AllSteps.cons ?_ ?_
        · intro f v8 hS hT K hK
          simp only [Act.put, List.setIfInBounds_toArray, List.set_cons_succ, List.set_cons_zero] at hK
          go_simp
          exact hK.out _ _ (rfl) hS (only_refl _ _)
        refine AllSteps.cons ?_ ?_
        · intro f v8 hS hT K hK
          have e0 := hT 3 _ rfl rfl
          dsimp only [isV] at e0
          simp only [Act.put, List.setIfInBounds_toArray, List.set_cons_succ, List.set_cons_zero, e0] at hK
          go_simp
          refine (draw_any 20 B g v8 hS.1 (Nat.le_trans hWB hS.2.size)).mono ?_
          rintro e w1 ⟨x, rfl, x0, x1, _, hs1, ho1⟩
          exact hK.out _ _ ⟨x, rfl, x0, by have := x1 (by omega); omega⟩ (hS.go hs1 ho1) ho1
        refine AllSteps.cons ?_ ?_
        · intro f v8 hS hT K hK
          simp only [Act.put, List.setIfInBounds_toArray, List.set_cons_succ, List.set_cons_zero] at hK
          go_simp
          exact hK.out _ _ (rfl) hS (only_refl _ _)
        refine AllSteps.cons ?_ ?_
        · intro f v8 hS hT K hK
          have e0 := hT 5 _ rfl rfl
          dsimp only [isV] at e0
          simp only [Act.put, List.setIfInBounds_toArray, List.set_cons_succ, List.set_cons_zero, e0] at hK
          go_simp
          refine (draw_any 40 B g v8 hS.1 (Nat.le_trans hWB hS.2.size)).mono ?_
          rintro e w1 ⟨x, rfl, x0, x1, _, hs1, ho1⟩
          exact hK.out _ _ ⟨x, rfl, x0, by have := x1 (by omega); omega⟩ (hS.go hs1 ho1) ho1
        refine AllSteps.cons ?_ ?_
        · intro f v8 hS hT K hK
          obtain ⟨xp1, ep1, lp1, up1⟩ := hT 4 _ rfl rfl
          obtain ⟨xp2, ep2, lp2, up2⟩ := hT 6 _ rfl rfl
          simp only [Act.put, List.setIfInBounds_toArray, List.set_cons_succ, List.set_cons_zero, ep1, ep2] at hK
          go_simp
          exact hK.out _ _ ⟨[0, xp1, xp2, 4000, 4001, -1, 12, 30], v8.heap.size, rfl, rfl, (by simp only [List.mem_cons, List.not_mem_nil, or_false]; rintro v (rfl | rfl | rfl | rfl | rfl | rfl | rfl | rfl) <;> omega), hS.2.size, Blk.new _ _ _⟩ (hS.alloc _).1 (hS.alloc _).2
        refine AllSteps.cons ?_ ?_
        · intro f v8 hS hT K hK
          have e0 := hT 2 _ rfl rfl
          dsimp only [isV] at e0
          obtain ⟨xs1, b1, e1, l1, t1, n1, k1⟩ := hT 7 _ rfl rfl
          simp only [Act.put, List.setIfInBounds_toArray, List.set_cons_succ, List.set_cons_zero, e0, e1] at hK
          go_simp
          have hpk := pick_any xs1 b1 8 B g v8 hS.1 (Nat.le_trans hWB hS.2.size) (by omega) (by omega) k1 (by omega)
          rw [l1] at hpk
          refine hpk.mono ?_
          rintro e w1 ⟨x, rfl, hx, hs1, ho1⟩
          exact hK.out _ _ ⟨x, rfl, (t1 x hx).1, (t1 x hx).2⟩ (hS.go hs1 ho1) ho1
        refine AllSteps.cons ?_ ?_
        · intro f v8 hS hT K hK
          have e0 := hT 0 _ rfl rfl
          dsimp only [isV] at e0
          simp only [Act.put, List.setIfInBounds_toArray, List.set_cons_succ, List.set_cons_zero, e0] at hK
          go_simp
          exact hK.out _ _ (rfl) hS (only_refl _ _)
        exact AllSteps.nil
      · intro f v8 hS hT
        skip
        have Kr8 := Lib.hid (Kr7.out.grown hS.2 (by intro e; injection e with e; omega))
        have Kc8 := Lib.hid (Kc7.out.grown hS.2 (by intro e; injection e with e; omega))
        have S8 := Lib.hid hS.1
        have N8 := Lib.hid (only_trans N7.out hS.2)
        have szq8 := hS.2.size
        have O8 := Lib.hid (own_only O7.out hS.2 (by omega))
        clear O7
        clear hS S7 N7 Kr7 Kc7
        have e0 := hT 9 _ rfl
        have e1 := hT 1 _ rfl
        obtain ⟨dd, e8, l8, u8⟩ := hT 8 _ rfl
        dsimp only [isV] at e0 e1
        rw [e0, e1, e8]
        clear e0 e1 e8 hT
        obtain ⟨fr0, fr1, fr2, fr3, fr4, fr5, fr6, fr7, fr8, fr9, fr10, fr11⟩ := facts_4 Kr8.out
        go_wp2_with fail
        exact bodyPost_ret (v := .tuple #[.slice (some ⟨ab, ao, none⟩) L.length dq, .agg #[.string qt, .int .i64 qx, .int .i64 qy, .int .i64 qs], .int .i64 dd]) (by simp [results, Tryz.results24, go_sem, fr8, fr9, fr10, fr11]) rfl ⟨L, ⟨qt, qx, qy, qs⟩, dd, (some ⟨ab, ao, none⟩), dq, rfl, own_mono (own_farE (own_farE (own_farE (own_farE O8.out _ _ _ (by omega)) _ _ _ (by omega)) _ _ _ (by omega)) _ _ _ (by omega)) (by omega), HL.out, hln, hsi, below_chainE (only_below N8.out (by omega) (Nat.le_refl _)) _ (Nat.le_refl _) _ _ _ _⟩
    · have hz1 : (z == 0) = false := by simp [hz0]
      go_upto_region 6 with (fail)
      have hWB : B ≤ w5.heap.size := by omega
      have hgW : g < w5.heap.size := by omega
      have hS0 : SrcOnly w5 B g w5.drew := SrcOnly.drew ⟨S5.out, only_refl _ _⟩
      refine' wp_region_tail (SrcOnly w5 B g) (fun w w' => Only w w' g) [isV (.slice Bq L.length dq), isV (.agg #[.string tx, .int .i64 ex, .int .i64 ey, .int .i64 si]), isV (.pointer (some ⟨g, 0, none⟩)), isV (.pointer (some ⟨g, 0, none⟩)), isInt (0) (19), isV (.pointer (some ⟨g, 0, none⟩)), isInt (0) (39), isRowN 2 w5.heap.size 8 (-1) (4001), isInt (-1) (4001), isV (.slice Bq L.length dq)] mixed (by kernel_rfl) hS0 ?_ _ _ _ ?_ ?_ ?_
      · exact AllStable.cons (stable_V _ _) (AllStable.cons (stable_V _ _) (AllStable.cons (stable_V _ _) (AllStable.cons (stable_V _ _) (AllStable.cons (stable_Int _ _ _) (AllStable.cons (stable_V _ _) (AllStable.cons (stable_Int _ _ _) (AllStable.cons (stable_RowN _ (by omega) _ _) (AllStable.cons (stable_Int _ _ _) (AllStable.cons (stable_V _ _) (AllStable.nil))))))))))
      rotate_left 3
      · intro f; simp only [lay, List.setIfInBounds_toArray, List.set_cons_succ, List.set_cons_zero, Nat.reduceAdd]; exact rfl
      · refine AllUpto.of 10 ?_ ?_ (by kernel_rfl) (by kernel_rfl)
        rotate_left
        · simp only [List.drop_succ_cons, List.drop_zero]; exact rfl
        simp only [List.take_succ_cons, List.take_zero]
        refine AllSteps.cons ?_ ?_
        · intro f v6 hS hT K hK
          simp only [Act.put, List.setIfInBounds_toArray, List.set_cons_succ, List.set_cons_zero] at hK
          go_simp
          exact hK.out _ _ (rfl) hS (only_refl _ _)
        refine AllSteps.cons ?_ ?_
        · intro f v6 hS hT K hK
          have hc0 : v6.cell? ⟨w3.heap.size, 0, none⟩ = some (.string tx) := by rw [(Kc5.out.grown hS.2 (by intro e; injection e with e; omega)).cell]; rfl
          have hc1 : v6.cell? ⟨w3.heap.size, 1, none⟩ = some (.int .i64 ex) := by rw [(Kc5.out.grown hS.2 (by intro e; injection e with e; omega)).cell]; rfl
          have hc2 : v6.cell? ⟨w3.heap.size, 2, none⟩ = some (.int .i64 ey) := by rw [(Kc5.out.grown hS.2 (by intro e; injection e with e; omega)).cell]; rfl
          have hc3 : v6.cell? ⟨w3.heap.size, 3, none⟩ = some (.int .i64 si) := by rw [(Kc5.out.grown hS.2 (by intro e; injection e with e; omega)).cell]; rfl
          simp only [Act.put, List.setIfInBounds_toArray, List.set_cons_succ, List.set_cons_zero] at hK
          go_simp
          exact hK.out _ _ (rfl) hS (only_refl _ _)
        refine AllSteps.cons ?_ ?_
        · intro f v6 hS hT K hK
          simp only [Act.put, List.setIfInBounds_toArray, List.set_cons_succ, List.set_cons_zero] at hK
          go_simp
          exact hK.out _ _ (rfl) hS (only_refl _ _)
        refine AllSteps.cons ?_ ?_
        · intro f v6 hS hT K hK
          simp only [Act.put, List.setIfInBounds_toArray, List.set_cons_succ, List.set_cons_zero] at hK
          go_simp
          exact hK.out _ _ (rfl) hS (only_refl _ _)
        refine AllSteps.cons ?_ ?_
        · intro f v6 hS hT K hK
          have e0 := hT 3 _ rfl rfl
          dsimp only [isV] at e0
          simp only [Act.put, List.setIfInBounds_toArray, List.set_cons_succ, List.set_cons_zero, e0] at hK
          go_simp
          refine (draw_any 20 B g v6 hS.1 (Nat.le_trans hWB hS.2.size)).mono ?_
          rintro e w1 ⟨x, rfl, x0, x1, _, hs1, ho1⟩
          exact hK.out _ _ ⟨x, rfl, x0, by have := x1 (by omega); omega⟩ (hS.go hs1 ho1) ho1
        refine AllSteps.cons ?_ ?_
        · intro f v6 hS hT K hK
          simp only [Act.put, List.setIfInBounds_toArray, List.set_cons_succ, List.set_cons_zero] at hK
          go_simp
          exact hK.out _ _ (rfl) hS (only_refl _ _)
        refine AllSteps.cons ?_ ?_
        · intro f v6 hS hT K hK
          have e0 := hT 5 _ rfl rfl
          dsimp only [isV] at e0
          simp only [Act.put, List.setIfInBounds_toArray, List.set_cons_succ, List.set_cons_zero, e0] at hK
          go_simp
          refine (draw_any 40 B g v6 hS.1 (Nat.le_trans hWB hS.2.size)).mono ?_
          rintro e w1 ⟨x, rfl, x0, x1, _, hs1, ho1⟩
          exact hK.out _ _ ⟨x, rfl, x0, by have := x1 (by omega); omega⟩ (hS.go hs1 ho1) ho1
        refine AllSteps.cons ?_ ?_
        · intro f v6 hS hT K hK
          obtain ⟨xp1, ep1, lp1, up1⟩ := hT 4 _ rfl rfl
          obtain ⟨xp2, ep2, lp2, up2⟩ := hT 6 _ rfl rfl
          simp only [Act.put, List.setIfInBounds_toArray, List.set_cons_succ, List.set_cons_zero, ep1, ep2] at hK
          go_simp
          exact hK.out _ _ ⟨[0, xp1, xp2, 4000, 4001, -1, 12, 30], v6.heap.size, rfl, rfl, (by simp only [List.mem_cons, List.not_mem_nil, or_false]; rintro v (rfl | rfl | rfl | rfl | rfl | rfl | rfl | rfl) <;> omega), hS.2.size, Blk.new _ _ _⟩ (hS.alloc _).1 (hS.alloc _).2
        refine AllSteps.cons ?_ ?_
        · intro f v6 hS hT K hK
          have e0 := hT 2 _ rfl rfl
          dsimp only [isV] at e0
          obtain ⟨xs1, b1, e1, l1, t1, n1, k1⟩ := hT 7 _ rfl rfl
          simp only [Act.put, List.setIfInBounds_toArray, List.set_cons_succ, List.set_cons_zero, e0, e1] at hK
          go_simp
          have hpk := pick_any xs1 b1 8 B g v6 hS.1 (Nat.le_trans hWB hS.2.size) (by omega) (by omega) k1 (by omega)
          rw [l1] at hpk
          refine hpk.mono ?_
          rintro e w1 ⟨x, rfl, hx, hs1, ho1⟩
          exact hK.out _ _ ⟨x, rfl, (t1 x hx).1, (t1 x hx).2⟩ (hS.go hs1 ho1) ho1
        refine AllSteps.cons ?_ ?_
        · intro f v6 hS hT K hK
          have e0 := hT 0 _ rfl rfl
          dsimp only [isV] at e0
          simp only [Act.put, List.setIfInBounds_toArray, List.set_cons_succ, List.set_cons_zero, e0] at hK
          go_simp
          exact hK.out _ _ (rfl) hS (only_refl _ _)
        exact AllSteps.nil
      · intro f v6 hS hT
        skip
        have Kr6 := Lib.hid (Kr5.out.grown hS.2 (by intro e; injection e with e; omega))
        have Kc6 := Lib.hid (Kc5.out.grown hS.2 (by intro e; injection e with e; omega))
        have S6 := Lib.hid hS.1
        have N6 := Lib.hid (only_trans N5.out hS.2)
        have szq6 := hS.2.size
        have O6 := Lib.hid (own_only O5.out hS.2 (by omega))
        clear O5
        clear hS S5 N5 Kr5 Kc5
        have e0 := hT 9 _ rfl
        have e1 := hT 1 _ rfl
        obtain ⟨dd, e8, l8, u8⟩ := hT 8 _ rfl
        dsimp only [isV] at e0 e1
        rw [e0, e1, e8]
        clear e0 e1 e8 hT
        obtain ⟨fr0, fr1, fr2, fr3, fr4, fr5, fr6, fr7, fr8, fr9, fr10, fr11⟩ := facts_4 Kr6.out
        go_wp2_with fail
        exact bodyPost_ret (v := .tuple #[.slice Bq L.length dq, .agg #[.string tx, .int .i64 ex, .int .i64 ey, .int .i64 si], .int .i64 dd]) (by simp [results, Tryz.results24, go_sem, fr8, fr9, fr10, fr11]) rfl ⟨L, ⟨tx, ex, ey, si⟩, dd, Bq, dq, rfl, own_mono (own_farE (own_farE (own_farE (own_farE O6.out _ _ _ (by omega)) _ _ _ (by omega)) _ _ _ (by omega)) _ _ _ (by omega)) (by omega), HL.out, hln, hsb, below_chainE (only_below N6.out (by omega) (Nat.le_refl _)) _ (Nat.le_refl _) _ _ _ _⟩
  · have hn1 : ¬ (0 : Int) < (L.length : Int) := by omega
    go_upto_region 6 with (fail)
    have hWB : B ≤ w4.heap.size := by omega
    have hgW : g < w4.heap.size := by omega
    have hS0 : SrcOnly w4 B g w4.drew := SrcOnly.drew ⟨S4.out, only_refl _ _⟩
    refine' wp_region_tail (SrcOnly w4 B g) (fun w w' => Only w w' g) [isV (.slice Bq L.length dq), isV (.agg #[.string tx, .int .i64 ex, .int .i64 ey, .int .i64 si]), isV (.pointer (some ⟨g, 0, none⟩)), isV (.pointer (some ⟨g, 0, none⟩)), isInt (0) (19), isV (.pointer (some ⟨g, 0, none⟩)), isInt (0) (39), isRowN 2 w4.heap.size 8 (-1) (4001), isInt (-1) (4001), isV (.slice Bq L.length dq)] mixed (by kernel_rfl) hS0 ?_ _ _ _ ?_ ?_ ?_
    · exact AllStable.cons (stable_V _ _) (AllStable.cons (stable_V _ _) (AllStable.cons (stable_V _ _) (AllStable.cons (stable_V _ _) (AllStable.cons (stable_Int _ _ _) (AllStable.cons (stable_V _ _) (AllStable.cons (stable_Int _ _ _) (AllStable.cons (stable_RowN _ (by omega) _ _) (AllStable.cons (stable_Int _ _ _) (AllStable.cons (stable_V _ _) (AllStable.nil))))))))))
    rotate_left 3
    · intro f; simp only [lay, List.setIfInBounds_toArray, List.set_cons_succ, List.set_cons_zero, Nat.reduceAdd]; exact rfl
    · refine AllUpto.of 10 ?_ ?_ (by kernel_rfl) (by kernel_rfl)
      rotate_left
      · simp only [List.drop_succ_cons, List.drop_zero]; exact rfl
      simp only [List.take_succ_cons, List.take_zero]
      refine AllSteps.cons ?_ ?_
      · intro f v5 hS hT K hK
        simp only [Act.put, List.setIfInBounds_toArray, List.set_cons_succ, List.set_cons_zero] at hK
        go_simp
        exact hK.out _ _ (rfl) hS (only_refl _ _)
      refine AllSteps.cons ?_ ?_
      · intro f v5 hS hT K hK
        have hc0 : v5.cell? ⟨w3.heap.size, 0, none⟩ = some (.string tx) := by rw [(Kc4.out.grown hS.2 (by intro e; injection e with e; omega)).cell]; rfl
        have hc1 : v5.cell? ⟨w3.heap.size, 1, none⟩ = some (.int .i64 ex) := by rw [(Kc4.out.grown hS.2 (by intro e; injection e with e; omega)).cell]; rfl
        have hc2 : v5.cell? ⟨w3.heap.size, 2, none⟩ = some (.int .i64 ey) := by rw [(Kc4.out.grown hS.2 (by intro e; injection e with e; omega)).cell]; rfl
        have hc3 : v5.cell? ⟨w3.heap.size, 3, none⟩ = some (.int .i64 si) := by rw [(Kc4.out.grown hS.2 (by intro e; injection e with e; omega)).cell]; rfl
        simp only [Act.put, List.setIfInBounds_toArray, List.set_cons_succ, List.set_cons_zero] at hK
        go_simp
        exact hK.out _ _ (rfl) hS (only_refl _ _)
      refine AllSteps.cons ?_ ?_
      · intro f v5 hS hT K hK
        simp only [Act.put, List.setIfInBounds_toArray, List.set_cons_succ, List.set_cons_zero] at hK
        go_simp
        exact hK.out _ _ (rfl) hS (only_refl _ _)
      refine AllSteps.cons ?_ ?_
      · intro f v5 hS hT K hK
        simp only [Act.put, List.setIfInBounds_toArray, List.set_cons_succ, List.set_cons_zero] at hK
        go_simp
        exact hK.out _ _ (rfl) hS (only_refl _ _)
      refine AllSteps.cons ?_ ?_
      · intro f v5 hS hT K hK
        have e0 := hT 3 _ rfl rfl
        dsimp only [isV] at e0
        simp only [Act.put, List.setIfInBounds_toArray, List.set_cons_succ, List.set_cons_zero, e0] at hK
        go_simp
        refine (draw_any 20 B g v5 hS.1 (Nat.le_trans hWB hS.2.size)).mono ?_
        rintro e w1 ⟨x, rfl, x0, x1, _, hs1, ho1⟩
        exact hK.out _ _ ⟨x, rfl, x0, by have := x1 (by omega); omega⟩ (hS.go hs1 ho1) ho1
      refine AllSteps.cons ?_ ?_
      · intro f v5 hS hT K hK
        simp only [Act.put, List.setIfInBounds_toArray, List.set_cons_succ, List.set_cons_zero] at hK
        go_simp
        exact hK.out _ _ (rfl) hS (only_refl _ _)
      refine AllSteps.cons ?_ ?_
      · intro f v5 hS hT K hK
        have e0 := hT 5 _ rfl rfl
        dsimp only [isV] at e0
        simp only [Act.put, List.setIfInBounds_toArray, List.set_cons_succ, List.set_cons_zero, e0] at hK
        go_simp
        refine (draw_any 40 B g v5 hS.1 (Nat.le_trans hWB hS.2.size)).mono ?_
        rintro e w1 ⟨x, rfl, x0, x1, _, hs1, ho1⟩
        exact hK.out _ _ ⟨x, rfl, x0, by have := x1 (by omega); omega⟩ (hS.go hs1 ho1) ho1
      refine AllSteps.cons ?_ ?_
      · intro f v5 hS hT K hK
        obtain ⟨xp1, ep1, lp1, up1⟩ := hT 4 _ rfl rfl
        obtain ⟨xp2, ep2, lp2, up2⟩ := hT 6 _ rfl rfl
        simp only [Act.put, List.setIfInBounds_toArray, List.set_cons_succ, List.set_cons_zero, ep1, ep2] at hK
        go_simp
        exact hK.out _ _ ⟨[0, xp1, xp2, 4000, 4001, -1, 12, 30], v5.heap.size, rfl, rfl, (by simp only [List.mem_cons, List.not_mem_nil, or_false]; rintro v (rfl | rfl | rfl | rfl | rfl | rfl | rfl | rfl) <;> omega), hS.2.size, Blk.new _ _ _⟩ (hS.alloc _).1 (hS.alloc _).2
      refine AllSteps.cons ?_ ?_
      · intro f v5 hS hT K hK
        have e0 := hT 2 _ rfl rfl
        dsimp only [isV] at e0
        obtain ⟨xs1, b1, e1, l1, t1, n1, k1⟩ := hT 7 _ rfl rfl
        simp only [Act.put, List.setIfInBounds_toArray, List.set_cons_succ, List.set_cons_zero, e0, e1] at hK
        go_simp
        have hpk := pick_any xs1 b1 8 B g v5 hS.1 (Nat.le_trans hWB hS.2.size) (by omega) (by omega) k1 (by omega)
        rw [l1] at hpk
        refine hpk.mono ?_
        rintro e w1 ⟨x, rfl, hx, hs1, ho1⟩
        exact hK.out _ _ ⟨x, rfl, (t1 x hx).1, (t1 x hx).2⟩ (hS.go hs1 ho1) ho1
      refine AllSteps.cons ?_ ?_
      · intro f v5 hS hT K hK
        have e0 := hT 0 _ rfl rfl
        dsimp only [isV] at e0
        simp only [Act.put, List.setIfInBounds_toArray, List.set_cons_succ, List.set_cons_zero, e0] at hK
        go_simp
        exact hK.out _ _ (rfl) hS (only_refl _ _)
      exact AllSteps.nil
    · intro f v5 hS hT
      skip
      have Kr5 := Lib.hid (Kr4.out.grown hS.2 (by intro e; injection e with e; omega))
      have Kc5 := Lib.hid (Kc4.out.grown hS.2 (by intro e; injection e with e; omega))
      have S5 := Lib.hid hS.1
      have N5 := Lib.hid (only_trans N4.out hS.2)
      have szq5 := hS.2.size
      have O5 := Lib.hid (own_only O4.out hS.2 (by omega))
      clear O4
      clear hS S4 N4 Kr4 Kc4
      have e0 := hT 9 _ rfl
      have e1 := hT 1 _ rfl
      obtain ⟨dd, e8, l8, u8⟩ := hT 8 _ rfl
      dsimp only [isV] at e0 e1
      rw [e0, e1, e8]
      clear e0 e1 e8 hT
      obtain ⟨fr0, fr1, fr2, fr3, fr4, fr5, fr6, fr7, fr8, fr9, fr10, fr11⟩ := facts_4 Kr5.out
      go_wp2_with fail
      exact bodyPost_ret (v := .tuple #[.slice Bq L.length dq, .agg #[.string tx, .int .i64 ex, .int .i64 ey, .int .i64 si], .int .i64 dd]) (by simp [results, Tryz.results24, go_sem, fr8, fr9, fr10, fr11]) rfl ⟨L, ⟨tx, ex, ey, si⟩, dd, Bq, dq, rfl, own_mono (own_farE (own_farE (own_farE (own_farE O5.out _ _ _ (by omega)) _ _ _ (by omega)) _ _ _ (by omega)) _ _ _ (by omega)) (by omega), HL.out, hln, hsb, below_chainE (only_below N5.out (by omega) (Nat.le_refl _)) _ (Nat.le_refl _) _ _ _ _⟩
end Go.Proofs.YtihhpmhigmegjaaGreatDoor
