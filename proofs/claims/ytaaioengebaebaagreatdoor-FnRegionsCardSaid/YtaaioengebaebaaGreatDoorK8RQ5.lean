/- Drawn masks of the reference: l19Good, l19Draw, l29Mask. -/
import Derived.Test.YtaaioengebaebaaGreatDoorRows
import Derived.Test.YtaaioengebaebaaGreatDoorK8GA
import Derived.WalkKit
import Derived.ProofKit
import Derived.OpenShut
import Derived.BigQuiet
import Derived.Outline
import Derived.WalkSpells
import Derived.WalkLawsBesides
import Derived.Deep.DeepCutAuto
import Derived.Test.YtaaioengebaebaaGreatDoorK8GI
import Derived.Test.YtaaioengebaebaaGreatDoorK8GB
import Derived.Test.YtaaioengebaebaaGreatDoorK8GF
namespace Go.Proofs.YtaaioengebaebaaGreatDoor
open Go.ChangeShapes Go.WideShapes Go.ChangeAt Go.RowKit

theorem blk_ownM {w : World} {g : Nat} {t : TypeId} {size n base : Nat} {L : List Value} (h : Blk w g t L.toArray) (hl : L.length = n * size) (hb : base ≤ g) (hn : n ≤ maxLen) : w.ownsRow base t size (.slice (some ⟨g, 0, none⟩) n n) n L :=
  ⟨hl, .inr ⟨g, n, L.toArray, rfl, hb, h, Nat.le_refl _, hn, by simpa using hl, by simp [← hl]⟩⟩
/-- A drawn mask. -/
def DrawnM (hi : Int) (w : World) (B g : Nat) (e : Ending) (w' : World) : Prop := ∃ (x y W H : Int) (L : List Bool) (A : Option Addr) (c : Nat), e = .returned (.agg #[.int .i64 x, .int .i64 y, .int .i64 W, .int .i64 H, .slice A L.length c]) ∧ w'.ownsRow w.heap.size 4 1 (.slice A L.length c) L.length (bC L) ∧ (L.length : Int) ≤ 590 + hi ∧ 0 ≤ W ∧ W ≤ hi ∧ Src w' B g ∧ Only w w' g
set_option maxRecDepth 100000 in
set_option maxHeartbeats 4000000 in
theorem goodM_any (B g : Nat) (w : World) (hs : Src w B g) (hB : B ≤ w.heap.size) :
    Calls Tryz.prog 97 #[.pointer (some ⟨g, 0, none⟩)] w (DrawnM 9 w B g) := by
  have mixed : Tryz.prog.follows Departure.mixedOrders = true := by kernel_rfl
  have hgl := hs.lt
  have HS := Lib.hid hs; clear hs
  have KN := Lib.hid (blks_one w 40 #[.int .i64 0, .int .i64 0, .int .i64 0, .int .i64 0, .slice none 0 0])
  go_enter Tryz.func97, Tryz.ntmps97
  go_wp2_with fail
  generalize hW : w.alloc (.cells #[.int .i64 0, .int .i64 0, .int .i64 0, .int .i64 0, .slice none 0 0] 40) = w1
  obtain ⟨b0, bw, hwz⟩ := KN.out w1 hW.symm
  have szq1 : w.heap.size + 1 ≤ w1.heap.size := Nat.le_of_eq hwz.symm
  have Kr1 := Lib.hid b0
  have N1 := Lib.hid (only_of_below bw : Only w w1 g)
  have S1 := Lib.hid (HS.out.below bw)
  clear hW KN b0 bw hwz HS
  go_wp2_with fail
  refine (draw_any 9 B g w1 S1.out (by omega)).mono ?_
  rintro e w2 ⟨p, rfl, p0, p1, _, hs2, ho2⟩
  have hp := p1 (by omega)
  clear p1
  have Kr2 := Lib.hid ((Kr1.out).grown ho2 (by intro e; injection e with e; omega))
  have N2 := Lib.hid (only_trans N1.out ho2)
  have S2 := Lib.hid hs2
  have szq2 : w1.heap.size ≤ w2.heap.size := by have := ho2.size; (try simp at this); omega
  clear ho2 hs2 S1 N1 Kr1
  have hp1 : IntKind.i64.wrap (p - 6) = p - 6 := IntWalk.i64_in _ (by omega)
  go_wp2_with fail
  refine (draw_any 9 B g w2 S2.out (by omega)).mono ?_
  rintro e w3 ⟨q, rfl, q0, q1, _, hs3, ho3⟩
  have hq := q1 (by omega)
  clear q1
  have Kr3 := Lib.hid ((Kr2.out).grown ho3 (by intro e; injection e with e; omega))
  have N3 := Lib.hid (only_trans N2.out ho3)
  have S3 := Lib.hid hs3
  have szq3 : w2.heap.size ≤ w3.heap.size := by have := ho3.size; (try simp at this); omega
  clear ho3 hs3 S2 N2 Kr2
  have hq1 : IntKind.i64.wrap (q - 6) = q - 6 := IntWalk.i64_in _ (by omega)
  go_wp2_with fail
  refine (draw_any 9 B g w3 S3.out (by omega)).mono ?_
  rintro e w4 ⟨u, rfl, u0, u1, _, hs4, ho4⟩
  have hu := u1 (by omega)
  clear u1
  have Kr4 := Lib.hid ((Kr3.out).grown ho4 (by intro e; injection e with e; omega))
  have N4 := Lib.hid (only_trans N3.out ho4)
  have S4 := Lib.hid hs4
  have szq4 : w3.heap.size ≤ w4.heap.size := by have := ho4.size; (try simp at this); omega
  clear ho4 hs4 S3 N3 Kr3
  have hu1 : IntKind.i64.wrap (1 + u) = 1 + u := IntWalk.i64_in _ (by omega)
  go_wp2_with fail
  refine (draw_any 9 B g w4 S4.out (by omega)).mono ?_
  rintro e w5 ⟨v, rfl, v0, v1, _, hs5, ho5⟩
  have hv := v1 (by omega)
  clear v1
  have Kr5 := Lib.hid ((Kr4.out).grown ho5 (by intro e; injection e with e; omega))
  have N5 := Lib.hid (only_trans N4.out ho5)
  have S5 := Lib.hid hs5
  have szq5 : w4.heap.size ≤ w5.heap.size := by have := ho5.size; (try simp at this); omega
  clear ho5 hs5 S4 N4 Kr4
  have hv1 : IntKind.i64.wrap (1 + v) = 1 + v := IntWalk.i64_in _ (by omega)
  go_upto_region 2 with (fail)
  generalize hW3 : w5.alloc (.cells #[.int .i64 (p - 6), .int .i64 (q - 6), .int .i64 (1 + u), .int .i64 (1 + v), .slice none 0 0] 40) = w6
  have bq : Below w5.heap.size w5 w6 := by rw [← hW3]; exact (Below.refl _ _).alloc (Nat.le_refl _) _
  have kq : Blk w6 w5.heap.size 40 #[.int .i64 (p - 6), .int .i64 (q - 6), .int .i64 (1 + u), .int .i64 (1 + v), .slice none 0 0] := by rw [← hW3]; exact Blk.new _ _ _
  clear hW3
  have zq : w5.heap.size < w6.heap.size := kq.lt
  have Kr6 := Lib.hid (Kr5.out.below bq Kr5.out.lt)
  have S6 := Lib.hid (S5.out.below bq)
  have N6 := Lib.hid (only_trans N5.out (only_of_below bq))
  have szq6 : w5.heap.size ≤ w6.heap.size := bq.size
  clear bq S5 N5 Kr5
  have Km6 := Lib.hid kq; clear kq
  obtain ⟨c0, c1, c2, c3, c4⟩ := cells_5 Km6.out
  go_wp2_with fail
  clear c0 c1 c2 c3 c4
  obtain ⟨nn, hnn⟩ : ∃ nn : Nat, (nn : Int) = (1 + u) * (1 + v) := ⟨((1 + u) * (1 + v)).toNat, by rw [Int.toNat_of_nonneg (Int.mul_nonneg (by omega) (by omega))]⟩
  have hn6 : nn ≤ 576 := by have : (1 + u) * (1 + v) ≤ 24 * 24 := Int.mul_le_mul (by omega) (by omega) (by omega) (by omega); omega
  have CE := Lib.hid (specEmptyZ (p - 6) (q - 6) (1 + u) (1 + v) none nn 0 0 hn6 hnn w6)
  unfold maskV at CE
  refine CE.out.mono ?_
  rintro e w7 ⟨gm, rfl, ⟨hgm, hkc⟩, b7⟩
  clear CE hnn
  have Kr7 := Lib.hid (Kr6.out.below b7 Kr6.out.lt)
  have Km7 := Lib.hid (Km6.out.below b7 Km6.out.lt)
  have S7 := Lib.hid (S6.out.below b7)
  have N7 := Lib.hid (only_trans N6.out (only_of_below b7))
  have szq7 : w6.heap.size ≤ w7.heap.size := b7.size
  clear b7 S6 N6 Kr6 Km6
  have Kc7 := Lib.hid hkc; clear hkc
  obtain ⟨fm0, fm1, fm2, fm3, fm4, fm5, fm6, fm7, fm8, fm9, fm10, fm11, fm12, fm13, fm14⟩ := facts_5 Km7.out
  go_upto_region 3 with (fail)
  clear fm0 fm1 fm2 fm3 fm4 fm5 fm6 fm7 fm8 fm9 fm10 fm11 fm12 fm13 fm14
  generalize hw : (((((w7.setCell ⟨w5.heap.size, 0, none⟩ (.int .i64 (p - 6))).setCell ⟨w5.heap.size, 1, none⟩ (.int .i64 (q - 6))).setCell ⟨w5.heap.size, 2, none⟩ (.int .i64 (1 + u))).setCell ⟨w5.heap.size, 3, none⟩ (.int .i64 (1 + v))).setCell ⟨w5.heap.size, 4, none⟩ (.slice (some ⟨gm, 0, none⟩) nn nn)) = w8
  obtain ⟨kq, kept⟩ := stored_5 Km7.out S7.out N7.out (by omega) (by omega) (by omega) (.int .i64 (p - 6)) (.int .i64 (q - 6)) (.int .i64 (1 + u)) (.int .i64 (1 + v)) (.slice (some ⟨gm, 0, none⟩) nn nn) w8 hw.symm
  have Kr8 := Lib.hid (kept.blk (by omega) Kr7.out)
  have Km8 := Lib.hid kq
  have Kc8 := Lib.hid (kept.blk (by omega) Kc7.out)
  have S8 := Lib.hid kept.src
  have N8 := Lib.hid kept.only
  have szq8 := Nat.le_of_eq kept.size.symm
  clear kq kept hw S7 N7 Kr7 Km7 Kc7
  go_wp2_with fail
  refine (draw_any 4 B g w8 S8.out (by omega)).mono ?_
  rintro e w9 ⟨z, rfl, z0, z1, _, hs9, ho9⟩
  have hz := z1 (by omega)
  clear z1
  have Kr9 := Lib.hid ((Kr8.out).grown ho9 (by intro e; injection e with e; omega))
  have Km9 := Lib.hid ((Km8.out).grown ho9 (by intro e; injection e with e; omega))
  have Kc9 := Lib.hid ((Kc8.out).grown ho9 (by intro e; injection e with e; omega))
  have N9 := Lib.hid (only_trans N8.out ho9)
  have S9 := Lib.hid hs9
  have szq9 : w8.heap.size ≤ w9.heap.size := by have := ho9.size; (try simp at this); omega
  clear ho9 hs9 S8 N8 Kr8 Km8 Kc8
  have hz1 : IntKind.i64.wrap (1 + z) = 1 + z := IntWalk.i64_in _ (by omega)
  obtain ⟨c0, c1, c2, c3, c4⟩ := cells_5 Km9.out
  go_wp2_with fail
  clear c0 c1 c2 c3 c4
  obtain ⟨mb, hmb⟩ : ∃ mb, mb = w5.heap.size := ⟨_, rfl⟩
  rw [← hmb] at Km9 ⊢
  have hmw : w.heap.size < mb := by omega
  have hmg : mb ≠ gm := by omega
  clear hmb
  go_loopw [5, 28] (fun v5 v28 wr => ∃ (k : Nat) (bs : List Bool), k ≤ nn ∧ Hid (bs.length = nn) ∧ Hid (Blk wr w.heap.size 40 #[.int .i64 0, .int .i64 0, .int .i64 0, .int .i64 0, .slice none 0 0]) ∧ Hid (Blk wr mb 40 #[.int .i64 (p - 6), .int .i64 (q - 6), .int .i64 (1 + u), .int .i64 (1 + v), .slice (some ⟨gm, 0, none⟩) nn nn]) ∧ Hid (Blk wr gm 4 (bC bs).toArray) ∧ Hid (Src wr B g) ∧ Hid (Only w wr g) ∧ v28 = .int .i64 (k : Int)) (fun _ i _ => nn - (intOf i).toNat)
  case atStart => exact ⟨0, noB nn, by omega, noB_len nn, Kr9.out, Km9.out, Kc9.out, S9.out, N9.out, rfl⟩
  case round =>
    clear Kr9 Km9 Kc9 S9 N9
    obtain ⟨k, bs, hk, HB, Kr1, Km1, Kc1, S1, N1, rfl⟩ := hrel
    have hwB : w.heap.size ≤ wr.heap.size := N1.out.size
    have hml := Km1.out.lt
    by_cases hlt : k < nn
    · have hlt' : (k : Int) < (nn : Int) := by omega
      have hk0 : (0 : Int) ≤ (k : Int) := by omega
      go_upto_region 7 with (fail)
      have hWB : B ≤ wr.heap.size := by omega
      have hgW : g < wr.heap.size := by omega
      have hS0 : SrcOnly wr B g wr.drew := SrcOnly.drew ⟨S1.out, only_refl _ _⟩
      refine' wp_region_slots (SrcOnly wr B g) (fun w w' => Only w w' g) [isV (.pointer (some ⟨mb, 4, none⟩)), isV (.slice (some ⟨gm, 0, none⟩) nn nn), isV (.int .i64 (k : Int)), isV (.pointer (some ⟨g, 0, none⟩)), isInt 0 4, isV (.int .i64 (1 + z)), (fun v _ => ∃ b : Bool, v = .bool b), isV (.pointer (some ⟨gm, k, none⟩))] mixed (by kernel_rfl) (by kernel_rfl) hS0 ?_ _ _ ?_ ?_ ?_
      · exact AllStable.cons (stable_V _ _) (AllStable.cons (stable_V _ _) (AllStable.cons (stable_V _ _) (AllStable.cons (stable_V _ _) (AllStable.cons (stable_Int _ _ _) (AllStable.cons (stable_V _ _) (AllStable.cons (stable_pure _) (AllStable.cons (stable_V _ _) (AllStable.nil))))))))
      rotate_left 2
      · intro f; simp only [lay, List.setIfInBounds_toArray, List.set_cons_succ, List.set_cons_zero, Nat.reduceAdd]; exact rfl
      · refine AllTo.cons ?_ ?_
        · intro f v hS hT K hK
          simp only [Act.put, List.setIfInBounds_toArray, List.set_cons_succ, List.set_cons_zero] at hK
          go_simp
          exact hK.out _ _ rfl hS (only_refl _ _)
        refine AllTo.cons ?_ ?_
        · intro f v hS hT K hK
          have e0 := hT 0 _ rfl rfl
          dsimp only [isV] at e0
          obtain ⟨m0, m1, m2, m3, m4⟩ := cells_5 (Km1.out.grown hS.2 (by intro e; injection e with e; omega))
          simp only [Act.put, List.setIfInBounds_toArray, List.set_cons_succ, List.set_cons_zero, e0] at hK
          go_simp
          exact hK.out _ _ rfl hS (only_refl _ _)
        refine AllTo.cons ?_ ?_
        · intro f v hS hT K hK
          simp only [Act.put, List.setIfInBounds_toArray, List.set_cons_succ, List.set_cons_zero] at hK
          go_simp
          exact hK.out _ _ rfl hS (only_refl _ _)
        refine AllTo.cons ?_ ?_
        · intro f v hS hT K hK
          simp only [Act.put, List.setIfInBounds_toArray, List.set_cons_succ, List.set_cons_zero] at hK
          go_simp
          exact hK.out _ _ rfl hS (only_refl _ _)
        refine AllTo.cons ?_ ?_
        · intro f v hS hT K hK
          have e3 := hT 3 _ rfl rfl
          dsimp only [isV] at e3
          simp only [Act.put, List.setIfInBounds_toArray, List.set_cons_succ, List.set_cons_zero, e3] at hK
          go_simp
          refine (draw_any 5 B g v hS.1 (Nat.le_trans hWB hS.2.size)).mono ?_
          rintro e w1 ⟨x, rfl, x0, x1, _, hs1, ho1⟩
          exact hK.out _ _ ⟨x, rfl, x0, by have := x1 (by omega); omega⟩ (hS.go hs1 ho1) ho1
        refine AllTo.cons ?_ ?_
        · intro f v hS hT K hK
          simp only [Act.put, List.setIfInBounds_toArray, List.set_cons_succ, List.set_cons_zero] at hK
          go_simp
          exact hK.out _ _ rfl hS (only_refl _ _)
        refine AllTo.cons ?_ ?_
        · intro f v hS hT K hK
          obtain ⟨x4, e4, l4, u4⟩ := hT 4 _ rfl rfl
          have e5 := hT 5 _ rfl rfl
          dsimp only [isV] at e5
          simp only [Act.put, List.setIfInBounds_toArray, List.set_cons_succ, List.set_cons_zero, e4, e5] at hK
          go_simp
          exact hK.out _ _ ⟨_, rfl⟩ hS (only_refl _ _)
        refine AllTo.cons ?_ ?_
        · intro f v hS hT K hK
          have e1 := hT 1 _ rfl rfl
          dsimp only [isV] at e1
          have e2 := hT 2 _ rfl rfl
          dsimp only [isV] at e2
          simp only [Act.put, List.setIfInBounds_toArray, List.set_cons_succ, List.set_cons_zero, e1, e2] at hK
          go_simp
          exact hK.out _ _ rfl hS (only_refl _ _)
        exact AllTo.nil
      · intro f v hS hT K hK
        obtain ⟨bb, ea⟩ := hT 6 _ rfl
        have eb := hT 7 _ rfl
        dsimp only [isV] at eb
        rw [ea, eb]
        clear ea eb hT
        have hvs := hS.2.size
        have CPv := Kc1.out.grown hS.2 (by intro e; injection e with e; omega)
        have u0 := blk_boolat CPv (k := k) (by rw [HB.out]; exact hlt)
        have f0 := CPv.frozen k
        have Kc2 := Lib.hid (blk_bool CPv bb HB.out hlt)
        have Kr2 := Lib.hid ((Kr1.out.grown hS.2 (by intro e; injection e with e; omega)).far (p := ⟨gm, k, none⟩) (by dsimp only; omega) (.bool bb))
        have Km2 := Lib.hid ((Km1.out.grown hS.2 (by intro e; injection e with e; omega)).far (p := ⟨gm, k, none⟩) (by dsimp only; omega) (.bool bb))
        have S2 := Lib.hid (src_cell hS.1 gm k (by omega) (by omega) (.bool bb))
        have N2 := Lib.hid (only_cell (only_trans N1.out hS.2) gm k (by omega) (.bool bb))
        have HB2 := Lib.hid (show (bs.set k bb).length = nn by rw [List.length_set]; exact HB.out)
        clear hS CPv
        go_simp
        refine hK.out _ _ ?_
        clear hK K
        go_wp2_with fail
        go_roundw
        case rel => exact ⟨k + 1, bs.set k bb, by omega, HB2.out, Kr2.out, Km2.out, Kc2.out, S2.out, N2.out, by go_num⟩
        case measure => simp [intOf]; omega
    · obtain rfl : k = nn := by omega
      have hl := HB.out
      subst hl
      have O1 := Lib.hid (blk_ownM (n := bs.length) (size := 1) (base := w.heap.size) Kc1.out (bC_len bs) (by omega) (by simp only [maxLen]; omega))
      have HNEr := Lib.hid (show ∀ k, (Value.slice (some ⟨gm, 0, none⟩) bs.length bs.length).ownBlock = some k → k ≠ w.heap.size from fun k hk => by injection hk with hk; dsimp only at hk; omega)
      obtain ⟨c0, c1, c2, c3, c4⟩ := cells_5 Km1.out
      obtain ⟨fr0, fr1, fr2, fr3, fr4, fr5, fr6, fr7, fr8, fr9, fr10, fr11, fr12, fr13, fr14⟩ := facts_5 Kr1.out
      obtain ⟨kq, kept⟩ := stored_5 Kr1.out S1.out N1.out (Nat.le_refl _) (by omega) hB (.int .i64 (p - 6)) (.int .i64 (q - 6)) (.int .i64 (1 + u)) (.int .i64 (1 + v)) (.slice (some ⟨gm, 0, none⟩) bs.length bs.length) _ rfl
      have OG := Lib.hid (kept.own O1.out HNEr.out)
      have KS := Lib.hid kept.src; have KO := Lib.hid kept.only
      obtain ⟨q0, q1, q2, q3, q4⟩ := cells_5 kq
      clear kq kept
      go_wp2_with fail
      exact bodyPost_ret (v := .agg #[.int .i64 (p - 6), .int .i64 (q - 6), .int .i64 (1 + u), .int .i64 (1 + v), .slice (some ⟨gm, 0, none⟩) bs.length bs.length]) (by simp [results, Tryz.results97, go_sem, q0, q1, q2, q3, q4, fr10, fr11, fr12, fr13, fr14]) rfl ⟨(p - 6), (q - 6), (1 + u), (1 + v), bs, some ⟨gm, 0, none⟩, bs.length, rfl, own_mono OG.out (by omega), (by omega), by omega, by omega, KS.out, KO.out⟩
set_option maxRecDepth 100000 in
set_option maxHeartbeats 4000000 in
theorem drawM_any (B g : Nat) (w : World) (hs : Src w B g) (hB : B ≤ w.heap.size) :
    Calls Tryz.prog 69 #[.pointer (some ⟨g, 0, none⟩)] w (DrawnM 26 w B g) := by
  have mixed : Tryz.prog.follows Departure.mixedOrders = true := by kernel_rfl
  have hgl := hs.lt
  have HS := Lib.hid hs; clear hs
  have KN := Lib.hid (blks_one w 40 #[.int .i64 0, .int .i64 0, .int .i64 0, .int .i64 0, .slice none 0 0])
  go_enter Tryz.func69, Tryz.ntmps69
  go_wp2_with fail
  generalize hW : w.alloc (.cells #[.int .i64 0, .int .i64 0, .int .i64 0, .int .i64 0, .slice none 0 0] 40) = w1
  obtain ⟨b0, bw, hwz⟩ := KN.out w1 hW.symm
  have szq1 : w.heap.size + 1 ≤ w1.heap.size := Nat.le_of_eq hwz.symm
  have Kr1 := Lib.hid b0
  have N1 := Lib.hid (only_of_below bw : Only w w1 g)
  have S1 := Lib.hid (HS.out.below bw)
  clear hW KN b0 bw hwz HS
  obtain ⟨i0, hi0, hz0, hz1, hz2⟩ := info_parts infoBool
  go_wp2_with fail
  refine (goodM_any B g w1 S1.out (by omega)).mono ?_
  rintro e w2 ⟨x, y, W, H, L, A, c, rfl, own, hl, hW0, hW9, hs2, ho2⟩
  have Kr2 := Lib.hid ((Kr1.out).grown ho2 (by intro e; injection e with e; omega))
  have N2 := Lib.hid (only_trans N1.out ho2)
  have S2 := Lib.hid hs2
  have szq2 : w1.heap.size ≤ w2.heap.size := by have := ho2.size; (try simp at this); omega
  clear ho2 hs2 S1 N1 Kr1
  obtain ⟨wb, hwb⟩ : ∃ wb, wb = w1.heap.size := ⟨_, rfl⟩
  rw [← hwb] at own
  have hgw : g < wb := by omega
  have hww : w.heap.size < wb := by omega
  have O2 := Lib.hid own
  have hwb2 : wb ≤ w1.heap.size := Nat.le_of_eq hwb
  clear own hwb
  have HNEr := Lib.hid (show ∀ k, (Value.slice A L.length c).ownBlock = some k → k ≠ w.heap.size from fun k hk => by have := (own_lt O2.out k hk).1; omega)
  go_upto_region 2 with (fail)
  generalize hW3 : w2.alloc (.cells #[.int .i64 x, .int .i64 y, .int .i64 W, .int .i64 H, .slice A L.length c] 40) = w3
  have bq : Below w2.heap.size w2 w3 := by rw [← hW3]; exact (Below.refl _ _).alloc (Nat.le_refl _) _
  have kq : Blk w3 w2.heap.size 40 #[.int .i64 x, .int .i64 y, .int .i64 W, .int .i64 H, .slice A L.length c] := by rw [← hW3]; exact Blk.new _ _ _
  clear hW3
  have zq : w2.heap.size < w3.heap.size := kq.lt
  have HNEm := Lib.hid (show ∀ k, (Value.slice A L.length c).ownBlock = some k → k ≠ w2.heap.size from fun k hk => by have := (own_lt O2.out k hk).2; omega)
  have O3 := Lib.hid (own_below O2.out bq)
  clear O2
  have Kr3 := Lib.hid (Kr2.out.below bq Kr2.out.lt)
  have S3 := Lib.hid (S2.out.below bq)
  have N3 := Lib.hid (only_trans N2.out (only_of_below bq))
  have szq3 : w2.heap.size ≤ w3.heap.size := bq.size
  clear bq S2 N2 Kr2
  have Km3 := Lib.hid kq; clear kq
  go_wp2_with fail
  refine (draw_any 30 B g w3 S3.out (by omega)).mono ?_
  rintro e w4 ⟨t, rfl, t0, t1, _, hs4, ho4⟩
  have ht := t1 (by omega)
  clear t1
  have O4 := Lib.hid (own_only O3.out ho4 hgw)
  clear O3
  have Kr4 := Lib.hid ((Kr3.out).grown ho4 (by intro e; injection e with e; omega))
  have Km4 := Lib.hid ((Km3.out).grown ho4 (by intro e; injection e with e; omega))
  have N4 := Lib.hid (only_trans N3.out ho4)
  have S4 := Lib.hid hs4
  have szq4 : w3.heap.size ≤ w4.heap.size := by have := ho4.size; (try simp at this); omega
  clear ho4 hs4 S3 N3 Kr3 Km3
  by_cases ht0 : t = 0
  · subst ht0
    obtain ⟨c0, c1, c2, c3, c4⟩ := cells_5 Km4.out
    have hw1 : IntKind.i64.wrap (W + 1) = W + 1 := IntWalk.i64_in _ (by omega)
    go_wp2_with fail
    refine (pick_any [0, 24, 25, W + 1] w4.heap.size 4 B g (w4.alloc (.cells #[.int .i64 0, .int .i64 24, .int .i64 25, .int .i64 (W + 1)] 2)) (S4.out.alloc _) (by simp; omega) (by simp) (by simp) (Blk.new _ _ _) (by omega)).mono ?_
    rintro e w5 ⟨p, rfl, hp, hs5, ho5⟩
    simp only [List.mem_cons, List.not_mem_nil, or_false] at hp
    have O5 := Lib.hid (own_only (own_below O4.out ((Below.refl _ _).alloc (Nat.le_refl _) _)) ho5 hgw)
    clear O4
    have Kr5 := Lib.hid ((Kr4.out.alloc _).grown ho5 (by intro e; injection e with e; omega))
    have Km5 := Lib.hid ((Km4.out.alloc _).grown ho5 (by intro e; injection e with e; omega))
    have N5 := Lib.hid (only_trans (only_trans N4.out (only_of_below ((Below.refl _ _).alloc (Nat.le_refl _) _))) ho5)
    have S5 := Lib.hid hs5
    have szq5 : w4.heap.size + 1 ≤ w5.heap.size := by have := ho5.size; (try simp at this); omega
    clear ho5 hs5 S4 N4 Kr4 Km4
    clear c0 c1 c2 c3 c4
    have fz := Km5.out.frozen 2
    obtain ⟨cm0, cm1, cm2, cm3, cm4⟩ := cells_5 Km5.out
    go_upto_region 11 with (fail)
    clear fz cm0 cm1 cm2 cm3 cm4
    generalize hw : w5.setCell ⟨w2.heap.size, 2, none⟩ (.int .i64 p) = w6
    obtain ⟨kq, kept⟩ := cell_5_2 Km5.out S5.out N5.out (by omega) (by omega) (by omega) (.int .i64 p) w6 hw.symm
    have Kr6 := Lib.hid (kept.blk (by omega) Kr5.out)
    have Km6 := Lib.hid kq
    have S6 := Lib.hid kept.src
    have N6 := Lib.hid kept.only
    have szq6 := Nat.le_of_eq kept.size.symm
    have O6 := Lib.hid (kept.own O5.out HNEm.out)
    clear O5
    clear kq kept hw S5 N5 Kr5 Km5
    obtain ⟨c0, c1, c2, c3, c4⟩ := cells_5 Km6.out
    obtain ⟨fr0, fr1, fr2, fr3, fr4, fr5, fr6, fr7, fr8, fr9, fr10, fr11, fr12, fr13, fr14⟩ := facts_5 Kr6.out
    obtain ⟨kq, kept⟩ := stored_5 Kr6.out S6.out N6.out (Nat.le_refl _) (by omega) hB (.int .i64 x) (.int .i64 y) (.int .i64 p) (.int .i64 H) (.slice A L.length c) _ rfl
    have OG := Lib.hid (kept.own O6.out HNEr.out)
    have KS := Lib.hid kept.src; have KO := Lib.hid kept.only
    obtain ⟨q0, q1, q2, q3, q4⟩ := cells_5 kq
    clear kq kept
    go_wp2_with fail
    exact bodyPost_ret (v := .agg #[.int .i64 x, .int .i64 y, .int .i64 p, .int .i64 H, .slice A L.length c]) (by simp [results, Tryz.results69, go_sem, q0, q1, q2, q3, q4, fr10, fr11, fr12, fr13, fr14]) rfl ⟨x, y, p, H, L, A, c, rfl, own_mono OG.out (by omega), (by omega), by omega, by omega, KS.out, KO.out⟩
  by_cases ht1 : t = 1
  · subst ht1
    go_wp2_with fail
    refine (pick_any [1000, 995, -1000, -1001] w4.heap.size 4 B g (w4.alloc (.cells #[.int .i64 1000, .int .i64 995, .int .i64 (-1000), .int .i64 (-1001)] 2)) (S4.out.alloc _) (by simp; omega) (by simp) (by simp) (Blk.new _ _ _) (by omega)).mono ?_
    rintro e w5 ⟨p, rfl, hp, hs5, ho5⟩
    simp only [List.mem_cons, List.not_mem_nil, or_false] at hp
    have O5 := Lib.hid (own_only (own_below O4.out ((Below.refl _ _).alloc (Nat.le_refl _) _)) ho5 hgw)
    clear O4
    have Kr5 := Lib.hid ((Kr4.out.alloc _).grown ho5 (by intro e; injection e with e; omega))
    have Km5 := Lib.hid ((Km4.out.alloc _).grown ho5 (by intro e; injection e with e; omega))
    have N5 := Lib.hid (only_trans (only_trans N4.out (only_of_below ((Below.refl _ _).alloc (Nat.le_refl _) _))) ho5)
    have S5 := Lib.hid hs5
    have szq5 : w4.heap.size + 1 ≤ w5.heap.size := by have := ho5.size; (try simp at this); omega
    clear ho5 hs5 S4 N4 Kr4 Km4
    have fz := Km5.out.frozen 0
    obtain ⟨cm0, cm1, cm2, cm3, cm4⟩ := cells_5 Km5.out
    go_upto_region 11 with (fail)
    clear fz cm0 cm1 cm2 cm3 cm4
    generalize hw : w5.setCell ⟨w2.heap.size, 0, none⟩ (.int .i64 p) = w6
    obtain ⟨kq, kept⟩ := cell_5_0 Km5.out S5.out N5.out (by omega) (by omega) (by omega) (.int .i64 p) w6 hw.symm
    have Kr6 := Lib.hid (kept.blk (by omega) Kr5.out)
    have Km6 := Lib.hid kq
    have S6 := Lib.hid kept.src
    have N6 := Lib.hid kept.only
    have szq6 := Nat.le_of_eq kept.size.symm
    have O6 := Lib.hid (kept.own O5.out HNEm.out)
    clear O5
    clear kq kept hw S5 N5 Kr5 Km5
    obtain ⟨c0, c1, c2, c3, c4⟩ := cells_5 Km6.out
    obtain ⟨fr0, fr1, fr2, fr3, fr4, fr5, fr6, fr7, fr8, fr9, fr10, fr11, fr12, fr13, fr14⟩ := facts_5 Kr6.out
    obtain ⟨kq, kept⟩ := stored_5 Kr6.out S6.out N6.out (Nat.le_refl _) (by omega) hB (.int .i64 p) (.int .i64 y) (.int .i64 W) (.int .i64 H) (.slice A L.length c) _ rfl
    have OG := Lib.hid (kept.own O6.out HNEr.out)
    have KS := Lib.hid kept.src; have KO := Lib.hid kept.only
    obtain ⟨q0, q1, q2, q3, q4⟩ := cells_5 kq
    clear kq kept
    go_wp2_with fail
    exact bodyPost_ret (v := .agg #[.int .i64 p, .int .i64 y, .int .i64 W, .int .i64 H, .slice A L.length c]) (by simp [results, Tryz.results69, go_sem, q0, q1, q2, q3, q4, fr10, fr11, fr12, fr13, fr14]) rfl ⟨p, y, W, H, L, A, c, rfl, own_mono OG.out (by omega), (by omega), by omega, by omega, KS.out, KO.out⟩
  by_cases ht2 : t = 2
  · subst ht2
    obtain ⟨c0, c1, c2, c3, c4⟩ := cells_5 Km4.out
    go_upto_region 11 with (at_builtin; refine wpList_append_any _ rfl (.tmp 27) (.tmp 28) _ rfl wb 4 i0 _ 1 1 Tryz.underlying26 hi0 hz0 hz1 hz2 rfl (by omega) (.slice A L.length c) L.length (bC L) rfl (O4.out.alloc _) _ (some ⟨w4.heap.size, 0, none⟩) 1 1 [.bool true] rfl (new_vs _ _ _ _ rfl) (by simp [Value.oneCell']) (by simp only [maxLen]; omega) (by omega) (by simp; omega) ?_; intro v9 w9 hown9 hg9 hat9; obtain ⟨B9, d9, rfl, _⟩ := own_shape hown9; have km9 := (Km4.out.alloc _).grown hg9 (fun e => HNEm.out _ e.symm rfl); have c9 : w9.cell? ⟨w2.heap.size, 4, none⟩ = some (.slice A L.length c) := (by rw [km9.cell]; rfl); have f9 := km9.frozen 4; clear km9)
    try clear c9
    try clear f9
    clear c0 c1 c2 c3 c4
    have hlo : ∀ k, (Value.slice A L.length c).ownBlock = some k → wb ≤ k := fun k hk => (own_lt O4.out k hk).1
    have S5 := Lib.hid ((S4.out.alloc _).grown hg9 (by intro e; have := hlo g e; omega) (fun k hk => by have := hlo k hk; omega))
    have N5 := Lib.hid (only_own (only_trans N4.out (only_of_below ((Below.refl _ _).alloc (Nat.le_refl _) _))) hg9 (fun k hk => by have := hlo k hk; omega))
    have Kr5 := Lib.hid ((Kr4.out.alloc _).grown hg9 (fun e => HNEr.out _ e.symm rfl))
    have Km5 := Lib.hid ((Km4.out.alloc _).grown hg9 (fun e => HNEm.out _ e.symm rfl))
    have hsz9 : w4.heap.size ≤ w9.heap.size := by have := hg9.size; simp at this; omega
    have ho9 : ∀ k, (Value.slice B9 (L.length + 1) d9).ownBlock = some k → (Value.slice A L.length c).ownBlock = some k ∨ k = w4.heap.size + 1 := by
      intro k hk
      rcases hat9 with h | h
      · exact .inl (by rw [← h]; exact hk)
      · right; rw [hk] at h; injection h with h; simpa using h
    have HNEr := Lib.hid (show ∀ k, (Value.slice B9 (L.length + 1) d9).ownBlock = some k → k ≠ w.heap.size from fun k hk => by
      have := (own_lt hown9 k hk).1; omega)
    have HNEm := Lib.hid (show ∀ k, (Value.slice B9 (L.length + 1) d9).ownBlock = some k → k ≠ w2.heap.size from fun k hk => by
      rcases ho9 k hk with h | h
      · exact HNEm.out k h
      · have := Km4.out.lt; omega)
    have O5 := Lib.hid hown9
    clear hown9 hg9 hat9 ho9 hlo O4 S4 N4 Kr4 Km4
    generalize hw : w9.setCell ⟨w2.heap.size, 4, none⟩ (.slice B9 (L.length + 1) d9) = w6
    obtain ⟨kq, kept⟩ := cell_5_4 Km5.out S5.out N5.out (by omega) (by omega) (by omega) (.slice B9 (L.length + 1) d9) w6 hw.symm
    have Kr6 := Lib.hid (kept.blk (by omega) Kr5.out)
    have Km6 := Lib.hid kq
    have S6 := Lib.hid kept.src
    have N6 := Lib.hid kept.only
    have szq6 := Nat.le_of_eq kept.size.symm
    have O6 := Lib.hid (kept.own O5.out HNEm.out)
    clear O5
    clear kq kept hw S5 N5 Kr5 Km5
    obtain ⟨L2, hL2⟩ : ∃ L2, L2 = L ++ [true] := ⟨_, rfl⟩
    have hap : L2.length = L.length + 1 := by rw [hL2]; simp
    have hbp : bC L ++ [.bool true] = bC L2 := by rw [hL2]; simp [bC]
    rw [hbp, ← hap] at O6
    rw [← hap] at HNEr Km6
    have hl2 : (L2.length : Int) ≤ 616 := by omega
    clear hap hL2 hbp
    obtain ⟨c0, c1, c2, c3, c4⟩ := cells_5 Km6.out
    obtain ⟨fr0, fr1, fr2, fr3, fr4, fr5, fr6, fr7, fr8, fr9, fr10, fr11, fr12, fr13, fr14⟩ := facts_5 Kr6.out
    obtain ⟨kq, kept⟩ := stored_5 Kr6.out S6.out N6.out (Nat.le_refl _) (by omega) hB (.int .i64 x) (.int .i64 y) (.int .i64 W) (.int .i64 H) (.slice B9 L2.length d9) _ rfl
    have OG := Lib.hid (kept.own O6.out HNEr.out)
    have KS := Lib.hid kept.src; have KO := Lib.hid kept.only
    obtain ⟨q0, q1, q2, q3, q4⟩ := cells_5 kq
    clear kq kept
    go_wp2_with fail
    exact bodyPost_ret (v := .agg #[.int .i64 x, .int .i64 y, .int .i64 W, .int .i64 H, .slice B9 L2.length d9]) (by simp [results, Tryz.results69, go_sem, q0, q1, q2, q3, q4, fr10, fr11, fr12, fr13, fr14]) rfl ⟨x, y, W, H, L2, B9, d9, rfl, own_mono OG.out (by omega), (by omega), by omega, by omega, KS.out, KO.out⟩
  by_cases ht3 : t = 3
  · subst ht3
    go_wp2_with fail
    refine (draw_any 2 B g w4 S4.out (by omega)).mono ?_
    rintro e w5 ⟨s, rfl, s0, s1, _, hs5, ho5⟩
    have hs := s1 (by omega)
    clear s1
    have O5 := Lib.hid (own_only O4.out ho5 hgw)
    clear O4
    have Kr5 := Lib.hid ((Kr4.out).grown ho5 (by intro e; injection e with e; omega))
    have Km5 := Lib.hid ((Km4.out).grown ho5 (by intro e; injection e with e; omega))
    have N5 := Lib.hid (only_trans N4.out ho5)
    have S5 := Lib.hid hs5
    have szq5 : w4.heap.size ≤ w5.heap.size := by have := ho5.size; (try simp at this); omega
    clear ho5 hs5 S4 N4 Kr4 Km4
    have hs1 : IntKind.i64.wrap (24 + s) = 24 + s := IntWalk.i64_in _ (by omega)
    obtain ⟨nn, hnn⟩ : ∃ nn : Nat, (nn : Int) = (24 + s) * 2 := ⟨((24 + s) * 2).toNat, by omega⟩
    have hn6 : nn ≤ 576 := by omega
    go_wp2_with fail
    have CE := Lib.hid (specEmptyZ 0 0 (24 + s) 2 none nn 0 0 hn6 hnn w5)
    unfold maskV at CE
    refine CE.out.mono ?_
    rintro e w6 ⟨gm, rfl, ⟨hgm, hkc⟩, b6⟩
    clear CE hnn
    have O6 := Lib.hid (own_below O5.out b6)
    clear O5
    have Kr6 := Lib.hid (Kr5.out.below b6 Kr5.out.lt)
    have Km6 := Lib.hid (Km5.out.below b6 Km5.out.lt)
    have S6 := Lib.hid (S5.out.below b6)
    have N6 := Lib.hid (only_trans N5.out (only_of_below b6))
    have szq6 : w5.heap.size ≤ w6.heap.size := b6.size
    clear b6 S5 N5 Kr5 Km5
    have Kc6 := Lib.hid hkc; clear hkc
    obtain ⟨fm0, fm1, fm2, fm3, fm4, fm5, fm6, fm7, fm8, fm9, fm10, fm11, fm12, fm13, fm14⟩ := facts_5 Km6.out
    go_upto_region 11 with (fail)
    clear fm0 fm1 fm2 fm3 fm4 fm5 fm6 fm7 fm8 fm9 fm10 fm11 fm12 fm13 fm14
    generalize hw : (((((w6.setCell ⟨w2.heap.size, 0, none⟩ (.int .i64 0)).setCell ⟨w2.heap.size, 1, none⟩ (.int .i64 0)).setCell ⟨w2.heap.size, 2, none⟩ (.int .i64 (24 + s))).setCell ⟨w2.heap.size, 3, none⟩ (.int .i64 2)).setCell ⟨w2.heap.size, 4, none⟩ (.slice (some ⟨gm, 0, none⟩) nn nn)) = w7
    obtain ⟨kq, kept⟩ := stored_5 Km6.out S6.out N6.out (by omega) (by omega) (by omega) (.int .i64 0) (.int .i64 0) (.int .i64 (24 + s)) (.int .i64 2) (.slice (some ⟨gm, 0, none⟩) nn nn) w7 hw.symm
    have Kr7 := Lib.hid (kept.blk (by omega) Kr6.out)
    have Km7 := Lib.hid kq
    have Kc7 := Lib.hid (kept.blk (by omega) Kc6.out)
    have S7 := Lib.hid kept.src
    have N7 := Lib.hid kept.only
    have szq7 := Nat.le_of_eq kept.size.symm
    have O7 := Lib.hid (kept.own O6.out HNEm.out)
    clear O6
    clear kq kept hw S6 N6 Kr6 Km6 Kc6
    clear O7 HNEr
    obtain ⟨bs, hbs⟩ : ∃ bs, bs = noB nn := ⟨_, rfl⟩
    rw [← hbs] at Kc7
    have hl := noB_len nn
    rw [← hbs] at hl
    clear hbs
    subst hl
    have O7 := Lib.hid (blk_ownM (n := bs.length) (size := 1) (base := w.heap.size) Kc7.out (bC_len bs) (by omega) (by simp only [maxLen]; omega))
    have HNEr := Lib.hid (show ∀ k, (Value.slice (some ⟨gm, 0, none⟩) bs.length bs.length).ownBlock = some k → k ≠ w.heap.size from fun k hk => by injection hk with hk; dsimp only at hk; omega)
    obtain ⟨c0, c1, c2, c3, c4⟩ := cells_5 Km7.out
    obtain ⟨fr0, fr1, fr2, fr3, fr4, fr5, fr6, fr7, fr8, fr9, fr10, fr11, fr12, fr13, fr14⟩ := facts_5 Kr7.out
    obtain ⟨kq, kept⟩ := stored_5 Kr7.out S7.out N7.out (Nat.le_refl _) (by omega) hB (.int .i64 0) (.int .i64 0) (.int .i64 (24 + s)) (.int .i64 2) (.slice (some ⟨gm, 0, none⟩) bs.length bs.length) _ rfl
    have OG := Lib.hid (kept.own O7.out HNEr.out)
    have KS := Lib.hid kept.src; have KO := Lib.hid kept.only
    obtain ⟨q0, q1, q2, q3, q4⟩ := cells_5 kq
    clear kq kept
    go_wp2_with fail
    exact bodyPost_ret (v := .agg #[.int .i64 0, .int .i64 0, .int .i64 (24 + s), .int .i64 2, .slice (some ⟨gm, 0, none⟩) bs.length bs.length]) (by simp [results, Tryz.results69, go_sem, q0, q1, q2, q3, q4, fr10, fr11, fr12, fr13, fr14]) rfl ⟨0, 0, 24 + s, 2, bs, some ⟨gm, 0, none⟩, bs.length, rfl, own_mono OG.out (by omega), (by omega), by omega, by omega, KS.out, KO.out⟩
  have hn0 : (t == 0) = false := by simpa using ht0
  have hn1 : (t == 1) = false := by simpa using ht1
  have hn2 : (t == 2) = false := by simpa using ht2
  have hn3 : (t == 3) = false := by simpa using ht3
  go_upto_region 11 with (fail)
  obtain ⟨c0, c1, c2, c3, c4⟩ := cells_5 Km4.out
  obtain ⟨fr0, fr1, fr2, fr3, fr4, fr5, fr6, fr7, fr8, fr9, fr10, fr11, fr12, fr13, fr14⟩ := facts_5 Kr4.out
  obtain ⟨kq, kept⟩ := stored_5 Kr4.out S4.out N4.out (Nat.le_refl _) (by omega) hB (.int .i64 x) (.int .i64 y) (.int .i64 W) (.int .i64 H) (.slice A L.length c) _ rfl
  have OG := Lib.hid (kept.own O4.out HNEr.out)
  have KS := Lib.hid kept.src; have KO := Lib.hid kept.only
  obtain ⟨q0, q1, q2, q3, q4⟩ := cells_5 kq
  clear kq kept
  go_wp2_with fail
  exact bodyPost_ret (v := .agg #[.int .i64 x, .int .i64 y, .int .i64 W, .int .i64 H, .slice A L.length c]) (by simp [results, Tryz.results69, go_sem, q0, q1, q2, q3, q4, fr10, fr11, fr12, fr13, fr14]) rfl ⟨x, y, W, H, L, A, c, rfl, own_mono OG.out (by omega), (by omega), by omega, by omega, KS.out, KO.out⟩
set_option maxRecDepth 100000 in
set_option maxHeartbeats 4000000 in
theorem maskD_any (B g : Nat) (w : World) (hs : Src w B g) (hB : B ≤ w.heap.size) :
    Calls Tryz.prog 68 #[.pointer (some ⟨g, 0, none⟩)] w (DrawnM 26 w B g) := by
  have mixed : Tryz.prog.follows Departure.mixedOrders = true := by kernel_rfl
  have hgl := hs.lt
  have HS := Lib.hid hs; clear hs
  have KN := Lib.hid (blks_one w 40 #[.int .i64 0, .int .i64 0, .int .i64 0, .int .i64 0, .slice none 0 0])
  go_enter Tryz.func68, Tryz.ntmps68
  go_wp2_with fail
  generalize hW : w.alloc (.cells #[.int .i64 0, .int .i64 0, .int .i64 0, .int .i64 0, .slice none 0 0] 40) = w1
  obtain ⟨b0, bw, hwz⟩ := KN.out w1 hW.symm
  have szq1 : w.heap.size + 1 ≤ w1.heap.size := Nat.le_of_eq hwz.symm
  have Kr1 := Lib.hid b0
  have N1 := Lib.hid (only_of_below bw : Only w w1 g)
  have S1 := Lib.hid (HS.out.below bw)
  clear hW KN b0 bw hwz HS
  go_wp2_with fail
  refine (draw_any 12 B g w1 S1.out (by omega)).mono ?_
  rintro e w2 ⟨t, rfl, t0, t1, _, hs2, ho2⟩
  have ht := t1 (by omega)
  clear t1
  have Kr2 := Lib.hid ((Kr1.out).grown ho2 (by intro e; injection e with e; omega))
  have N2 := Lib.hid (only_trans N1.out ho2)
  have S2 := Lib.hid hs2
  have szq2 : w1.heap.size ≤ w2.heap.size := by have := ho2.size; (try simp at this); omega
  clear ho2 hs2 S1 N1 Kr1
  by_cases ht0 : t = 0
  · subst ht0
    go_wp2_with fail
    refine (drawM_any B g w2 S2.out (by omega)).mono ?_
    rintro e w3 ⟨x, y, W, H, L, A, c, rfl, own, hl, hW0, hW9, hs3, ho3⟩
    have Kr3 := Lib.hid ((Kr2.out).grown ho3 (by intro e; injection e with e; omega))
    have N3 := Lib.hid (only_trans N2.out ho3)
    have S3 := Lib.hid hs3
    have szq3 : w2.heap.size ≤ w3.heap.size := by have := ho3.size; (try simp at this); omega
    clear ho3 hs3 S2 N2 Kr2
    have hgw : g < w2.heap.size := by omega
    have O3 := Lib.hid own
    have HNEr := Lib.hid (show ∀ k, (Value.slice A L.length c).ownBlock = some k → k ≠ w.heap.size from fun k hk => by have := (own_lt own k hk).1; omega)
    clear own
    obtain ⟨fr0, fr1, fr2, fr3, fr4, fr5, fr6, fr7, fr8, fr9, fr10, fr11, fr12, fr13, fr14⟩ := facts_5 Kr3.out
    obtain ⟨kq, kept⟩ := stored_5 Kr3.out S3.out N3.out (Nat.le_refl _) (by omega) hB (.int .i64 x) (.int .i64 y) (.int .i64 W) (.int .i64 H) (.slice A L.length c) _ rfl
    have OG := Lib.hid (kept.own O3.out HNEr.out)
    have KS := Lib.hid kept.src; have KO := Lib.hid kept.only
    obtain ⟨q0, q1, q2, q3, q4⟩ := cells_5 kq
    clear kq kept
    go_wp2_with fail
    exact bodyPost_ret (v := .agg #[.int .i64 x, .int .i64 y, .int .i64 W, .int .i64 H, .slice A L.length c]) (by simp [results, Tryz.results68, go_sem, q0, q1, q2, q3, q4, fr10, fr11, fr12, fr13, fr14]) rfl ⟨x, y, W, H, L, A, c, rfl, own_mono OG.out (by omega), (by omega), by omega, by omega, KS.out, KO.out⟩
  have ht1 : (t == 0) = false := by simpa using ht0
  go_wp2_with fail
  refine (draw_any 9 B g w2 S2.out (by omega)).mono ?_
  rintro e w3 ⟨p, rfl, p0, p1, _, hs3, ho3⟩
  have hp := p1 (by omega)
  clear p1
  have Kr3 := Lib.hid ((Kr2.out).grown ho3 (by intro e; injection e with e; omega))
  have N3 := Lib.hid (only_trans N2.out ho3)
  have S3 := Lib.hid hs3
  have szq3 : w2.heap.size ≤ w3.heap.size := by have := ho3.size; (try simp at this); omega
  clear ho3 hs3 S2 N2 Kr2
  have hp1 : IntKind.i64.wrap (p - 12) = p - 12 := IntWalk.i64_in _ (by omega)
  go_wp2_with fail
  refine (draw_any 9 B g w3 S3.out (by omega)).mono ?_
  rintro e w4 ⟨q, rfl, q0, q1, _, hs4, ho4⟩
  have hq := q1 (by omega)
  clear q1
  have Kr4 := Lib.hid ((Kr3.out).grown ho4 (by intro e; injection e with e; omega))
  have N4 := Lib.hid (only_trans N3.out ho4)
  have S4 := Lib.hid hs4
  have szq4 : w3.heap.size ≤ w4.heap.size := by have := ho4.size; (try simp at this); omega
  clear ho4 hs4 S3 N3 Kr3
  have hq1 : IntKind.i64.wrap (q - 12) = q - 12 := IntWalk.i64_in _ (by omega)
  go_wp2_with fail
  refine (draw_any 9 B g w4 S4.out (by omega)).mono ?_
  rintro e w5 ⟨u, rfl, u0, u1, _, hs5, ho5⟩
  have hu := u1 (by omega)
  clear u1
  have Kr5 := Lib.hid ((Kr4.out).grown ho5 (by intro e; injection e with e; omega))
  have N5 := Lib.hid (only_trans N4.out ho5)
  have S5 := Lib.hid hs5
  have szq5 : w4.heap.size ≤ w5.heap.size := by have := ho5.size; (try simp at this); omega
  clear ho5 hs5 S4 N4 Kr4
  have hu1 : IntKind.i64.wrap (6 + u) = 6 + u := IntWalk.i64_in _ (by omega)
  go_wp2_with fail
  refine (draw_any 9 B g w5 S5.out (by omega)).mono ?_
  rintro e w6 ⟨v, rfl, v0, v1, _, hs6, ho6⟩
  have hv := v1 (by omega)
  clear v1
  have Kr6 := Lib.hid ((Kr5.out).grown ho6 (by intro e; injection e with e; omega))
  have N6 := Lib.hid (only_trans N5.out ho6)
  have S6 := Lib.hid hs6
  have szq6 : w5.heap.size ≤ w6.heap.size := by have := ho6.size; (try simp at this); omega
  clear ho6 hs6 S5 N5 Kr5
  have hv1 : IntKind.i64.wrap (6 + v) = 6 + v := IntWalk.i64_in _ (by omega)
  obtain ⟨nn, hnn⟩ : ∃ nn : Nat, (nn : Int) = (6 + u) * (6 + v) := ⟨((6 + u) * (6 + v)).toNat, by rw [Int.toNat_of_nonneg (Int.mul_nonneg (by omega) (by omega))]⟩
  have hn6 : nn ≤ 576 := by have : (6 + u) * (6 + v) ≤ 24 * 24 := Int.mul_le_mul (by omega) (by omega) (by omega) (by omega); omega
  go_wp2_with fail
  have CE := Lib.hid (specEmptyZ (p - 12) (q - 12) (6 + u) (6 + v) none nn 0 0 hn6 hnn w6)
  unfold maskV at CE
  refine CE.out.mono ?_
  rintro e w7 ⟨gm, rfl, ⟨hgm, hkc⟩, b7⟩
  clear CE hnn
  have Kr7 := Lib.hid (Kr6.out.below b7 Kr6.out.lt)
  have S7 := Lib.hid (S6.out.below b7)
  have N7 := Lib.hid (only_trans N6.out (only_of_below b7))
  have szq7 : w6.heap.size ≤ w7.heap.size := b7.size
  clear b7 S6 N6 Kr6
  have Kc7 := Lib.hid hkc; clear hkc
  have hgc := Kc7.out.lt
  go_upto_region 4 with (fail)
  generalize hW3 : w7.alloc (.cells #[.int .i64 (p - 12), .int .i64 (q - 12), .int .i64 (6 + u), .int .i64 (6 + v), .slice (some ⟨gm, 0, none⟩) nn nn] 40) = w8
  have bq : Below w7.heap.size w7 w8 := by rw [← hW3]; exact (Below.refl _ _).alloc (Nat.le_refl _) _
  have kq : Blk w8 w7.heap.size 40 #[.int .i64 (p - 12), .int .i64 (q - 12), .int .i64 (6 + u), .int .i64 (6 + v), .slice (some ⟨gm, 0, none⟩) nn nn] := by rw [← hW3]; exact Blk.new _ _ _
  clear hW3
  have zq : w7.heap.size < w8.heap.size := kq.lt
  have Kr8 := Lib.hid (Kr7.out.below bq Kr7.out.lt)
  have Kc8 := Lib.hid (Kc7.out.below bq Kc7.out.lt)
  have S8 := Lib.hid (S7.out.below bq)
  have N8 := Lib.hid (only_trans N7.out (only_of_below bq))
  have szq8 : w7.heap.size ≤ w8.heap.size := bq.size
  clear bq S7 N7 Kr7 Kc7
  have Km8 := Lib.hid kq; clear kq
  obtain ⟨c0, c1, c2, c3, c4⟩ := cells_5 Km8.out
  go_wp2_with fail
  clear c0 c1 c2 c3 c4
  obtain ⟨mb, hmb⟩ : ∃ mb, mb = w7.heap.size := ⟨_, rfl⟩
  rw [← hmb] at Km8 ⊢
  have hmw : w.heap.size < mb := by omega
  have hmg : mb ≠ gm := by omega
  clear hmb
  go_loopw [4, 28] (fun v4 v28 wr => ∃ (k : Nat) (bs : List Bool), k ≤ nn ∧ Hid (bs.length = nn) ∧ Hid (Blk wr w.heap.size 40 #[.int .i64 0, .int .i64 0, .int .i64 0, .int .i64 0, .slice none 0 0]) ∧ Hid (Blk wr mb 40 #[.int .i64 (p - 12), .int .i64 (q - 12), .int .i64 (6 + u), .int .i64 (6 + v), .slice (some ⟨gm, 0, none⟩) nn nn]) ∧ Hid (Blk wr gm 4 (bC bs).toArray) ∧ Hid (Src wr B g) ∧ Hid (Only w wr g) ∧ v28 = .int .i64 (k : Int)) (fun _ i _ => nn - (intOf i).toNat)
  case atStart => exact ⟨0, noB nn, by omega, noB_len nn, Kr8.out, Km8.out, Kc8.out, S8.out, N8.out, rfl⟩
  case round =>
    clear Kr8 Km8 Kc8 S8 N8
    obtain ⟨k, bs, hk, HB, Kr1, Km1, Kc1, S1, N1, rfl⟩ := hrel
    have hwB : w.heap.size ≤ wr.heap.size := N1.out.size
    have hml := Km1.out.lt
    by_cases hlt : k < nn
    · have hlt' : (k : Int) < (nn : Int) := by omega
      have hk0 : (0 : Int) ≤ (k : Int) := by omega
      go_upto_region 7 with (fail)
      have hWB : B ≤ wr.heap.size := by omega
      have hgW : g < wr.heap.size := by omega
      have hS0 : SrcOnly wr B g wr.drew := SrcOnly.drew ⟨S1.out, only_refl _ _⟩
      refine' wp_region_slots (SrcOnly wr B g) (fun w w' => Only w w' g) [isV (.pointer (some ⟨mb, 4, none⟩)), isV (.slice (some ⟨gm, 0, none⟩) nn nn), isV (.int .i64 (k : Int)), isV (.pointer (some ⟨g, 0, none⟩)), isInt 0 2, (fun v _ => ∃ b : Bool, v = .bool b), isV (.pointer (some ⟨gm, k, none⟩))] mixed (by kernel_rfl) (by kernel_rfl) hS0 ?_ _ _ ?_ ?_ ?_
      · exact AllStable.cons (stable_V _ _) (AllStable.cons (stable_V _ _) (AllStable.cons (stable_V _ _) (AllStable.cons (stable_V _ _) (AllStable.cons (stable_Int _ _ _) (AllStable.cons (stable_pure _) (AllStable.cons (stable_V _ _) (AllStable.nil)))))))
      rotate_left 2
      · intro f; simp only [lay, List.setIfInBounds_toArray, List.set_cons_succ, List.set_cons_zero, Nat.reduceAdd]; exact rfl
      · refine AllTo.cons ?_ ?_
        · intro f v hS hT K hK
          simp only [Act.put, List.setIfInBounds_toArray, List.set_cons_succ, List.set_cons_zero] at hK
          go_simp
          exact hK.out _ _ rfl hS (only_refl _ _)
        refine AllTo.cons ?_ ?_
        · intro f v hS hT K hK
          have e0 := hT 0 _ rfl rfl
          dsimp only [isV] at e0
          obtain ⟨m0, m1, m2, m3, m4⟩ := cells_5 (Km1.out.grown hS.2 (by intro e; injection e with e; omega))
          simp only [Act.put, List.setIfInBounds_toArray, List.set_cons_succ, List.set_cons_zero, e0] at hK
          go_simp
          exact hK.out _ _ rfl hS (only_refl _ _)
        refine AllTo.cons ?_ ?_
        · intro f v hS hT K hK
          simp only [Act.put, List.setIfInBounds_toArray, List.set_cons_succ, List.set_cons_zero] at hK
          go_simp
          exact hK.out _ _ rfl hS (only_refl _ _)
        refine AllTo.cons ?_ ?_
        · intro f v hS hT K hK
          simp only [Act.put, List.setIfInBounds_toArray, List.set_cons_succ, List.set_cons_zero] at hK
          go_simp
          exact hK.out _ _ rfl hS (only_refl _ _)
        refine AllTo.cons ?_ ?_
        · intro f v hS hT K hK
          have e3 := hT 3 _ rfl rfl
          dsimp only [isV] at e3
          simp only [Act.put, List.setIfInBounds_toArray, List.set_cons_succ, List.set_cons_zero, e3] at hK
          go_simp
          refine (draw_any 3 B g v hS.1 (Nat.le_trans hWB hS.2.size)).mono ?_
          rintro e w1 ⟨x, rfl, x0, x1, _, hs1, ho1⟩
          exact hK.out _ _ ⟨x, rfl, x0, by have := x1 (by omega); omega⟩ (hS.go hs1 ho1) ho1
        refine AllTo.cons ?_ ?_
        · intro f v hS hT K hK
          obtain ⟨x4, e4, l4, u4⟩ := hT 4 _ rfl rfl
          simp only [Act.put, List.setIfInBounds_toArray, List.set_cons_succ, List.set_cons_zero, e4] at hK
          go_simp
          exact hK.out _ _ ⟨_, rfl⟩ hS (only_refl _ _)
        refine AllTo.cons ?_ ?_
        · intro f v hS hT K hK
          have e1 := hT 1 _ rfl rfl
          dsimp only [isV] at e1
          have e2 := hT 2 _ rfl rfl
          dsimp only [isV] at e2
          simp only [Act.put, List.setIfInBounds_toArray, List.set_cons_succ, List.set_cons_zero, e1, e2] at hK
          go_simp
          exact hK.out _ _ rfl hS (only_refl _ _)
        exact AllTo.nil
      · intro f v hS hT K hK
        obtain ⟨bb, ea⟩ := hT 5 _ rfl
        have eb := hT 6 _ rfl
        dsimp only [isV] at eb
        rw [ea, eb]
        clear ea eb hT
        have hvs := hS.2.size
        have CPv := Kc1.out.grown hS.2 (by intro e; injection e with e; omega)
        have u0 := blk_boolat CPv (k := k) (by rw [HB.out]; exact hlt)
        have f0 := CPv.frozen k
        have Kc2 := Lib.hid (blk_bool CPv bb HB.out hlt)
        have Kr2 := Lib.hid ((Kr1.out.grown hS.2 (by intro e; injection e with e; omega)).far (p := ⟨gm, k, none⟩) (by dsimp only; omega) (.bool bb))
        have Km2 := Lib.hid ((Km1.out.grown hS.2 (by intro e; injection e with e; omega)).far (p := ⟨gm, k, none⟩) (by dsimp only; omega) (.bool bb))
        have S2 := Lib.hid (src_cell hS.1 gm k (by omega) (by omega) (.bool bb))
        have N2 := Lib.hid (only_cell (only_trans N1.out hS.2) gm k (by omega) (.bool bb))
        have HB2 := Lib.hid (show (bs.set k bb).length = nn by rw [List.length_set]; exact HB.out)
        clear hS CPv
        go_simp
        refine hK.out _ _ ?_
        clear hK K
        go_wp2_with fail
        go_roundw
        case rel => exact ⟨k + 1, bs.set k bb, by omega, HB2.out, Kr2.out, Km2.out, Kc2.out, S2.out, N2.out, by go_num⟩
        case measure => simp [intOf]; omega
    · obtain rfl : k = nn := by omega
      have hl := HB.out
      subst hl
      have O1 := Lib.hid (blk_ownM (n := bs.length) (size := 1) (base := w.heap.size) Kc1.out (bC_len bs) (by omega) (by simp only [maxLen]; omega))
      have HNEr := Lib.hid (show ∀ k, (Value.slice (some ⟨gm, 0, none⟩) bs.length bs.length).ownBlock = some k → k ≠ w.heap.size from fun k hk => by injection hk with hk; dsimp only at hk; omega)
      obtain ⟨c0, c1, c2, c3, c4⟩ := cells_5 Km1.out
      obtain ⟨fr0, fr1, fr2, fr3, fr4, fr5, fr6, fr7, fr8, fr9, fr10, fr11, fr12, fr13, fr14⟩ := facts_5 Kr1.out
      obtain ⟨kq, kept⟩ := stored_5 Kr1.out S1.out N1.out (Nat.le_refl _) (by omega) hB (.int .i64 (p - 12)) (.int .i64 (q - 12)) (.int .i64 (6 + u)) (.int .i64 (6 + v)) (.slice (some ⟨gm, 0, none⟩) bs.length bs.length) _ rfl
      have OG := Lib.hid (kept.own O1.out HNEr.out)
      have KS := Lib.hid kept.src; have KO := Lib.hid kept.only
      obtain ⟨q0, q1, q2, q3, q4⟩ := cells_5 kq
      clear kq kept
      go_wp2_with fail
      exact bodyPost_ret (v := .agg #[.int .i64 (p - 12), .int .i64 (q - 12), .int .i64 (6 + u), .int .i64 (6 + v), .slice (some ⟨gm, 0, none⟩) bs.length bs.length]) (by simp [results, Tryz.results68, go_sem, q0, q1, q2, q3, q4, fr10, fr11, fr12, fr13, fr14]) rfl ⟨(p - 12), (q - 12), (6 + u), (6 + v), bs, some ⟨gm, 0, none⟩, bs.length, rfl, own_mono OG.out (by omega), (by omega), by omega, by omega, KS.out, KO.out⟩
end Go.Proofs.YtaaioengebaebaaGreatDoor
