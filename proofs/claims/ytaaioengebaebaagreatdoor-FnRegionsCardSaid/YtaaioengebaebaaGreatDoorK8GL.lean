/- The region of the reference. The region of the program. AreCompatible of both sides. RegionOf of both sides. -/
import Derived.Test.YtaaioengebaebaaGreatDoorRows
import Derived.Test.YtaaioengebaebaaGreatDoorK8GA
import Derived.WalkKit
import Derived.ProofKit
import Derived.OpenShut
import Derived.BigQuiet
import Derived.Outline
import Derived.WalkSpells
import Derived.WalkLawsBesides
import Derived.Deep.DeepCutAuto
import Derived.Test.YtaaioengebaebaaGreatDoorK8RN1
import Derived.Test.YtaaioengebaebaaGreatDoorK8GK
import Derived.Test.YtaaioengebaebaaGreatDoorK8Q6
namespace Go.Proofs.YtaaioengebaebaaGreatDoor
open Go.ChangeShapes Go.WideShapes Go.ChangeAt Go.RowKit Go.Sort

/-- The cells of the region. -/
def regB (xs : List Sit) (ds : List Dsc) (x y W : Int) (n : Nat) : List Bool := (List.range n).map (fun i => cellF xs ds x y W i == (ds.length : Int))
theorem rngB_len (F : Nat → Bool) (n : Nat) : (bC ((List.range n).map F)).length = n := by simp [bC]
theorem rngB_get (F : Nat → Bool) (n k : Nat) (h : k < n) : (bC ((List.range n).map F))[k]? = some (.bool (F k)) := by
  simp [bC, List.getElem?_range h]
theorem specCntF (xs : List Sit) (ds : List Dsc) (hz : codeS xs ds true = 0) (x y W : Int) (i : Nat) (hp : Co (pX x W i)) (hq : Co (pY y W i)) (A B : Option Addr) (c e : Nat) (w : World) (h : HasSit w xs A) (h2 : HasDsc w ds B) :
    Calls Tryz.prog 45 #[.slice A xs.length c, .slice B ds.length e, .agg #[.int .i64 (pX x W i), .int .i64 (pY y W i)]] w fun o w' => o = .returned (.int .i64 (cellF xs ds x y W i)) ∧ Below w.heap.size w w' :=
  specCnt_any xs ds hz (pX x W i) (pY y W i) hp hq A B c e w h h2
set_option maxRecDepth 100000 in
set_option maxHeartbeats 4000000 in
theorem specReg_any (xs : List Sit) (ds : List Dsc) (hz : codeS xs ds true = 0) (x y W H : Int) (A B Am : Option Addr) (c d n cm : Nat) (hm : maskB x y W H n = true) (w : World) (h : HasSit w xs A) (h2 : HasDsc w ds B) :
    Calls Tryz.prog 59 #[.slice A xs.length c, .slice B ds.length d, maskV x y W H Am n cm] w fun e w' => ∃ g, e = .returned (maskV x y W H (some ⟨g, 0, none⟩) n n) ∧ w.heap.size ≤ g ∧ Blk w' g 4 (bC (regB xs ds x y W n)).toArray ∧ Below w.heap.size w w' := by
  have mixed : Tryz.prog.follows Departure.mixedOrders = true := by kernel_rfl
  obtain ⟨hx, hx', hy, hy', h1, h1', hH, hH', hn6, hnW, _, _⟩ := mask_bd hm
  have CE := Lib.hid (fun W' => specEmptyM x y W H Am n cm hn6 hnW W')
  have CP := Lib.hid (fun i (hi : i ≤ n) W' => specPoint x y W H Am n cm i hx hx' hy hy' h1 h1' (by omega) W')
  have CC := Lib.hid (fun i (hi : i ≤ n) W' (hb : Below w.heap.size w W') => specCntF xs ds hz x y W i (pX_co i hx hx' h1 h1' (by omega)) (pY_co i hy hy' h1 h1' (by omega)) A B c d W' (h.below hb) (h2.below hb))
  unfold regB
  have HL := Lib.hid (rngB_len (fun i => cellF xs ds x y W i == (ds.length : Int)) n)
  have HG := Lib.hid (rngB_get (fun i => cellF xs ds x y W i == (ds.length : Int)) n)
  clear h h2 hz hm hx hx' hy hy' h1 h1' hH hH' hnW
  generalize bC ((List.range n).map (fun i => cellF xs ds x y W i == (ds.length : Int))) = L at HL HG ⊢
  generalize cellF xs ds x y W = fc at CC HG
  try dsimp only at HG
  have KN := Lib.hid (blks_two w 40 40 #[.int .i64 x, .int .i64 y, .int .i64 W, .int .i64 H, .slice Am n cm] #[.int .i64 0, .int .i64 0, .int .i64 0, .int .i64 0, .slice none 0 0])
  unfold maskV at CE CP ⊢
  go_enter Tryz.func59, Tryz.ntmps59
  go_wp2_with fail
  generalize hW : (w.alloc (.cells #[.int .i64 x, .int .i64 y, .int .i64 W, .int .i64 H, .slice Am n cm] 40)).alloc (.cells #[.int .i64 0, .int .i64 0, .int .i64 0, .int .i64 0, .slice none 0 0] 40) = W0
  obtain ⟨km, kr, bw, hsz0⟩ := KN.out W0 hW.symm
  have KM := Lib.hid km; have KR := Lib.hid kr; have BB := Lib.hid bw
  clear hW km kr bw KN
  obtain ⟨m0, m1, m2, m3, m4⟩ := cells_5 KM.out
  refine (CE.out W0).mono ?_; rintro e w1 hE
  clear m0 m1 m2 m3 m4
  obtain ⟨g, rfl, hmd, b1⟩ := hE
  have KM1 := Lib.hid (KM.out.below b1 KM.out.lt); have KR1 := Lib.hid (KR.out.below b1 KR.out.lt); have B1 := Lib.hid (BB.out.trans (b1.mono BB.out.size))
  have hgW := hmd.1
  have hgl := (hmd.2 L HL.out).lt
  go_upto_region 2 with (fail)
  have KN2 := Lib.hid (blks_one w1 40 #[.int .i64 x, .int .i64 y, .int .i64 W, .int .i64 H, .slice (some ⟨g, 0, none⟩) n n])
  generalize hW2 : w1.alloc (.cells #[.int .i64 x, .int .i64 y, .int .i64 W, .int .i64 H, .slice (some ⟨g, 0, none⟩) n n] 40) = W2
  obtain ⟨kp, bw2, hz2⟩ := KN2.out W2 hW2.symm
  have KP := Lib.hid kp; have KM2 := Lib.hid (KM1.out.below bw2 KM1.out.lt); have KR2 := Lib.hid (KR1.out.below bw2 KR1.out.lt); have B2 := Lib.hid (B1.out.trans (bw2.mono B1.out.size)); have HCp := Lib.hid ((hmd.2 L HL.out).below bw2 hgl)
  obtain ⟨pb, hpb⟩ : ∃ p, p = w1.heap.size := ⟨_, rfl⟩
  rw [← hpb] at KP hgl ⊢
  have hrp : w.heap.size + 1 < pb := by have := KR1.out.lt; omega
  clear hW2 kp bw2 hz2 hmd b1 KM KR BB KM1 KR1 B1 KN2 hpb
  obtain ⟨p0, p1, p2, p3, p4⟩ := cells_5 KP.out
  go_wp2_with fail
  clear p0 p1 p2 p3 p4
  go_loopw [8, 14] (fun v8 v14 wr => ∃ k : Nat, k ≤ n ∧ Hid (Below w.heap.size w wr) ∧ Hid (Blk wr w.heap.size 40 #[.int .i64 x, .int .i64 y, .int .i64 W, .int .i64 H, .slice Am n cm]) ∧ Hid (Blk wr (w.heap.size + 1) 40 #[.int .i64 0, .int .i64 0, .int .i64 0, .int .i64 0, .slice none 0 0]) ∧ Hid (Blk wr pb 40 #[.int .i64 x, .int .i64 y, .int .i64 W, .int .i64 H, .slice (some ⟨g, 0, none⟩) n n]) ∧ Hid (Copied wr g 4 k L) ∧ v14 = .int .i64 k) (fun _ i _ => n - (intOf i).toNat)
  case atStart => exact ⟨0, Nat.zero_le _, B2.out, KM2.out, KR2.out, KP.out, HCp.out, rfl⟩
  case round =>
    clear B2 KM2 KR2 KP HCp
    obtain ⟨k, hk, BW, KM, KR, KP, HCp, rfl⟩ := hrel
    by_cases hlt : k < n
    · have hlt' : (k : Int) < (n : Int) := by omega
      have k0 : (0 : Int) ≤ (k : Int) := by omega
      go_upto_region 5 with (fail)
      refine' wp_region_slots (OverW wr) KeepW [isV (.pointer (some ⟨pb, 4, none⟩)), isV (.slice (some ⟨g, 0, none⟩) n n), isV (.int .i64 (k : Int)), isV (.slice A xs.length c), isV (.slice B ds.length d), isV (.agg #[.int .i64 x, .int .i64 y, .int .i64 W, .int .i64 H, .slice Am n cm]), isV (.int .i64 (k : Int)), isV (.agg #[.int .i64 (pX x W k), .int .i64 (pY y W k)]), isV (.int .i64 (fc k)), isV (.slice B ds.length d), isV (.int .i64 (ds.length : Int)), isV (.bool (fc k == (ds.length : Int))), isV (.pointer (some ⟨g, k, none⟩))] mixed (by kernel_rfl) (by kernel_rfl) (OverW.drew (Below.refl _ _)) ?_ _ _ ?_ ?_ ?_
      · exact AllStable.cons (keep_V _) (AllStable.cons (keep_V _) (AllStable.cons (keep_V _) (AllStable.cons (keep_V _) (AllStable.cons (keep_V _) (AllStable.cons (keep_V _) (AllStable.cons (keep_V _) (AllStable.cons (keep_V _) (AllStable.cons (keep_V _) (AllStable.cons (keep_V _) (AllStable.cons (keep_V _) (AllStable.cons (keep_V _) (AllStable.cons (keep_V _) (AllStable.nil)))))))))))))
      rotate_left 2
      · intro f; simp only [lay, List.setIfInBounds_toArray, List.set_cons_succ, List.set_cons_zero, Nat.reduceAdd]; exact rfl
      · refine AllTo.cons ?_ ?_
        · intro f v hS hT K hK
          simp only [Act.put, List.setIfInBounds_toArray, List.set_cons_succ, List.set_cons_zero] at hK
          go_simp
          exact hK.out _ _ rfl hS (keep_refl _)
        refine AllTo.cons ?_ ?_
        · intro f v hS hT K hK
          have e0 := hT 0 _ rfl rfl
          dsimp only [isV] at e0
          obtain ⟨p0, p1, p2, p3, p4⟩ := cells_5 (KP.out.below hS KP.out.lt)
          simp only [Act.put, List.setIfInBounds_toArray, List.set_cons_succ, List.set_cons_zero, e0] at hK
          go_simp
          exact hK.out _ _ rfl hS (keep_refl _)
        refine AllTo.cons ?_ ?_
        · intro f v hS hT K hK
          simp only [Act.put, List.setIfInBounds_toArray, List.set_cons_succ, List.set_cons_zero] at hK
          go_simp
          exact hK.out _ _ rfl hS (keep_refl _)
        refine AllTo.cons ?_ ?_
        · intro f v hS hT K hK
          simp only [Act.put, List.setIfInBounds_toArray, List.set_cons_succ, List.set_cons_zero] at hK
          go_simp
          exact hK.out _ _ rfl hS (keep_refl _)
        refine AllTo.cons ?_ ?_
        · intro f v hS hT K hK
          simp only [Act.put, List.setIfInBounds_toArray, List.set_cons_succ, List.set_cons_zero] at hK
          go_simp
          exact hK.out _ _ rfl hS (keep_refl _)
        refine AllTo.cons ?_ ?_
        · intro f v hS hT K hK
          obtain ⟨m0, m1, m2, m3, m4⟩ := cells_5 (KM.out.below hS KM.out.lt)
          simp only [Act.put, List.setIfInBounds_toArray, List.set_cons_succ, List.set_cons_zero] at hK
          go_simp
          exact hK.out _ _ rfl hS (keep_refl _)
        refine AllTo.cons ?_ ?_
        · intro f v hS hT K hK
          simp only [Act.put, List.setIfInBounds_toArray, List.set_cons_succ, List.set_cons_zero] at hK
          go_simp
          exact hK.out _ _ rfl hS (keep_refl _)
        refine AllTo.cons ?_ ?_
        · intro f v hS hT K hK
          have e5 := hT 5 _ rfl rfl
          dsimp only [isV] at e5
          have e6 := hT 6 _ rfl rfl
          dsimp only [isV] at e6
          simp only [Act.put, List.setIfInBounds_toArray, List.set_cons_succ, List.set_cons_zero, e5, e6] at hK
          go_simp
          refine (CP.out k hk v).mono ?_
          rintro e w1 ⟨rfl, b1⟩
          exact hK.out _ _ rfl (hS.go b1) b1
        refine AllTo.cons ?_ ?_
        · intro f v hS hT K hK
          have e3 := hT 3 _ rfl rfl
          dsimp only [isV] at e3
          have e4 := hT 4 _ rfl rfl
          dsimp only [isV] at e4
          have e7 := hT 7 _ rfl rfl
          dsimp only [isV] at e7
          simp only [Act.put, List.setIfInBounds_toArray, List.set_cons_succ, List.set_cons_zero, e3, e4, e7] at hK
          go_simp
          refine (CC.out k hk v (BW.out.trans (hS.mono BW.out.size))).mono ?_
          rintro e w1 ⟨rfl, b1⟩
          exact hK.out _ _ rfl (hS.go b1) b1
        refine AllTo.cons ?_ ?_
        · intro f v hS hT K hK
          simp only [Act.put, List.setIfInBounds_toArray, List.set_cons_succ, List.set_cons_zero] at hK
          go_simp
          exact hK.out _ _ rfl hS (keep_refl _)
        refine AllTo.cons ?_ ?_
        · intro f v hS hT K hK
          have e9 := hT 9 _ rfl rfl
          dsimp only [isV] at e9
          simp only [Act.put, List.setIfInBounds_toArray, List.set_cons_succ, List.set_cons_zero, e9] at hK
          go_simp
          exact hK.out _ _ rfl hS (keep_refl _)
        refine AllTo.cons ?_ ?_
        · intro f v hS hT K hK
          have e8 := hT 8 _ rfl rfl
          dsimp only [isV] at e8
          have e10 := hT 10 _ rfl rfl
          dsimp only [isV] at e10
          simp only [Act.put, List.setIfInBounds_toArray, List.set_cons_succ, List.set_cons_zero, e8, e10] at hK
          go_simp
          exact hK.out _ _ rfl hS (keep_refl _)
        refine AllTo.cons ?_ ?_
        · intro f v hS hT K hK
          have e1 := hT 1 _ rfl rfl
          dsimp only [isV] at e1
          have e2 := hT 2 _ rfl rfl
          dsimp only [isV] at e2
          simp only [Act.put, List.setIfInBounds_toArray, List.set_cons_succ, List.set_cons_zero, e1, e2] at hK
          go_simp
          exact hK.out _ _ rfl hS (keep_refl _)
        exact AllTo.nil
      · intro f v hS hT K hK
        have ea := hT 11 _ rfl
        have eb := hT 12 _ rfl
        dsimp only [isV] at ea eb
        rw [ea, eb]
        clear ea eb hT
        have CPv := HCp.out.below hS HCp.out.lt
        obtain ⟨⟨u0, d0⟩, f0⟩ := CPv.cell (j := k) (by rw [HL.out]; omega)
        have KM2 := Lib.hid ((KM.out.below hS KM.out.lt).far (p := ⟨g, k, none⟩) (by intro e0; have e1 : w.heap.size = g := e0; omega) (.bool (fc k == (ds.length : Int))))
        have KR2 := Lib.hid ((KR.out.below hS KR.out.lt).far (p := ⟨g, k, none⟩) (by intro e0; have e1 : w.heap.size + 1 = g := e0; omega) (.bool (fc k == (ds.length : Int))))
        have KP2 := Lib.hid ((KP.out.below hS KP.out.lt).far (p := ⟨g, k, none⟩) (by intro e0; have e1 : pb = g := e0; omega) (.bool (fc k == (ds.length : Int))))
        have HC2 := Lib.hid (CPv.set_ (HG.out k hlt))
        have B2 := Lib.hid ((BW.out.trans (hS.mono BW.out.size)).setCell (p := ⟨g, k, none⟩) (show w.heap.size ≤ g by omega) (.bool (fc k == (ds.length : Int))))
        clear hS CPv
        go_simp
        refine hK.out _ _ ?_
        clear hK K
        go_wp2_with fail
        go_roundw
        case rel => exact ⟨k + 1, by omega, B2.out, KM2.out, KR2.out, KP2.out, HC2.out, by go_num⟩
        case measure => simp [intOf]; omega
    · obtain rfl : k = n := by omega
      obtain ⟨p0, p1, p2, p3, p4⟩ := cells_5 KP.out
      obtain ⟨f0, f1, f2, f3, f4, f5, f6, f7, f8, f9, f10, f11, f12, f13, f14⟩ := facts_5 KR.out
      have HD := Lib.hid (show Blk wr g 4 L.toArray from Copied.done (by rw [HL.out]; exact HCp.out))
      go_wp2_with fail
      exact bodyPost_ret (v := .agg #[.int .i64 x, .int .i64 y, .int .i64 W, .int .i64 H, .slice (some ⟨g, 0, none⟩) k k]) (by simp [results, Tryz.results59, go_sem, f10, f11, f12, f13, f14]) rfl ⟨g, rfl, by omega, blk_far5 HD.out (by omega) _ _ _ _ _, below_5 BW.out (by omega) _ _ _ _ _⟩
end Go.Proofs.YtaaioengebaebaaGreatDoor
namespace Go.Proofs.YtaaioengebaebaaGreatDoor
open Go.ChangeShapes Go.WideShapes Go.ChangeAt Go.RowKit Go.Sort

theorem lenDs_any (A : Option Addr) (n c : Nat) (w : World) : Calls Tryz.prog 92 #[.slice A n c] w fun e w' => e = .returned (.int .i64 n) ∧ Below w.heap.size w w' := by
  go_enter Tryz.func92, Tryz.ntmps92
  go_wp2
  go_ret
  exact ⟨rfl, Below.refl _ _⟩
theorem implCntF (xs : List Sit) (ds : List Dsc) (hz : codeS xs ds true = 0) (x y W : Int) (i : Nat) (hp : Co (pX x W i)) (hq : Co (pY y W i)) (A B : Option Addr) (c e : Nat) (w : World) (h : HasSit w xs A) (h2 : HasDsc w ds B) :
    Calls Tryz.prog 54 #[.slice A xs.length c, .slice B ds.length e, .agg #[.int .i64 (pX x W i), .int .i64 (pY y W i)]] w fun o w' => o = .returned (.int .i64 (cellF xs ds x y W i)) ∧ Below w.heap.size w w' :=
  implCnt_any xs ds true hz (pX x W i) (pY y W i) hp hq A B c e w h h2
set_option maxRecDepth 100000 in
set_option maxHeartbeats 1000000 in
theorem implReg1_any (xs : List Sit) (ds : List Dsc) (hz : codeS xs ds true = 0) (x y W H : Int) (A B Am : Option Addr) (c d n cm : Nat) (hm : maskB x y W H n = true) (i : Nat) (hi : i ≤ n) (gx gd gm : Nat) (tx td tm : TypeId) (w : World) (hbx : Blk w gx tx #[.slice A xs.length c]) (hbd : Blk w gd td #[.slice B ds.length d]) (hbm : Blk w gm tm #[.int .i64 x, .int .i64 y, .int .i64 W, .int .i64 H, .slice Am n cm]) (h : HasSit w xs A) (h2 : HasDsc w ds B) :
    Calls Tryz.prog 91 #[.int .i64 i, .pointer (some ⟨gx, 0, none⟩), .pointer (some ⟨gd, 0, none⟩), .pointer (some ⟨gm, 0, none⟩)] w fun e w' => e = .returned (.bool (cellF xs ds x y W i == (ds.length : Int))) ∧ Below w.heap.size w w' := by
  have mixed : Tryz.prog.follows Departure.mixedOrders = true := by kernel_rfl
  obtain ⟨hx, hx', hy, hy', h1, h1', hH, hH', hn6, hnW, _, _⟩ := mask_bd hm
  have CP := Lib.hid (fun W' => implPoint x y W H Am n cm i hx hx' hy hy' h1 h1' (by omega) W')
  have CC := Lib.hid (fun W' (hb : Below w.heap.size w W') => implCntF xs ds hz x y W i (pX_co i hx hx' h1 h1' (by omega)) (pY_co i hy hy' h1 h1' (by omega)) A B c d W' (h.below hb) (h2.below hb))
  have KX := Lib.hid hbx; have KD := Lib.hid hbd; have KM := Lib.hid hbm
  have CL := Lib.hid (fun W' => lenDs_any B ds.length d W')
  clear h h2 hz hm hx hx' hy hy' h1 h1' hH hH' hnW hbx hbd hbm
  generalize cellF xs ds x y W i = q at CC ⊢
  unfold maskV at CP
  go_enter Tryz.func91, Tryz.ntmps91
  go_upto_region 1 with (fail)
  refine' wp_region_slots (OverW w) KeepW [isV (.slice A xs.length c), isV (.slice B ds.length d), isV (.agg #[.int .i64 x, .int .i64 y, .int .i64 W, .int .i64 H, .slice Am n cm]), isV (.int .i64 (i : Int)), isV (.agg #[.int .i64 (pX x W i), .int .i64 (pY y W i)]), isV (.int .i64 q), isV (.slice B ds.length d), isV (.int .i64 (ds.length : Int)), isV (.bool (q == (ds.length : Int)))] mixed (by kernel_rfl) (by kernel_rfl) (OverW.drew (Below.refl _ _)) ?_ _ _ ?_ ?_ ?_
  · exact AllStable.cons (keep_V _) (AllStable.cons (keep_V _) (AllStable.cons (keep_V _) (AllStable.cons (keep_V _) (AllStable.cons (keep_V _) (AllStable.cons (keep_V _) (AllStable.cons (keep_V _) (AllStable.cons (keep_V _) (AllStable.cons (keep_V _) (AllStable.nil)))))))))
  rotate_left 2
  · intro f; simp only [lay, List.setIfInBounds_toArray, List.set_cons_succ, List.set_cons_zero, Nat.reduceAdd]; exact rfl
  · refine AllTo.cons ?_ ?_
    · intro f v hS hT K hK
      have hc : v.cell? ⟨gx, 0, none⟩ = some (.slice A xs.length c) := by rw [(KX.out.below hS KX.out.lt).cell]; rfl
      simp only [Act.put, List.setIfInBounds_toArray, List.set_cons_succ, List.set_cons_zero] at hK
      go_simp
      exact hK.out _ _ rfl hS (keep_refl _)
    refine AllTo.cons ?_ ?_
    · intro f v hS hT K hK
      have hc : v.cell? ⟨gd, 0, none⟩ = some (.slice B ds.length d) := by rw [(KD.out.below hS KD.out.lt).cell]; rfl
      simp only [Act.put, List.setIfInBounds_toArray, List.set_cons_succ, List.set_cons_zero] at hK
      go_simp
      exact hK.out _ _ rfl hS (keep_refl _)
    refine AllTo.cons ?_ ?_
    · intro f v hS hT K hK
      obtain ⟨m0, m1, m2, m3, m4⟩ := cells_5 (KM.out.below hS KM.out.lt)
      simp only [Act.put, List.setIfInBounds_toArray, List.set_cons_succ, List.set_cons_zero] at hK
      go_simp
      exact hK.out _ _ rfl hS (keep_refl _)
    refine AllTo.cons ?_ ?_
    · intro f v hS hT K hK
      simp only [Act.put, List.setIfInBounds_toArray, List.set_cons_succ, List.set_cons_zero] at hK
      go_simp
      exact hK.out _ _ rfl hS (keep_refl _)
    refine AllTo.cons ?_ ?_
    · intro f v hS hT K hK
      have e2 := hT 2 _ rfl rfl
      dsimp only [isV] at e2
      have e3 := hT 3 _ rfl rfl
      dsimp only [isV] at e3
      simp only [Act.put, List.setIfInBounds_toArray, List.set_cons_succ, List.set_cons_zero, e2, e3] at hK
      go_simp
      refine (CP.out v).mono ?_
      rintro e w1 ⟨rfl, b1⟩
      exact hK.out _ _ rfl (hS.go b1) b1
    refine AllTo.cons ?_ ?_
    · intro f v hS hT K hK
      have e0 := hT 0 _ rfl rfl
      dsimp only [isV] at e0
      have e1 := hT 1 _ rfl rfl
      dsimp only [isV] at e1
      have e4 := hT 4 _ rfl rfl
      dsimp only [isV] at e4
      simp only [Act.put, List.setIfInBounds_toArray, List.set_cons_succ, List.set_cons_zero, e0, e1, e4] at hK
      go_simp
      refine (CC.out v hS).mono ?_
      rintro e w1 ⟨rfl, b1⟩
      exact hK.out _ _ rfl (hS.go b1) b1
    refine AllTo.cons ?_ ?_
    · intro f v hS hT K hK
      have hc : v.cell? ⟨gd, 0, none⟩ = some (.slice B ds.length d) := by rw [(KD.out.below hS KD.out.lt).cell]; rfl
      simp only [Act.put, List.setIfInBounds_toArray, List.set_cons_succ, List.set_cons_zero] at hK
      go_simp
      exact hK.out _ _ rfl hS (keep_refl _)
    refine AllTo.cons ?_ ?_
    · intro f v hS hT K hK
      have e6 := hT 6 _ rfl rfl
      dsimp only [isV] at e6
      simp only [Act.put, List.setIfInBounds_toArray, List.set_cons_succ, List.set_cons_zero, e6] at hK
      go_simp
      refine (CL.out v).mono ?_
      rintro e w1 ⟨rfl, b1⟩
      exact hK.out _ _ rfl (hS.go b1) b1
    refine AllTo.cons ?_ ?_
    · intro f v hS hT K hK
      have e5 := hT 5 _ rfl rfl
      dsimp only [isV] at e5
      have e7 := hT 7 _ rfl rfl
      dsimp only [isV] at e7
      simp only [Act.put, List.setIfInBounds_toArray, List.set_cons_succ, List.set_cons_zero, e5, e7] at hK
      go_simp
      exact hK.out _ _ rfl hS (keep_refl _)
    exact AllTo.nil
  · intro f v hS hT K hK
    have e := hT 8 _ rfl
    dsimp only [isV] at e
    rw [e]
    clear e hT
    have BV := Lib.hid hS
    clear hS
    go_simp
    refine hK.out _ _ ?_
    clear hK K
    go_wp2_with fail
    go_ret
    exact ⟨rfl, BV.out⟩
set_option maxRecDepth 100000 in
set_option maxHeartbeats 4000000 in
theorem filled_any (F : Nat → Bool) (a1 a2 a3 : Value) (x y W H : Int) (Am : Option Addr) (n cm : Nat) (hn : n ≤ 576) (w : World)
    (hp : ∀ k, k ≤ n → ∀ v, Below w.heap.size w v → Calls Tryz.prog 91 #[.int .i64 k, a1, a2, a3] v fun e w' => e = .returned (.bool (F k)) ∧ Below v.heap.size v w') :
    Calls Tryz.prog 90 #[maskV x y W H Am n cm, .func (.func 91) #[] #[a1, a2, a3]] w fun e w' => ∃ g, e = .returned (maskV x y W H (some ⟨g, 0, none⟩) n n) ∧ w.heap.size ≤ g ∧ Blk w' g 4 (bC ((List.range n).map F)).toArray ∧ Below w.heap.size w w' := by
  have mixed : Tryz.prog.follows Departure.mixedOrders = true := by kernel_rfl
  have CE := Lib.hid (fun W' => implEmptyM x y W H Am n cm hn W')
  have HP := Lib.hid hp; clear hp
  have HL := Lib.hid (rngB_len F n)
  have HG := Lib.hid (rngB_get F n)
  generalize bC ((List.range n).map F) = L at HL HG ⊢
  have KN := Lib.hid (blks_two w 40 40 #[.int .i64 x, .int .i64 y, .int .i64 W, .int .i64 H, .slice Am n cm] #[.int .i64 0, .int .i64 0, .int .i64 0, .int .i64 0, .slice none 0 0])
  unfold maskV at CE ⊢
  go_enter Tryz.func90, Tryz.ntmps90
  go_wp2_with fail
  generalize hW : (w.alloc (.cells #[.int .i64 x, .int .i64 y, .int .i64 W, .int .i64 H, .slice Am n cm] 40)).alloc (.cells #[.int .i64 0, .int .i64 0, .int .i64 0, .int .i64 0, .slice none 0 0] 40) = W0
  obtain ⟨km, kr, bw, hsz0⟩ := KN.out W0 hW.symm
  have KM := Lib.hid km; have KR := Lib.hid kr; have BB := Lib.hid bw
  clear hW km kr bw KN
  obtain ⟨m0, m1, m2, m3, m4⟩ := cells_5 KM.out
  refine (CE.out W0).mono ?_; rintro e w1 hE
  clear m0 m1 m2 m3 m4
  obtain ⟨g, rfl, hmd, b1⟩ := hE
  have KM1 := Lib.hid (KM.out.below b1 KM.out.lt); have KR1 := Lib.hid (KR.out.below b1 KR.out.lt); have B1 := Lib.hid (BB.out.trans (b1.mono BB.out.size))
  have hgW := hmd.1
  have hgl := (hmd.2 L HL.out).lt
  go_upto_region 2 with (fail)
  have KN2 := Lib.hid (blks_one w1 40 #[.int .i64 x, .int .i64 y, .int .i64 W, .int .i64 H, .slice (some ⟨g, 0, none⟩) n n])
  generalize hW2 : w1.alloc (.cells #[.int .i64 x, .int .i64 y, .int .i64 W, .int .i64 H, .slice (some ⟨g, 0, none⟩) n n] 40) = W2
  obtain ⟨kp, bw2, hz2⟩ := KN2.out W2 hW2.symm
  have KP := Lib.hid kp; have KM2 := Lib.hid (KM1.out.below bw2 KM1.out.lt); have KR2 := Lib.hid (KR1.out.below bw2 KR1.out.lt); have B2 := Lib.hid (B1.out.trans (bw2.mono B1.out.size)); have HCp := Lib.hid ((hmd.2 L HL.out).below bw2 hgl)
  obtain ⟨pb, hpb⟩ : ∃ p, p = w1.heap.size := ⟨_, rfl⟩
  rw [← hpb] at KP hgl ⊢
  have hrp : w.heap.size + 1 < pb := by have := KR1.out.lt; omega
  clear hW2 kp bw2 hz2 hmd b1 KM KR BB KM1 KR1 B1 KN2 hpb
  obtain ⟨p0, p1, p2, p3, p4⟩ := cells_5 KP.out
  go_wp2_with fail
  clear p0 p1 p2 p3 p4
  go_loopw [6, 12] (fun v6 v12 wr => ∃ k : Nat, k ≤ n ∧ Hid (Below w.heap.size w wr) ∧ Hid (Blk wr w.heap.size 40 #[.int .i64 x, .int .i64 y, .int .i64 W, .int .i64 H, .slice Am n cm]) ∧ Hid (Blk wr (w.heap.size + 1) 40 #[.int .i64 0, .int .i64 0, .int .i64 0, .int .i64 0, .slice none 0 0]) ∧ Hid (Blk wr pb 40 #[.int .i64 x, .int .i64 y, .int .i64 W, .int .i64 H, .slice (some ⟨g, 0, none⟩) n n]) ∧ Hid (Copied wr g 4 k L) ∧ v12 = .int .i64 k) (fun _ i _ => n - (intOf i).toNat)
  case atStart => exact ⟨0, Nat.zero_le _, B2.out, KM2.out, KR2.out, KP.out, HCp.out, rfl⟩
  case round =>
    clear B2 KM2 KR2 KP HCp
    obtain ⟨k, hk, BW, KM, KR, KP, HCp, rfl⟩ := hrel
    by_cases hlt : k < n
    · have hlt' : (k : Int) < (n : Int) := by omega
      have k0 : (0 : Int) ≤ (k : Int) := by omega
      go_upto_region 5 with (fail)
      refine' wp_region_slots (OverW wr) KeepW [isV (.pointer (some ⟨pb, 4, none⟩)), isV (.slice (some ⟨g, 0, none⟩) n n), isV (.int .i64 (k : Int)), isV (.func (.func 91) #[] #[a1, a2, a3]), isV (.int .i64 (k : Int)), isV (.bool (F k)), isV (.pointer (some ⟨g, k, none⟩))] mixed (by kernel_rfl) (by kernel_rfl) (OverW.drew (Below.refl _ _)) ?_ _ _ ?_ ?_ ?_
      · exact AllStable.cons (keep_V _) (AllStable.cons (keep_V _) (AllStable.cons (keep_V _) (AllStable.cons (keep_V _) (AllStable.cons (keep_V _) (AllStable.cons (keep_V _) (AllStable.cons (keep_V _) (AllStable.nil)))))))
      rotate_left 2
      · intro f; simp only [lay, List.setIfInBounds_toArray, List.set_cons_succ, List.set_cons_zero, Nat.reduceAdd]; exact rfl
      · refine AllTo.cons ?_ ?_
        · intro f v hS hT K hK
          simp only [Act.put, List.setIfInBounds_toArray, List.set_cons_succ, List.set_cons_zero] at hK
          go_simp
          exact hK.out _ _ rfl hS (keep_refl _)
        refine AllTo.cons ?_ ?_
        · intro f v hS hT K hK
          have e0 := hT 0 _ rfl rfl
          dsimp only [isV] at e0
          obtain ⟨p0, p1, p2, p3, p4⟩ := cells_5 (KP.out.below hS KP.out.lt)
          simp only [Act.put, List.setIfInBounds_toArray, List.set_cons_succ, List.set_cons_zero, e0] at hK
          go_simp
          exact hK.out _ _ rfl hS (keep_refl _)
        refine AllTo.cons ?_ ?_
        · intro f v hS hT K hK
          simp only [Act.put, List.setIfInBounds_toArray, List.set_cons_succ, List.set_cons_zero] at hK
          go_simp
          exact hK.out _ _ rfl hS (keep_refl _)
        refine AllTo.cons ?_ ?_
        · intro f v hS hT K hK
          simp only [Act.put, List.setIfInBounds_toArray, List.set_cons_succ, List.set_cons_zero] at hK
          go_simp
          exact hK.out _ _ rfl hS (keep_refl _)
        refine AllTo.cons ?_ ?_
        · intro f v hS hT K hK
          simp only [Act.put, List.setIfInBounds_toArray, List.set_cons_succ, List.set_cons_zero] at hK
          go_simp
          exact hK.out _ _ rfl hS (keep_refl _)
        refine AllTo.cons ?_ ?_
        · intro f v hS hT K hK
          have e3 := hT 3 _ rfl rfl
          dsimp only [isV] at e3
          have e4 := hT 4 _ rfl rfl
          dsimp only [isV] at e4
          simp only [Act.put, List.setIfInBounds_toArray, List.set_cons_succ, List.set_cons_zero, e3, e4] at hK
          go_simp
          refine (HP.out k hk v (BW.out.trans (hS.mono BW.out.size))).mono ?_
          rintro e w1 ⟨rfl, b1⟩
          exact hK.out _ _ rfl (hS.go b1) b1
        refine AllTo.cons ?_ ?_
        · intro f v hS hT K hK
          have e1 := hT 1 _ rfl rfl
          dsimp only [isV] at e1
          have e2 := hT 2 _ rfl rfl
          dsimp only [isV] at e2
          simp only [Act.put, List.setIfInBounds_toArray, List.set_cons_succ, List.set_cons_zero, e1, e2] at hK
          go_simp
          exact hK.out _ _ rfl hS (keep_refl _)
        exact AllTo.nil
      · intro f v hS hT K hK
        have ea := hT 5 _ rfl
        have eb := hT 6 _ rfl
        dsimp only [isV] at ea eb
        rw [ea, eb]
        clear ea eb hT
        have CPv := HCp.out.below hS HCp.out.lt
        obtain ⟨⟨u0, d0⟩, f0⟩ := CPv.cell (j := k) (by rw [HL.out]; omega)
        have KM2 := Lib.hid ((KM.out.below hS KM.out.lt).far (p := ⟨g, k, none⟩) (by intro e0; have e1 : w.heap.size = g := e0; omega) (.bool (F k)))
        have KR2 := Lib.hid ((KR.out.below hS KR.out.lt).far (p := ⟨g, k, none⟩) (by intro e0; have e1 : w.heap.size + 1 = g := e0; omega) (.bool (F k)))
        have KP2 := Lib.hid ((KP.out.below hS KP.out.lt).far (p := ⟨g, k, none⟩) (by intro e0; have e1 : pb = g := e0; omega) (.bool (F k)))
        have HC2 := Lib.hid (CPv.set_ (HG.out k hlt))
        have B2 := Lib.hid ((BW.out.trans (hS.mono BW.out.size)).setCell (p := ⟨g, k, none⟩) (show w.heap.size ≤ g by omega) (.bool (F k)))
        clear hS CPv
        go_simp
        refine hK.out _ _ ?_
        clear hK K
        go_wp2_with fail
        go_roundw
        case rel => exact ⟨k + 1, by omega, B2.out, KM2.out, KR2.out, KP2.out, HC2.out, by go_num⟩
        case measure => simp [intOf]; omega
    · obtain rfl : k = n := by omega
      obtain ⟨p0, p1, p2, p3, p4⟩ := cells_5 KP.out
      obtain ⟨f0, f1, f2, f3, f4, f5, f6, f7, f8, f9, f10, f11, f12, f13, f14⟩ := facts_5 KR.out
      have HD := Lib.hid (show Blk wr g 4 L.toArray from Copied.done (by rw [HL.out]; exact HCp.out))
      go_wp2_with fail
      exact bodyPost_ret (v := .agg #[.int .i64 x, .int .i64 y, .int .i64 W, .int .i64 H, .slice (some ⟨g, 0, none⟩) k k]) (by simp [results, Tryz.results90, go_sem, f10, f11, f12, f13, f14]) rfl ⟨g, rfl, by omega, blk_far5 HD.out (by omega) _ _ _ _ _, below_5 BW.out (by omega) _ _ _ _ _⟩
set_option maxRecDepth 100000 in
set_option maxHeartbeats 4000000 in
theorem implReg_any (xs : List Sit) (ds : List Dsc) (hz : codeS xs ds true = 0) (x y W H : Int) (A B Am : Option Addr) (c d n cm : Nat) (hm : maskB x y W H n = true) (w : World) (h : HasSit w xs A) (h2 : HasDsc w ds B) :
    Calls Tryz.prog 60 #[.slice A xs.length c, .slice B ds.length d, maskV x y W H Am n cm] w fun e w' => ∃ g, e = .returned (maskV x y W H (some ⟨g, 0, none⟩) n n) ∧ w.heap.size ≤ g ∧ Blk w' g 4 (bC (regB xs ds x y W n)).toArray ∧ Below w.heap.size w w' := by
  obtain ⟨_, _, _, _, _, _, _, _, hn6, _, _, _⟩ := mask_bd hm
  have hmf : ∀ (fn : Fn) (first cap : Array Value) (w : World), (Instr.makeFunc fn first cap).run Tryz.prog w = .ok (.func fn first cap) w := fun _ _ _ _ => rfl
  have bx : ∀ W0, W0 = (((w.alloc (.cells #[.slice A xs.length c] 35)).alloc (.cells #[.slice B ds.length d] 37)).alloc (.cells #[.int .i64 x, .int .i64 y, .int .i64 W, .int .i64 H, .slice Am n cm] 40)).alloc (.cells #[.int .i64 0, .int .i64 0, .int .i64 0, .int .i64 0, .slice none 0 0] 40) → Blk W0 w.heap.size 35 #[.slice A xs.length c] ∧ Blk W0 (w.heap.size + 1) 37 #[.slice B ds.length d] ∧ Blk W0 (w.heap.size + 2) 40 #[.int .i64 x, .int .i64 y, .int .i64 W, .int .i64 H, .slice Am n cm] ∧ Blk W0 (w.heap.size + 3) 40 #[.int .i64 0, .int .i64 0, .int .i64 0, .int .i64 0, .slice none 0 0] ∧ Below w.heap.size w W0 ∧ W0.heap.size = w.heap.size + 4 := by
    rintro _ rfl
    refine ⟨(((Blk.new _ _ _).alloc _).alloc _).alloc _, ?_, ?_, ?_, ((((Below.refl _ _).alloc (Nat.le_refl _) _).alloc (by simp) _).alloc (by simp; omega) _).alloc (by simp; omega) _, by simp⟩
    · have := ((Blk.new (w.alloc (.cells #[.slice A xs.length c] 35)) 37 #[.slice B ds.length d]).alloc (.cells #[.int .i64 x, .int .i64 y, .int .i64 W, .int .i64 H, .slice Am n cm] 40)).alloc (.cells #[.int .i64 0, .int .i64 0, .int .i64 0, .int .i64 0, .slice none 0 0] 40)
      simpa using this
    · have := (Blk.new ((w.alloc (.cells #[.slice A xs.length c] 35)).alloc (.cells #[.slice B ds.length d] 37)) 40 #[.int .i64 x, .int .i64 y, .int .i64 W, .int .i64 H, .slice Am n cm]).alloc (.cells #[.int .i64 0, .int .i64 0, .int .i64 0, .int .i64 0, .slice none 0 0] 40)
      simpa using this
    · have := Blk.new (((w.alloc (.cells #[.slice A xs.length c] 35)).alloc (.cells #[.slice B ds.length d] 37)).alloc (.cells #[.int .i64 x, .int .i64 y, .int .i64 W, .int .i64 H, .slice Am n cm] 40)) 40 #[.int .i64 0, .int .i64 0, .int .i64 0, .int .i64 0, .slice none 0 0]
      simpa using this
  have KN := Lib.hid bx; clear bx
  have C1 := Lib.hid (fun i (hi : i ≤ n) (gx gd gm : Nat) (tx td tm : TypeId) w' (hw : Below w.heap.size w w') k1 k2 k3 => implReg1_any xs ds hz x y W H A B Am c d n cm hm i hi gx gd gm tx td tm w' k1 k2 k3 (h.below hw) (h2.below hw))
  unfold regB
  clear h h2 hz hm
  unfold maskV
  go_enter Tryz.func60, Tryz.ntmps60
  go_upto_region 1 with (fail)
  generalize hW : (((w.alloc (.cells #[.slice A xs.length c] 35)).alloc (.cells #[.slice B ds.length d] 37)).alloc (.cells #[.int .i64 x, .int .i64 y, .int .i64 W, .int .i64 H, .slice Am n cm] 40)).alloc (.cells #[.int .i64 0, .int .i64 0, .int .i64 0, .int .i64 0, .slice none 0 0] 40) = W0
  obtain ⟨kx, kd, km, kr, bw, hsz0⟩ := KN.out W0 hW.symm
  have KR := Lib.hid kr; have BB := Lib.hid bw
  have CF := Lib.hid (filled_any (fun i => cellF xs ds x y W i == (ds.length : Int)) (.pointer (some ⟨w.heap.size, 0, none⟩)) (.pointer (some ⟨w.heap.size + 1, 0, none⟩)) (.pointer (some ⟨w.heap.size + 2, 0, none⟩)) x y W H Am n cm hn6 W0 (fun k hk v hb => C1.out k hk _ _ _ _ _ _ v (bw.trans (hb.mono bw.size)) (kx.below hb kx.lt) (kd.below hb kd.lt) (km.below hb km.lt)))
  obtain ⟨m0, m1, m2, m3, m4⟩ := cells_5 km
  clear hW kx kd km kr bw KN C1
  unfold maskV at CF
  go_wp2_with fail
  refine CF.out.mono ?_; rintro e w1 ⟨g, rfl, hg, hk, b1⟩
  have KR1 := Lib.hid (KR.out.below b1 KR.out.lt); have B1 := Lib.hid (BB.out.trans (b1.mono BB.out.size)); have HD := Lib.hid hk
  clear m0 m1 m2 m3 m4 b1 KR BB hk
  obtain ⟨f0, f1, f2, f3, f4, f5, f6, f7, f8, f9, f10, f11, f12, f13, f14⟩ := facts_5 KR1.out
  go_wp2_with fail
  exact bodyPost_ret (v := .agg #[.int .i64 x, .int .i64 y, .int .i64 W, .int .i64 H, .slice (some ⟨g, 0, none⟩) n n]) (by simp [results, Tryz.results60, go_sem, f10, f11, f12, f13, f14]) rfl ⟨g, rfl, by omega, blk_far5 HD.out (by omega) _ _ _ _ _, below_5 B1.out (by omega) _ _ _ _ _⟩
end Go.Proofs.YtaaioengebaebaaGreatDoor
namespace Go.Proofs.YtaaioengebaebaaGreatDoor
open Go.ChangeShapes Go.WideShapes Go.ChangeAt Go.RowKit Go.Sort

theorem regB_len (xs : List Sit) (ds : List Dsc) (x y W : Int) (n : Nat) : (regB xs ds x y W n).length = n := by simp [regB]
/-- Whether one place satisfies all descriptions, and the code. -/
def compP (xs : List Sit) (ds : List Dsc) (x y W H : Int) (n : Nat) : Bool × Int :=
  if codeS xs ds (maskB x y W H n) = 0 then (decide (0 < cntM (regB xs ds x y W n)), 0) else (false, codeS xs ds (maskB x y W H n))
set_option maxRecDepth 100000 in
set_option maxHeartbeats 2000000 in
theorem specCompat_any (xs : List Sit) (ds : List Dsc) (x y W H : Int) (A B Am : Option Addr) (c d n cm : Nat) (hn : n ≤ 9223372036854775807) (w : World) (h : HasSit w xs A) (h2 : HasDsc w ds B) :
    Calls Tryz.prog 20 #[.slice A xs.length c, .slice B ds.length d, maskV x y W H Am n cm] w fun e w' => e = .returned (.tuple #[.bool (compP xs ds x y W H n).1, .int .i64 (compP xs ds x y W H n).2]) ∧ Below w.heap.size w w' := by
  have CB := Lib.hid (fun W' (hb : Below w.heap.size w W') => specBox_any xs ds x y W H A B Am c d n cm hn W' (h.below hb) (h2.below hb))
  have HV := Lib.hid (show compP xs ds x y W H n = if codeS xs ds (maskB x y W H n) = 0 then (decide (0 < cntM (regB xs ds x y W n)), 0) else (false, codeS xs ds (maskB x y W H n)) from rfl)
  have KN := Lib.hid (blks_one w 40 #[.int .i64 x, .int .i64 y, .int .i64 W, .int .i64 H, .slice Am n cm])
  generalize compP xs ds x y W H n = r at HV ⊢
  by_cases hz : codeS xs ds (maskB x y W H n) = 0
  rotate_left
  · rw [if_neg hz] at HV
    generalize codeS xs ds (maskB x y W H n) = code at hz CB HV
    have hz1 : (code != 0) = true := by simpa using hz
    clear hz h h2
    unfold maskV at CB ⊢
    go_enter Tryz.func20, Tryz.ntmps20
    go_wp2_with fail
    generalize hW : w.alloc (.cells #[.int .i64 x, .int .i64 y, .int .i64 W, .int .i64 H, .slice Am n cm] 40) = W0
    obtain ⟨km, bw, _⟩ := KN.out W0 hW.symm
    have KM := Lib.hid km; have BB := Lib.hid bw
    clear hW km bw KN
    obtain ⟨m0, m1, m2, m3, m4⟩ := cells_5 KM.out
    refine (CB.out W0 BB.out).mono ?_; rintro e w2 ⟨rfl, b2⟩
    have KM2 := Lib.hid (KM.out.below b2 KM.out.lt); have B2 := Lib.hid (BB.out.trans (b2.mono BB.out.size))
    clear m0 m1 m2 m3 m4 b2 KM BB
    go_wp2_with fail
    go_ret2
    exact ⟨by rw [HV.out]; rfl, B2.out⟩
  obtain ⟨hm, hz2⟩ := codeS_mask hz
  rw [if_pos hz] at HV
  rw [hz] at CB
  obtain ⟨_, _, _, _, _, _, _, _, hn6, _, _, _⟩ := mask_bd hm
  have CR := Lib.hid (fun W' (hb : Below w.heap.size w W') => specReg_any xs ds hz2 x y W H A B Am c d n cm hm W' (h.below hb) (h2.below hb))
  have HL := regB_len xs ds x y W n
  have CC := Lib.hid (fun g W' (hk : Blk W' g 4 (bC (regB xs ds x y W n)).toArray) => specCountM x y W H (some ⟨g, 0, none⟩) (regB xs ds x y W n).length (regB xs ds x y W n) (by rw [HL]; exact hn6) W' (blk_rd hk (bC_len _)))
  rw [HL] at CC
  clear h h2 hz hz2 hm HL
  generalize cntM (regB xs ds x y W n) = q at CC HV
  unfold maskV at CB CR CC ⊢
  go_enter Tryz.func20, Tryz.ntmps20
  go_wp2_with fail
  generalize hW : w.alloc (.cells #[.int .i64 x, .int .i64 y, .int .i64 W, .int .i64 H, .slice Am n cm] 40) = W0
  obtain ⟨km, bw, _⟩ := KN.out W0 hW.symm
  have KM := Lib.hid km; have BB := Lib.hid bw
  clear hW km bw KN
  obtain ⟨m0, m1, m2, m3, m4⟩ := cells_5 KM.out
  refine (CB.out W0 BB.out).mono ?_; rintro e w2 ⟨rfl, b2⟩
  have KM2 := Lib.hid (KM.out.below b2 KM.out.lt); have B2 := Lib.hid (BB.out.trans (b2.mono BB.out.size))
  clear m0 m1 m2 m3 m4 b2 KM BB
  obtain ⟨m0, m1, m2, m3, m4⟩ := cells_5 KM2.out
  go_wp2_with fail
  refine (CR.out w2 B2.out).mono ?_; rintro e w3 ⟨g, rfl, _, hk, b3⟩
  have B3 := Lib.hid (B2.out.trans (b3.mono B2.out.size)); have HK := Lib.hid hk
  clear b3 hk m0 m1 m2 m3 m4
  go_wp2_with fail
  refine (CC.out g w3 HK.out).mono ?_; rintro e w4 ⟨rfl, b4⟩
  have B4 := Lib.hid (B3.out.trans (b4.mono B3.out.size))
  clear b4
  go_wp2_with fail
  go_ret2
  exact ⟨by rw [HV.out]; rfl, B4.out⟩
set_option maxRecDepth 100000 in
set_option maxHeartbeats 2000000 in
theorem implCompat_any (xs : List Sit) (ds : List Dsc) (x y W H : Int) (A B Am : Option Addr) (c d n cm : Nat) (hn : n ≤ 9223372036854775807) (w : World) (h : HasSit w xs A) (h2 : HasDsc w ds B) (hdir : Dirs w) :
    Calls Tryz.prog 21 #[.slice A xs.length c, .slice B ds.length d, maskV x y W H Am n cm] w fun e w' => e = .returned (.tuple #[.bool (compP xs ds x y W H n).1, .int .i64 (compP xs ds x y W H n).2]) ∧ Below w.heap.size w w' := by
  have CM := Lib.hid (implMask x y W H Am n cm hn)
  have CB := Lib.hid (fun W' (hb : Below w.heap.size w W') => implCodeS_any xs ds (maskB x y W H n) A B c d W' (h.below hb) (h2.below hb) (hdir.below hb))
  have HV := Lib.hid (show compP xs ds x y W H n = if codeS xs ds (maskB x y W H n) = 0 then (decide (0 < cntM (regB xs ds x y W n)), 0) else (false, codeS xs ds (maskB x y W H n)) from rfl)
  have KN := Lib.hid (blks_one w 40 #[.int .i64 x, .int .i64 y, .int .i64 W, .int .i64 H, .slice Am n cm])
  generalize compP xs ds x y W H n = r at HV ⊢
  by_cases hz : codeS xs ds (maskB x y W H n) = 0
  rotate_left
  · rw [if_neg hz] at HV
    generalize codeS xs ds (maskB x y W H n) = code at hz CB HV
    have hz1 : (code != 0) = true := by simpa using hz
    clear hz h h2 hdir
    generalize maskB x y W H n = mb at CM CB
    unfold maskV at CM ⊢
    go_enter Tryz.func21, Tryz.ntmps21
    go_wp2_with fail
    generalize hW : w.alloc (.cells #[.int .i64 x, .int .i64 y, .int .i64 W, .int .i64 H, .slice Am n cm] 40) = W0
    obtain ⟨km, bw, _⟩ := KN.out W0 hW.symm
    have KM := Lib.hid km; have BB := Lib.hid bw
    clear hW km bw KN
    obtain ⟨m0, m1, m2, m3, m4⟩ := cells_5 KM.out
    refine (CM.out W0).mono ?_; rintro e w1 ⟨rfl, b1⟩
    have KM1 := Lib.hid (KM.out.below b1 KM.out.lt); have B1 := Lib.hid (BB.out.trans (b1.mono BB.out.size))
    clear m0 m1 m2 m3 m4 b1 KM BB
    go_wp2_with fail
    refine (CB.out w1 B1.out).mono ?_; rintro e w2 ⟨rfl, b2⟩
    have KM2 := Lib.hid (KM1.out.below b2 KM1.out.lt); have B2 := Lib.hid (B1.out.trans (b2.mono B1.out.size))
    clear b2 KM1 B1
    go_wp2_with fail
    go_ret2
    exact ⟨by rw [HV.out]; rfl, B2.out⟩
  obtain ⟨hm, hz2⟩ := codeS_mask hz
  rw [if_pos hz] at HV
  rw [hz] at CB
  rw [hm] at CM CB
  obtain ⟨_, _, _, _, _, _, _, _, hn6, _, _, _⟩ := mask_bd hm
  have CR := Lib.hid (fun W' (hb : Below w.heap.size w W') => implReg_any xs ds hz2 x y W H A B Am c d n cm hm W' (h.below hb) (h2.below hb))
  have HL := regB_len xs ds x y W n
  have CC := Lib.hid (fun g W' (hk : Blk W' g 4 (bC (regB xs ds x y W n)).toArray) => implCountM x y W H (some ⟨g, 0, none⟩) (regB xs ds x y W n).length (regB xs ds x y W n) (by rw [HL]; exact hn6) W' (blk_rd hk (bC_len _)))
  rw [HL] at CC
  clear h h2 hz hz2 hm HL hdir
  generalize cntM (regB xs ds x y W n) = q at CC HV
  unfold maskV at CM CR CC ⊢
  go_enter Tryz.func21, Tryz.ntmps21
  go_wp2_with fail
  generalize hW : w.alloc (.cells #[.int .i64 x, .int .i64 y, .int .i64 W, .int .i64 H, .slice Am n cm] 40) = W0
  obtain ⟨km, bw, _⟩ := KN.out W0 hW.symm
  have KM := Lib.hid km; have BB := Lib.hid bw
  clear hW km bw KN
  obtain ⟨m0, m1, m2, m3, m4⟩ := cells_5 KM.out
  refine (CM.out W0).mono ?_; rintro e w1 ⟨rfl, b1⟩
  have KM1 := Lib.hid (KM.out.below b1 KM.out.lt); have B1 := Lib.hid (BB.out.trans (b1.mono BB.out.size))
  clear m0 m1 m2 m3 m4 b1 KM BB
  go_wp2_with fail
  refine (CB.out w1 B1.out).mono ?_; rintro e w2 ⟨rfl, b2⟩
  have KM2 := Lib.hid (KM1.out.below b2 KM1.out.lt); have B2 := Lib.hid (B1.out.trans (b2.mono B1.out.size))
  clear b2 KM1 B1
  obtain ⟨m0, m1, m2, m3, m4⟩ := cells_5 KM2.out
  go_wp2_with fail
  refine (CR.out w2 B2.out).mono ?_; rintro e w3 ⟨g, rfl, _, hk, b3⟩
  have B3 := Lib.hid (B2.out.trans (b3.mono B2.out.size)); have HK := Lib.hid hk
  clear b3 hk m0 m1 m2 m3 m4
  go_wp2_with fail
  refine (CC.out g w3 HK.out).mono ?_; rintro e w4 ⟨rfl, b4⟩
  have B4 := Lib.hid (B3.out.trans (b4.mono B3.out.size))
  clear b4
  go_wp2_with fail
  go_ret2
  exact ⟨by rw [HV.out]; rfl, B4.out⟩
end Go.Proofs.YtaaioengebaebaaGreatDoor
namespace Go.Proofs.YtaaioengebaebaaGreatDoor
open Go.ChangeShapes Go.WideShapes Go.ChangeAt Go.RowKit Go.Sort

/-- The mask of RegionOf, its cells, and the code. -/
def rgP (xs : List Sit) (ds : List Dsc) (x y W H : Int) (n : Nat) : Int × Int × Int × Int × List Bool × Int :=
  if codeS xs ds (maskB x y W H n) = 0 then (x, y, W, H, regB xs ds x y W n, 0) else (0, 0, 0, 0, [], codeS xs ds (maskB x y W H n))
set_option maxRecDepth 100000 in
set_option maxHeartbeats 2000000 in
theorem specRegOf_any (xs : List Sit) (ds : List Dsc) (x y W H : Int) (A B Am : Option Addr) (c d n cm : Nat) (hn : n ≤ 9223372036854775807) (w : World) (h : HasSit w xs A) (h2 : HasDsc w ds B) :
    Calls Tryz.prog 24 #[.slice A xs.length c, .slice B ds.length d, maskV x y W H Am n cm] w fun e w' => ∃ v, e = .returned (.tuple #[.agg #[.int .i64 (rgP xs ds x y W H n).1, .int .i64 (rgP xs ds x y W H n).2.1, .int .i64 (rgP xs ds x y W H n).2.2.1, .int .i64 (rgP xs ds x y W H n).2.2.2.1, v], .int .i64 (rgP xs ds x y W H n).2.2.2.2.2]) ∧ w'.ownsRow w.heap.size 4 1 v (rgP xs ds x y W H n).2.2.2.2.1.length (bC (rgP xs ds x y W H n).2.2.2.2.1) ∧ Below w.heap.size w w' := by
  have CB := Lib.hid (fun W' (hb : Below w.heap.size w W') => specBox_any xs ds x y W H A B Am c d n cm hn W' (h.below hb) (h2.below hb))
  have HV := Lib.hid (show rgP xs ds x y W H n = if codeS xs ds (maskB x y W H n) = 0 then (x, y, W, H, regB xs ds x y W n, 0) else (0, 0, 0, 0, [], codeS xs ds (maskB x y W H n)) from rfl)
  have KN := Lib.hid (blks_two w 40 40 #[.int .i64 x, .int .i64 y, .int .i64 W, .int .i64 H, .slice Am n cm] #[.int .i64 0, .int .i64 0, .int .i64 0, .int .i64 0, .slice none 0 0])
  generalize rgP xs ds x y W H n = r at HV ⊢
  by_cases hz : codeS xs ds (maskB x y W H n) = 0
  rotate_left
  · rw [if_neg hz] at HV
    generalize codeS xs ds (maskB x y W H n) = code at hz CB HV
    have hz1 : (code != 0) = true := by simpa using hz
    clear hz h h2
    unfold maskV at CB ⊢
    go_enter Tryz.func24, Tryz.ntmps24
    go_wp2_with fail
    generalize hW : (w.alloc (.cells #[.int .i64 x, .int .i64 y, .int .i64 W, .int .i64 H, .slice Am n cm] 40)).alloc (.cells #[.int .i64 0, .int .i64 0, .int .i64 0, .int .i64 0, .slice none 0 0] 40) = W0
    obtain ⟨km, kr, bw, _⟩ := KN.out W0 hW.symm
    have KM := Lib.hid km; have KR := Lib.hid kr; have BB := Lib.hid bw
    clear hW km kr bw KN
    obtain ⟨m0, m1, m2, m3, m4⟩ := cells_5 KM.out
    refine (CB.out W0 BB.out).mono ?_; rintro e w2 ⟨rfl, b2⟩
    have KM2 := Lib.hid (KM.out.below b2 KM.out.lt); have KR2 := Lib.hid (KR.out.below b2 KR.out.lt); have B2 := Lib.hid (BB.out.trans (b2.mono BB.out.size))
    clear m0 m1 m2 m3 m4 b2 KM KR BB
    obtain ⟨f0, f1, f2, f3, f4, f5, f6, f7, f8, f9, f10, f11, f12, f13, f14⟩ := facts_5 KR2.out
    go_wp2_with fail
    exact bodyPost_ret (v := .tuple #[.agg #[.int .i64 0, .int .i64 0, .int .i64 0, .int .i64 0, .slice none 0 0], .int .i64 code]) (by simp [results, Tryz.results24, go_sem, f10, f11, f12, f13, f14]) rfl ⟨.slice none 0 0, by rw [HV.out], by rw [HV.out]; exact World.ownsRow_nil _ _ _ _, below_5 B2.out (by omega) _ _ _ _ _⟩
  obtain ⟨hm, hz2⟩ := codeS_mask hz
  rw [if_pos hz] at HV
  rw [hz] at CB
  obtain ⟨_, _, _, _, _, _, _, _, hn6, _, _, _⟩ := mask_bd hm
  have CR := Lib.hid (fun W' (hb : Below w.heap.size w W') => specReg_any xs ds hz2 x y W H A B Am c d n cm hm W' (h.below hb) (h2.below hb))
  have HL := Lib.hid (regB_len xs ds x y W n)
  clear h h2 hz hz2 hm
  generalize regB xs ds x y W n = L at CR HV HL
  unfold maskV at CB CR ⊢
  go_enter Tryz.func24, Tryz.ntmps24
  go_wp2_with fail
  generalize hW : (w.alloc (.cells #[.int .i64 x, .int .i64 y, .int .i64 W, .int .i64 H, .slice Am n cm] 40)).alloc (.cells #[.int .i64 0, .int .i64 0, .int .i64 0, .int .i64 0, .slice none 0 0] 40) = W0
  obtain ⟨km, kr, bw, _⟩ := KN.out W0 hW.symm
  have KM := Lib.hid km; have KR := Lib.hid kr; have BB := Lib.hid bw
  clear hW km kr bw KN
  obtain ⟨m0, m1, m2, m3, m4⟩ := cells_5 KM.out
  refine (CB.out W0 BB.out).mono ?_; rintro e w2 ⟨rfl, b2⟩
  have KM2 := Lib.hid (KM.out.below b2 KM.out.lt); have KR2 := Lib.hid (KR.out.below b2 KR.out.lt); have B2 := Lib.hid (BB.out.trans (b2.mono BB.out.size))
  clear m0 m1 m2 m3 m4 b2 KM KR BB
  obtain ⟨m0, m1, m2, m3, m4⟩ := cells_5 KM2.out
  go_wp2_with fail
  refine (CR.out w2 B2.out).mono ?_; rintro e w3 ⟨g, rfl, hgw, hk, b3⟩
  have B3 := Lib.hid (B2.out.trans (b3.mono B2.out.size)); have HK := Lib.hid hk; have KR3 := Lib.hid (KR2.out.below b3 KR2.out.lt)
  have hrl := KR2.out.lt
  clear b3 hk m0 m1 m2 m3 m4 KM2 KR2 B2
  obtain ⟨f0, f1, f2, f3, f4, f5, f6, f7, f8, f9, f10, f11, f12, f13, f14⟩ := facts_5 KR3.out
  go_wp2_with fail
  exact bodyPost_ret (v := .tuple #[.agg #[.int .i64 x, .int .i64 y, .int .i64 W, .int .i64 H, .slice (some ⟨g, 0, none⟩) n n], .int .i64 0]) (by simp [results, Tryz.results24, go_sem, f10, f11, f12, f13, f14]) rfl ⟨.slice (some ⟨g, 0, none⟩) n n, by rw [HV.out], by rw [HV.out]; dsimp only; rw [HL.out]; exact own_blk (blk_far5 HK.out (by omega) _ _ _ _ _) (by rw [bC_len, HL.out]) (by omega) (by unfold maxLen; omega), below_5 B3.out (by omega) _ _ _ _ _⟩
set_option maxRecDepth 100000 in
set_option maxHeartbeats 2000000 in
theorem implRegOf_any (xs : List Sit) (ds : List Dsc) (x y W H : Int) (A B Am : Option Addr) (c d n cm : Nat) (hn : n ≤ 9223372036854775807) (w : World) (h : HasSit w xs A) (h2 : HasDsc w ds B) (hdir : Dirs w) :
    Calls Tryz.prog 25 #[.slice A xs.length c, .slice B ds.length d, maskV x y W H Am n cm] w fun e w' => ∃ v, e = .returned (.tuple #[.agg #[.int .i64 (rgP xs ds x y W H n).1, .int .i64 (rgP xs ds x y W H n).2.1, .int .i64 (rgP xs ds x y W H n).2.2.1, .int .i64 (rgP xs ds x y W H n).2.2.2.1, v], .int .i64 (rgP xs ds x y W H n).2.2.2.2.2]) ∧ w'.ownsRow w.heap.size 4 1 v (rgP xs ds x y W H n).2.2.2.2.1.length (bC (rgP xs ds x y W H n).2.2.2.2.1) ∧ Below w.heap.size w w' := by
  have CM := Lib.hid (implMask x y W H Am n cm hn)
  have CB := Lib.hid (fun W' (hb : Below w.heap.size w W') => implCodeS_any xs ds (maskB x y W H n) A B c d W' (h.below hb) (h2.below hb) (hdir.below hb))
  have HV := Lib.hid (show rgP xs ds x y W H n = if codeS xs ds (maskB x y W H n) = 0 then (x, y, W, H, regB xs ds x y W n, 0) else (0, 0, 0, 0, [], codeS xs ds (maskB x y W H n)) from rfl)
  have KN := Lib.hid (blks_two w 40 40 #[.int .i64 x, .int .i64 y, .int .i64 W, .int .i64 H, .slice Am n cm] #[.int .i64 0, .int .i64 0, .int .i64 0, .int .i64 0, .slice none 0 0])
  generalize rgP xs ds x y W H n = r at HV ⊢
  by_cases hz : codeS xs ds (maskB x y W H n) = 0
  rotate_left
  · rw [if_neg hz] at HV
    generalize codeS xs ds (maskB x y W H n) = code at hz CB HV
    have hz1 : (code != 0) = true := by simpa using hz
    clear hz h h2 hdir
    generalize maskB x y W H n = mb at CM CB
    unfold maskV at CM ⊢
    go_enter Tryz.func25, Tryz.ntmps25
    go_wp2_with fail
    generalize hW : (w.alloc (.cells #[.int .i64 x, .int .i64 y, .int .i64 W, .int .i64 H, .slice Am n cm] 40)).alloc (.cells #[.int .i64 0, .int .i64 0, .int .i64 0, .int .i64 0, .slice none 0 0] 40) = W0
    obtain ⟨km, kr, bw, _⟩ := KN.out W0 hW.symm
    have KM := Lib.hid km; have KR := Lib.hid kr; have BB := Lib.hid bw
    clear hW km kr bw KN
    obtain ⟨m0, m1, m2, m3, m4⟩ := cells_5 KM.out
    refine (CM.out W0).mono ?_; rintro e w1 ⟨rfl, b1⟩
    have KM1 := Lib.hid (KM.out.below b1 KM.out.lt); have KR1 := Lib.hid (KR.out.below b1 KR.out.lt); have B1 := Lib.hid (BB.out.trans (b1.mono BB.out.size))
    clear m0 m1 m2 m3 m4 b1 KM KR BB
    go_wp2_with fail
    refine (CB.out w1 B1.out).mono ?_; rintro e w2 ⟨rfl, b2⟩
    have KM2 := Lib.hid (KM1.out.below b2 KM1.out.lt); have KR2 := Lib.hid (KR1.out.below b2 KR1.out.lt); have B2 := Lib.hid (B1.out.trans (b2.mono B1.out.size))
    clear b2 KM1 KR1 B1
    obtain ⟨f0, f1, f2, f3, f4, f5, f6, f7, f8, f9, f10, f11, f12, f13, f14⟩ := facts_5 KR2.out
    go_wp2_with fail
    exact bodyPost_ret (v := .tuple #[.agg #[.int .i64 0, .int .i64 0, .int .i64 0, .int .i64 0, .slice none 0 0], .int .i64 code]) (by simp [results, Tryz.results25, go_sem, f10, f11, f12, f13, f14]) rfl ⟨.slice none 0 0, by rw [HV.out], by rw [HV.out]; exact World.ownsRow_nil _ _ _ _, below_5 B2.out (by omega) _ _ _ _ _⟩
  obtain ⟨hm, hz2⟩ := codeS_mask hz
  rw [if_pos hz] at HV
  rw [hz] at CB
  rw [hm] at CM CB
  obtain ⟨_, _, _, _, _, _, _, _, hn6, _, _, _⟩ := mask_bd hm
  have CR := Lib.hid (fun W' (hb : Below w.heap.size w W') => implReg_any xs ds hz2 x y W H A B Am c d n cm hm W' (h.below hb) (h2.below hb))
  have HL := Lib.hid (regB_len xs ds x y W n)
  clear h h2 hz hz2 hm hdir
  generalize regB xs ds x y W n = L at CR HV HL
  unfold maskV at CM CR ⊢
  go_enter Tryz.func25, Tryz.ntmps25
  go_wp2_with fail
  generalize hW : (w.alloc (.cells #[.int .i64 x, .int .i64 y, .int .i64 W, .int .i64 H, .slice Am n cm] 40)).alloc (.cells #[.int .i64 0, .int .i64 0, .int .i64 0, .int .i64 0, .slice none 0 0] 40) = W0
  obtain ⟨km, kr, bw, _⟩ := KN.out W0 hW.symm
  have KM := Lib.hid km; have KR := Lib.hid kr; have BB := Lib.hid bw
  clear hW km kr bw KN
  obtain ⟨m0, m1, m2, m3, m4⟩ := cells_5 KM.out
  refine (CM.out W0).mono ?_; rintro e w1 ⟨rfl, b1⟩
  have KM1 := Lib.hid (KM.out.below b1 KM.out.lt); have KR1 := Lib.hid (KR.out.below b1 KR.out.lt); have B1 := Lib.hid (BB.out.trans (b1.mono BB.out.size))
  clear m0 m1 m2 m3 m4 b1 KM KR BB
  go_wp2_with fail
  refine (CB.out w1 B1.out).mono ?_; rintro e w2 ⟨rfl, b2⟩
  have KM2 := Lib.hid (KM1.out.below b2 KM1.out.lt); have KR2 := Lib.hid (KR1.out.below b2 KR1.out.lt); have B2 := Lib.hid (B1.out.trans (b2.mono B1.out.size))
  clear b2 KM1 KR1 B1
  obtain ⟨m0, m1, m2, m3, m4⟩ := cells_5 KM2.out
  go_wp2_with fail
  refine (CR.out w2 B2.out).mono ?_; rintro e w3 ⟨g, rfl, hgw, hk, b3⟩
  have B3 := Lib.hid (B2.out.trans (b3.mono B2.out.size)); have HK := Lib.hid hk; have KR3 := Lib.hid (KR2.out.below b3 KR2.out.lt)
  have hrl := KR2.out.lt
  clear b3 hk m0 m1 m2 m3 m4 KM2 KR2 B2
  obtain ⟨f0, f1, f2, f3, f4, f5, f6, f7, f8, f9, f10, f11, f12, f13, f14⟩ := facts_5 KR3.out
  go_wp2_with fail
  exact bodyPost_ret (v := .tuple #[.agg #[.int .i64 x, .int .i64 y, .int .i64 W, .int .i64 H, .slice (some ⟨g, 0, none⟩) n n], .int .i64 0]) (by simp [results, Tryz.results25, go_sem, f10, f11, f12, f13, f14]) rfl ⟨.slice (some ⟨g, 0, none⟩) n n, by rw [HV.out], by rw [HV.out]; dsimp only; rw [HL.out]; exact own_blk (blk_far5 HK.out (by omega) _ _ _ _ _) (by rw [bC_len, HL.out]) (by omega) (by unfold maxLen; omega), below_5 B3.out (by omega) _ _ _ _ _⟩
end Go.Proofs.YtaaioengebaebaaGreatDoor
