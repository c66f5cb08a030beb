/- The region of the reference. -/
import Derived.Test.YtaaioengebaebaaGreatDoorRows
import Derived.Test.YtaaioengebaebaaGreatDoorK9GA
import Derived.WalkKit
import Derived.ProofKit
import Derived.OpenShut
import Derived.BigQuiet
import Derived.Outline
import Derived.WalkSpells
import Derived.WalkLawsBesides
import Derived.Deep.DeepCutAuto
import Derived.Test.YtaaioengebaebaaGreatDoorK9RN1
import Derived.Test.YtaaioengebaebaaGreatDoorK9RM1
namespace Go.Proofs.YtaaioengebaebaaGreatDoor
open Go.ChangeShapes Go.WideShapes Go.ChangeAt Go.RowKit Go.Sort

/-- The cells of the region. -/
def regB (xs : List Sit) (ds : List Dsc) (x y W : Int) (n : Nat) : List Bool := (List.range n).map (fun i => cellF xs ds x y W i == (ds.length : Int))
theorem rngB_len (F : Nat → Bool) (n : Nat) : (bC ((List.range n).map F)).length = n := by simp [bC]
theorem rngB_get (F : Nat → Bool) (n k : Nat) (h : k < n) : (bC ((List.range n).map F))[k]? = some (.bool (F k)) := by
  simp [bC, List.getElem?_range h]
theorem specCntF (xs : List Sit) (ds : List Dsc) (hz : codeS xs ds true = 0) (x y W : Int) (i : Nat) (hp : Co (pX x W i)) (hq : Co (pY y W i)) (A B : Option Addr) (c e : Nat) (w : World) (h : HasSit w xs A) (h2 : HasDsc w ds B) :
    Calls Tryz.prog 45 #[.slice A xs.length c, .slice B ds.length e, .agg #[.int .i64 (pX x W i), .int .i64 (pY y W i)]] w fun o w' => o = .returned (.int .i64 (cellF xs ds x y W i)) ∧ Below w.heap.size w w' :=
  specCnt_any xs ds hz (pX x W i) (pY y W i) hp hq A B c e w h h2
set_option maxRecDepth 100000 in
set_option maxHeartbeats 4000000 in
theorem specReg_any (xs : List Sit) (ds : List Dsc) (hz : codeS xs ds true = 0) (x y W H : Int) (A B Am : Option Addr) (c d n cm : Nat) (hm : maskB x y W H n = true) (w : World) (h : HasSit w xs A) (h2 : HasDsc w ds B) :
    Calls Tryz.prog 59 #[.slice A xs.length c, .slice B ds.length d, maskV x y W H Am n cm] w fun e w' => ∃ g, e = .returned (maskV x y W H (some ⟨g, 0, none⟩) n n) ∧ w.heap.size ≤ g ∧ Blk w' g 4 (bC (regB xs ds x y W n)).toArray ∧ Below w.heap.size w w' := by
  have mixed : Tryz.prog.follows Departure.mixedOrders = true := by kernel_rfl
  obtain ⟨hx, hx', hy, hy', h1, h1', hH, hH', hn6, hnW, _, _⟩ := mask_bd hm
  have CE := Lib.hid (fun W' => specEmptyM x y W H Am n cm hn6 hnW W')
  have CP := Lib.hid (fun i (hi : i ≤ n) W' => specPoint x y W H Am n cm i hx hx' hy hy' h1 h1' (by omega) W')
  have CC := Lib.hid (fun i (hi : i ≤ n) W' (hb : Below w.heap.size w W') => specCntF xs ds hz x y W i (pX_co i hx hx' h1 h1' (by omega)) (pY_co i hy hy' h1 h1' (by omega)) A B c d W' (h.below hb) (h2.below hb))
  unfold regB
  have HL := Lib.hid (rngB_len (fun i => cellF xs ds x y W i == (ds.length : Int)) n)
  have HG := Lib.hid (rngB_get (fun i => cellF xs ds x y W i == (ds.length : Int)) n)
  clear h h2 hz hm hx hx' hy hy' h1 h1' hH hH' hnW
  generalize bC ((List.range n).map (fun i => cellF xs ds x y W i == (ds.length : Int))) = L at HL HG ⊢
  generalize cellF xs ds x y W = fc at CC HG
  try dsimp only at HG
  have KN := Lib.hid (blks_two w 40 40 #[.int .i64 x, .int .i64 y, .int .i64 W, .int .i64 H, .slice Am n cm] #[.int .i64 0, .int .i64 0, .int .i64 0, .int .i64 0, .slice none 0 0])
  unfold maskV at CE CP ⊢
  go_enter Tryz.func59, Tryz.ntmps59
  go_wp2_with fail
  generalize hW : (w.alloc (.cells #[.int .i64 x, .int .i64 y, .int .i64 W, .int .i64 H, .slice Am n cm] 40)).alloc (.cells #[.int .i64 0, .int .i64 0, .int .i64 0, .int .i64 0, .slice none 0 0] 40) = W0
  obtain ⟨km, kr, bw, hsz0⟩ := KN.out W0 hW.symm
  have KM := Lib.hid km; have KR := Lib.hid kr; have BB := Lib.hid bw
  clear hW km kr bw KN
  obtain ⟨m0, m1, m2, m3, m4⟩ := cells_5 KM.out
  refine (CE.out W0).mono ?_; rintro e w1 hE
  clear m0 m1 m2 m3 m4
  obtain ⟨g, rfl, hmd, b1⟩ := hE
  have KM1 := Lib.hid (KM.out.below b1 KM.out.lt); have KR1 := Lib.hid (KR.out.below b1 KR.out.lt); have B1 := Lib.hid (BB.out.trans (b1.mono BB.out.size))
  have hgW := hmd.1
  have hgl := (hmd.2 L HL.out).lt
  go_upto_region 2 with (fail)
  have KN2 := Lib.hid (blks_one w1 40 #[.int .i64 x, .int .i64 y, .int .i64 W, .int .i64 H, .slice (some ⟨g, 0, none⟩) n n])
  generalize hW2 : w1.alloc (.cells #[.int .i64 x, .int .i64 y, .int .i64 W, .int .i64 H, .slice (some ⟨g, 0, none⟩) n n] 40) = W2
  obtain ⟨kp, bw2, hz2⟩ := KN2.out W2 hW2.symm
  have KP := Lib.hid kp; have KM2 := Lib.hid (KM1.out.below bw2 KM1.out.lt); have KR2 := Lib.hid (KR1.out.below bw2 KR1.out.lt); have B2 := Lib.hid (B1.out.trans (bw2.mono B1.out.size)); have HCp := Lib.hid ((hmd.2 L HL.out).below bw2 hgl)
  obtain ⟨pb, hpb⟩ : ∃ p, p = w1.heap.size := ⟨_, rfl⟩
  rw [← hpb] at KP hgl ⊢
  have hrp : w.heap.size + 1 < pb := by have := KR1.out.lt; omega
  clear hW2 kp bw2 hz2 hmd b1 KM KR BB KM1 KR1 B1 KN2 hpb
  obtain ⟨p0, p1, p2, p3, p4⟩ := cells_5 KP.out
  go_wp2_with fail
  clear p0 p1 p2 p3 p4
  go_loopw [8, 14] (fun v8 v14 wr => ∃ k : Nat, k ≤ n ∧ Hid (Below w.heap.size w wr) ∧ Hid (Blk wr w.heap.size 40 #[.int .i64 x, .int .i64 y, .int .i64 W, .int .i64 H, .slice Am n cm]) ∧ Hid (Blk wr (w.heap.size + 1) 40 #[.int .i64 0, .int .i64 0, .int .i64 0, .int .i64 0, .slice none 0 0]) ∧ Hid (Blk wr pb 40 #[.int .i64 x, .int .i64 y, .int .i64 W, .int .i64 H, .slice (some ⟨g, 0, none⟩) n n]) ∧ Hid (Copied wr g 4 k L) ∧ v14 = .int .i64 k) (fun _ i _ => n - (intOf i).toNat)
  case atStart => exact ⟨0, Nat.zero_le _, B2.out, KM2.out, KR2.out, KP.out, HCp.out, rfl⟩
  case round =>
    clear B2 KM2 KR2 KP HCp
    obtain ⟨k, hk, BW, KM, KR, KP, HCp, rfl⟩ := hrel
    by_cases hlt : k < n
    · have hlt' : (k : Int) < (n : Int) := by omega
      have k0 : (0 : Int) ≤ (k : Int) := by omega
      go_upto_region 5 with (fail)
      refine' wp_region_slots (OverW wr) KeepW [isV (.pointer (some ⟨pb, 4, none⟩)), isV (.slice (some ⟨g, 0, none⟩) n n), isV (.int .i64 (k : Int)), isV (.slice A xs.length c), isV (.slice B ds.length d), isV (.agg #[.int .i64 x, .int .i64 y, .int .i64 W, .int .i64 H, .slice Am n cm]), isV (.int .i64 (k : Int)), isV (.agg #[.int .i64 (pX x W k), .int .i64 (pY y W k)]), isV (.int .i64 (fc k)), isV (.slice B ds.length d), isV (.int .i64 (ds.length : Int)), isV (.bool (fc k == (ds.length : Int))), isV (.pointer (some ⟨g, k, none⟩))] mixed (by kernel_rfl) (by kernel_rfl) (OverW.drew (Below.refl _ _)) ?_ _ _ ?_ ?_ ?_
      · exact AllStable.cons (keep_V _) (AllStable.cons (keep_V _) (AllStable.cons (keep_V _) (AllStable.cons (keep_V _) (AllStable.cons (keep_V _) (AllStable.cons (keep_V _) (AllStable.cons (keep_V _) (AllStable.cons (keep_V _) (AllStable.cons (keep_V _) (AllStable.cons (keep_V _) (AllStable.cons (keep_V _) (AllStable.cons (keep_V _) (AllStable.cons (keep_V _) (AllStable.nil)))))))))))))
      rotate_left 2
      · intro f; simp only [lay, List.setIfInBounds_toArray, List.set_cons_succ, List.set_cons_zero, Nat.reduceAdd]; exact rfl
      · refine AllTo.cons ?_ ?_
        · intro f v hS hT K hK
          simp only [Act.put, List.setIfInBounds_toArray, List.set_cons_succ, List.set_cons_zero] at hK
          go_simp
          exact hK.out _ _ rfl hS (keep_refl _)
        refine AllTo.cons ?_ ?_
        · intro f v hS hT K hK
          have e0 := hT 0 _ rfl rfl
          dsimp only [isV] at e0
          obtain ⟨p0, p1, p2, p3, p4⟩ := cells_5 (KP.out.below hS KP.out.lt)
          simp only [Act.put, List.setIfInBounds_toArray, List.set_cons_succ, List.set_cons_zero, e0] at hK
          go_simp
          exact hK.out _ _ rfl hS (keep_refl _)
        refine AllTo.cons ?_ ?_
        · intro f v hS hT K hK
          simp only [Act.put, List.setIfInBounds_toArray, List.set_cons_succ, List.set_cons_zero] at hK
          go_simp
          exact hK.out _ _ rfl hS (keep_refl _)
        refine AllTo.cons ?_ ?_
        · intro f v hS hT K hK
          simp only [Act.put, List.setIfInBounds_toArray, List.set_cons_succ, List.set_cons_zero] at hK
          go_simp
          exact hK.out _ _ rfl hS (keep_refl _)
        refine AllTo.cons ?_ ?_
        · intro f v hS hT K hK
          simp only [Act.put, List.setIfInBounds_toArray, List.set_cons_succ, List.set_cons_zero] at hK
          go_simp
          exact hK.out _ _ rfl hS (keep_refl _)
        refine AllTo.cons ?_ ?_
        · intro f v hS hT K hK
          obtain ⟨m0, m1, m2, m3, m4⟩ := cells_5 (KM.out.below hS KM.out.lt)
          simp only [Act.put, List.setIfInBounds_toArray, List.set_cons_succ, List.set_cons_zero] at hK
          go_simp
          exact hK.out _ _ rfl hS (keep_refl _)
        refine AllTo.cons ?_ ?_
        · intro f v hS hT K hK
          simp only [Act.put, List.setIfInBounds_toArray, List.set_cons_succ, List.set_cons_zero] at hK
          go_simp
          exact hK.out _ _ rfl hS (keep_refl _)
        refine AllTo.cons ?_ ?_
        · intro f v hS hT K hK
          have e5 := hT 5 _ rfl rfl
          dsimp only [isV] at e5
          have e6 := hT 6 _ rfl rfl
          dsimp only [isV] at e6
          simp only [Act.put, List.setIfInBounds_toArray, List.set_cons_succ, List.set_cons_zero, e5, e6] at hK
          go_simp
          refine (CP.out k hk v).mono ?_
          rintro e w1 ⟨rfl, b1⟩
          exact hK.out _ _ rfl (hS.go b1) b1
        refine AllTo.cons ?_ ?_
        · intro f v hS hT K hK
          have e3 := hT 3 _ rfl rfl
          dsimp only [isV] at e3
          have e4 := hT 4 _ rfl rfl
          dsimp only [isV] at e4
          have e7 := hT 7 _ rfl rfl
          dsimp only [isV] at e7
          simp only [Act.put, List.setIfInBounds_toArray, List.set_cons_succ, List.set_cons_zero, e3, e4, e7] at hK
          go_simp
          refine (CC.out k hk v (BW.out.trans (hS.mono BW.out.size))).mono ?_
          rintro e w1 ⟨rfl, b1⟩
          exact hK.out _ _ rfl (hS.go b1) b1
        refine AllTo.cons ?_ ?_
        · intro f v hS hT K hK
          simp only [Act.put, List.setIfInBounds_toArray, List.set_cons_succ, List.set_cons_zero] at hK
          go_simp
          exact hK.out _ _ rfl hS (keep_refl _)
        refine AllTo.cons ?_ ?_
        · intro f v hS hT K hK
          have e9 := hT 9 _ rfl rfl
          dsimp only [isV] at e9
          simp only [Act.put, List.setIfInBounds_toArray, List.set_cons_succ, List.set_cons_zero, e9] at hK
          go_simp
          exact hK.out _ _ rfl hS (keep_refl _)
        refine AllTo.cons ?_ ?_
        · intro f v hS hT K hK
          have e8 := hT 8 _ rfl rfl
          dsimp only [isV] at e8
          have e10 := hT 10 _ rfl rfl
          dsimp only [isV] at e10
          simp only [Act.put, List.setIfInBounds_toArray, List.set_cons_succ, List.set_cons_zero, e8, e10] at hK
          go_simp
          exact hK.out _ _ rfl hS (keep_refl _)
        refine AllTo.cons ?_ ?_
        · intro f v hS hT K hK
          have e1 := hT 1 _ rfl rfl
          dsimp only [isV] at e1
          have e2 := hT 2 _ rfl rfl
          dsimp only [isV] at e2
          simp only [Act.put, List.setIfInBounds_toArray, List.set_cons_succ, List.set_cons_zero, e1, e2] at hK
          go_simp
          exact hK.out _ _ rfl hS (keep_refl _)
        exact AllTo.nil
      · intro f v hS hT K hK
        have ea := hT 11 _ rfl
        have eb := hT 12 _ rfl
        dsimp only [isV] at ea eb
        rw [ea, eb]
        clear ea eb hT
        have CPv := HCp.out.below hS HCp.out.lt
        obtain ⟨⟨u0, d0⟩, f0⟩ := CPv.cell (j := k) (by rw [HL.out]; omega)
        have KM2 := Lib.hid ((KM.out.below hS KM.out.lt).far (p := ⟨g, k, none⟩) (by intro e0; have e1 : w.heap.size = g := e0; omega) (.bool (fc k == (ds.length : Int))))
        have KR2 := Lib.hid ((KR.out.below hS KR.out.lt).far (p := ⟨g, k, none⟩) (by intro e0; have e1 : w.heap.size + 1 = g := e0; omega) (.bool (fc k == (ds.length : Int))))
        have KP2 := Lib.hid ((KP.out.below hS KP.out.lt).far (p := ⟨g, k, none⟩) (by intro e0; have e1 : pb = g := e0; omega) (.bool (fc k == (ds.length : Int))))
        have HC2 := Lib.hid (CPv.set_ (HG.out k hlt))
        have B2 := Lib.hid ((BW.out.trans (hS.mono BW.out.size)).setCell (p := ⟨g, k, none⟩) (show w.heap.size ≤ g by omega) (.bool (fc k == (ds.length : Int))))
        clear hS CPv
        go_simp
        refine hK.out _ _ ?_
        clear hK K
        go_wp2_with fail
        go_roundw
        case rel => exact ⟨k + 1, by omega, B2.out, KM2.out, KR2.out, KP2.out, HC2.out, by go_num⟩
        case measure => simp [intOf]; omega
    · obtain rfl : k = n := by omega
      obtain ⟨p0, p1, p2, p3, p4⟩ := cells_5 KP.out
      obtain ⟨f0, f1, f2, f3, f4, f5, f6, f7, f8, f9, f10, f11, f12, f13, f14⟩ := facts_5 KR.out
      have HD := Lib.hid (show Blk wr g 4 L.toArray from Copied.done (by rw [HL.out]; exact HCp.out))
      go_wp2_with fail
      exact bodyPost_ret (v := .agg #[.int .i64 x, .int .i64 y, .int .i64 W, .int .i64 H, .slice (some ⟨g, 0, none⟩) k k]) (by simp [results, Tryz.results59, go_sem, f10, f11, f12, f13, f14]) rfl ⟨g, rfl, by omega, blk_far5 HD.out (by omega) _ _ _ _ _, below_5 BW.out (by omega) _ _ _ _ _⟩
end Go.Proofs.YtaaioengebaebaaGreatDoor
