/- The piece of a mask that has a point, found breadth first; PieceAt of a cell that is set. PieceAt of a point whose cell is set. -/
import Derived.Test.YtaaioengebaebaaGreatDoorRows
import Derived.Test.YtaaioengebaebaaGreatDoorK8GA
import Derived.WalkKit
import Derived.ProofKit
import Derived.OpenShut
import Derived.BigQuiet
import Derived.Outline
import Derived.WalkSpells
import Derived.WalkLawsBesides
import Derived.Deep.DeepCutAuto
import Derived.Test.YtaaioengebaebaaGreatDoorK8GH
import Derived.Test.YtaaioengebaebaaGreatDoorK8GI
namespace Go.Proofs.YtaaioengebaebaaGreatDoor
open Go.ChangeShapes Go.WideShapes Go.ChangeAt Go.RowKit Go.Sort

theorem infoI64 : (Tryz.prog.info? 2).map (fun i => (i.zero, i.size, i.bytes)) = some (some (.int .i64 0), 1, 8) := by kernel_rfl
/-- The cells of a queue of indices. -/
def qC (qs : List Nat) : List Value := qs.map (fun (q : Nat) => Value.int .i64 (q : Int))
theorem qC_len (qs : List Nat) : (qC qs).length = qs.length := by simp [qC]
theorem qC_app (qs : List Nat) (i : Nat) : qC qs ++ [.int .i64 (i : Int)] = qC (qs ++ [i]) := by simp [qC]
/-- How many cells are not set. -/
def nf : List Bool → Nat
  | [] => 0
  | b :: bs => if b = true then nf bs else nf bs + 1
theorem nf_le : ∀ bs : List Bool, nf bs ≤ bs.length
  | [] => Nat.le_refl _
  | b :: bs => by have := nf_le bs; unfold nf; simp only [List.length_cons]; split <;> omega
theorem nf_set : ∀ (bs : List Bool) (i : Nat) (h : i < bs.length), bs[i] = false → nf (bs.set i true) + 1 = nf bs
  | b :: bs, 0, _, hb => by
    simp only [List.getElem_cons_zero] at hb
    subst hb
    simp [nf]
  | b :: bs, i + 1, h, hb => by
    simp only [List.getElem_cons_succ] at hb
    have := nf_set bs i (by simpa using h) hb
    simp only [List.set_cons_succ]
    unfold nf
    split <;> omega
def cellB (w : World) (g j : Nat) : Bool := match w.cell? ⟨g, j, none⟩ with | some (.bool b) => b | _ => true
def nfW (g n : Nat) (w : World) : Nat := nf ((List.range n).map (cellB w g))
theorem nfW_blk {w : World} {g n : Nat} {t : TypeId} {bs : List Bool} (h : Blk w g t (bC bs).toArray) (hl : bs.length = n) : nfW g n w = nf bs := by
  unfold nfW
  congr 1
  refine List.ext_getElem (by simp [hl]) ?_
  intro j h1 h2
  simp only [List.getElem_map, List.getElem_range]
  unfold cellB
  rw [blk_boolat h h2]
def lenN : Value → Nat
  | .slice _ n _ => n
  | _ => 0
theorem cellX_in {x y W H : Int} {n : Nat} (hm : maskB x y W H n = true) (px py : Int) : cellX x y W H px py = -1 ∨ ∃ i : Nat, i < n ∧ cellX x y W H px py = (i : Int) := by
  obtain ⟨a1, a2, a3, a4, a5, a6, a7, a8, a9, a10, a11, a12⟩ := mask_bd hm
  unfold cellX
  split
  · next hc =>
    simp only [inB, Bool.and_eq_true, decide_eq_true_eq] at hc
    right
    have p0 : 0 ≤ (py - y) * W := Int.mul_nonneg hc.2.1 (by omega)
    have p1 : (py - y) * W ≤ (H - 1) * W := Int.mul_le_mul_of_nonneg_right hc.2.2 (by omega)
    have p2 : (H - 1) * W = W * H - W := by rw [Int.sub_mul, Int.mul_comm H W, Int.one_mul]
    exact ⟨((py - y) * W + (px - x)).toNat, by omega, by omega⟩
  · exact .inl rfl
theorem cellX_at {x y W H : Int} {n i : Nat} (hm : maskB x y W H n = true) (hi : i < n) : cellX x y W H (pX x W i) (pY y W i) = (i : Int) := by
  obtain ⟨_, h1, h2, h3⟩ := cell_in hm hi
  unfold cellX
  rw [if_pos (by simp only [inB, Bool.and_eq_true, decide_eq_true_eq]; exact ⟨h1, h2⟩)]
  exact h3
set_option maxRecDepth 100000 in
set_option maxHeartbeats 8000000 in
theorem piece_any (x y W H : Int) (A : Option Addr) (c n : Nat) (cs : List Bool) (hcs : cs.length = n) (hm : maskB x y W H n = true) (a : Nat) (ha : a < n) (w : World) (hr : Reads w w.heap.size 1 A n (bC cs)) :
    Calls Tryz.prog 78 #[maskV x y W H A n c, .int .i64 (a : Int)] w fun e w' => (∃ gm : Nat, e = .returned (.agg #[.int .i64 x, .int .i64 y, .int .i64 W, .int .i64 H, .slice (some ⟨gm, 0, none⟩) n n])) ∧ Below w.heap.size w w' := by
  have mixed : Tryz.prog.follows Departure.mixedOrders = true := by kernel_rfl
  obtain ⟨hx, hx', hy, hy', h1, h1', hH, hH', hn6, hnW, hxW, hyH⟩ := mask_bd hm
  obtain ⟨i0, hi0, hz0, hz1, hz2⟩ := info_parts infoI64
  have CE := Lib.hid (fun W' => implEmptyZ x y W H A n c hn6 W')
  have CP := Lib.hid (fun (q : Nat) (hq : q < n) => (show ∃ px py : Int, (-1000 ≤ px ∧ px ≤ 1000) ∧ (-1000 ≤ py ∧ py ≤ 1000) ∧ ∀ W', Calls Tryz.prog 53 #[maskV x y W H A n c, .int .i64 (q : Int)] W' (fun e w' => e = .returned (.agg #[.int .i64 px, .int .i64 py]) ∧ Below W'.heap.size W' w') from by
    have hp := (cell_in hm hq).1
    simp only [ptB, inB, Bool.and_eq_true, decide_eq_true_eq] at hp
    exact ⟨pX x W q, pY y W q, by omega, by omega, fun W' => implPoint x y W H A n c q hx hx' hy hy' h1 h1' (by omega) W'⟩))
  have CL := Lib.hid (fun (px py : Int) (hp : -1001 ≤ px ∧ px ≤ 1001) (hq : -1001 ≤ py ∧ py ≤ 1001) W' => cell_any x y W H px py A n c ⟨hx, hx'⟩ ⟨hy, hy'⟩ ⟨h1, h1'⟩ ⟨hH, hH'⟩ hp hq W')
  have HI := Lib.hid (fun px py => cellX_in hm px py)
  have HR := Lib.hid (fun W' (hb : Below w.heap.size w W') => (hr.below hb).more hb.size)
  have HCS := Lib.hid hcs
  have KN := Lib.hid (blks_two w 40 40 #[.int .i64 x, .int .i64 y, .int .i64 W, .int .i64 H, .slice A n c] #[.int .i64 0, .int .i64 0, .int .i64 0, .int .i64 0, .slice none 0 0])
  clear hr hm hx hx' hy hy' h1 h1' hH hH' hnW hxW hyH hcs
  unfold maskV at CE CP CL ⊢
  generalize cellX x y W H = fx at CL HI
  go_enter Tryz.func78, Tryz.ntmps78
  go_wp2_with fail
  generalize hW : (w.alloc (.cells #[.int .i64 x, .int .i64 y, .int .i64 W, .int .i64 H, .slice A n c] 40)).alloc (.cells #[.int .i64 0, .int .i64 0, .int .i64 0, .int .i64 0, .slice none 0 0] 40) = W0
  obtain ⟨km, kr, bw, hsz0⟩ := KN.out W0 hW.symm
  have KM := Lib.hid km; have KR := Lib.hid kr; have BB := Lib.hid bw
  clear hW km kr bw KN
  obtain ⟨m0, m1, m2, m3, m4⟩ := cells_5 KM.out
  refine (CE.out W0).mono ?_; rintro e w1 hE
  clear m0 m1 m2 m3 m4
  obtain ⟨gm, rfl, hmd, b1⟩ := hE
  have KM1 := Lib.hid (KM.out.below b1 KM.out.lt); have KR1 := Lib.hid (KR.out.below b1 KR.out.lt); have B1 := Lib.hid (BB.out.trans (b1.mono BB.out.size))
  have hgW := hmd.1
  have hgl := hmd.2.lt
  go_upto_region 2 with (fail)
  have KN2 := Lib.hid (blks_one w1 40 #[.int .i64 x, .int .i64 y, .int .i64 W, .int .i64 H, .slice (some ⟨gm, 0, none⟩) n n])
  generalize hW2 : w1.alloc (.cells #[.int .i64 x, .int .i64 y, .int .i64 W, .int .i64 H, .slice (some ⟨gm, 0, none⟩) n n] 40) = W2
  obtain ⟨kp, bw2, hz2'⟩ := KN2.out W2 hW2.symm
  have KP := Lib.hid kp; have KM2 := Lib.hid (KM1.out.below bw2 KM1.out.lt); have KR2 := Lib.hid (KR1.out.below bw2 KR1.out.lt); have B2 := Lib.hid (B1.out.trans (bw2.mono B1.out.size)); have KC := Lib.hid (hmd.2.below bw2 hgl)
  obtain ⟨pb, hpb⟩ : ∃ p, p = w1.heap.size := ⟨_, rfl⟩
  rw [← hpb] at KP hgl hz2' ⊢
  have hrp : w.heap.size + 1 < pb := by have := KR1.out.lt; omega
  have hgw : w.heap.size + 1 < gm := by omega
  clear hW2 kp bw2 hmd b1 KM KR BB KM1 KR1 B1 KN2 hpb
  have u0 := blk_boolat KC.out (k := a) (by rw [noB_len]; exact ha)
  have f0 := KC.out.frozen a
  have ha' : (a : Int) < (n : Int) := by omega
  have ha0 : (0 : Int) ≤ (a : Int) := by omega
  obtain ⟨p0, p1, p2, p3, p4⟩ := cells_5 KP.out
  go_upto_region 3 with (fail)
  clear p0 p1 p2 p3 p4 u0 f0
  have KC3 := Lib.hid (blk_bool KC.out true (noB_len n) ha)
  have KM3 := Lib.hid (KM2.out.far (p := ⟨gm, a, none⟩) (by dsimp only; omega) (.bool true)); have KR3 := Lib.hid (KR2.out.far (p := ⟨gm, a, none⟩) (by dsimp only; omega) (.bool true)); have KP3 := Lib.hid (KP.out.far (p := ⟨gm, a, none⟩) (by dsimp only; omega) (.bool true))
  have B3 := Lib.hid (B2.out.setCell (p := ⟨gm, a, none⟩) (show w.heap.size ≤ gm by omega) (.bool true))
  have hz3 : (W2.setCell ⟨gm, a, none⟩ (.bool true)).heap.size = pb + 1 := by simpa [World.setCell] using hz2'
  generalize W2.setCell ⟨gm, a, none⟩ (.bool true) = w3 at KC3 KM3 KR3 KP3 B3 hz3 ⊢
  have HZ3 := Lib.hid hz3
  clear KC KM2 KR2 KP B2 hz2' hz3
  go_upto_region 4 with (fail)
  have hq4 := Que.start w3 w3.heap.size 2 (.int .i64 (a : Int)) (Nat.le_refl _)
  have b4 : Below w3.heap.size w3 (w3.alloc (.cells #[.int .i64 (a : Int)] 2)) := (Below.refl _ _).alloc (Nat.le_refl _) _
  generalize w3.alloc (.cells #[.int .i64 (a : Int)] 2) = w4 at hq4 b4 ⊢
  obtain ⟨base, hbase⟩ : ∃ p, p = w3.heap.size := ⟨_, rfl⟩
  have hbw4 : base ≤ w4.heap.size := by rw [hbase]; exact b4.size
  rw [← hbase] at hq4 ⊢
  have HQ4 := Lib.hid hq4
  have KM4 := Lib.hid (KM3.out.below b4 KM3.out.lt); have KR4 := Lib.hid (KR3.out.below b4 KR3.out.lt); have KP4 := Lib.hid (KP3.out.below b4 KP3.out.lt); have KC4 := Lib.hid (KC3.out.below b4 KC3.out.lt); have B4 := Lib.hid (B3.out.trans (b4.mono B3.out.size))
  have HBP := Lib.hid (show base = pb + 1 by have := HZ3.out; omega)
  have hbp : pb < base := by have := HBP.out; omega
  have hnb : nf ((noB n).set a true) ≤ n := by have := nf_le ((noB n).set a true); rw [List.length_set, noB_len] at this; exact this
  clear hq4 b4 KC3 KM3 KR3 KP3 B3 HZ3 hbase
  go_loopw [6] (fun v6 wr => ∃ (qs : List Nat) (bs : List Bool), Hid (bs.length = n) ∧ Hid (∀ q ∈ qs, q < n) ∧ Hid (2 * nf bs + qs.length ≤ 2 * n + 1) ∧ Hid (Que wr base v6 (qC qs)) ∧ Hid (base ≤ wr.heap.size) ∧ Hid (Below w.heap.size w wr) ∧ Hid (Blk wr w.heap.size 40 #[.int .i64 x, .int .i64 y, .int .i64 W, .int .i64 H, .slice A n c]) ∧ Hid (Blk wr (w.heap.size + 1) 40 #[.int .i64 0, .int .i64 0, .int .i64 0, .int .i64 0, .slice none 0 0]) ∧ Hid (Blk wr pb 40 #[.int .i64 x, .int .i64 y, .int .i64 W, .int .i64 H, .slice (some ⟨gm, 0, none⟩) n n]) ∧ Hid (Blk wr gm 4 (bC bs).toArray)) (fun v wr => 2 * nfW gm n wr + lenN v)
  case atStart => exact ⟨[a], (noB n).set a true, by show ((noB n).set a true).length = n; rw [List.length_set, noB_len], (fun q hq => by rw [List.mem_singleton] at hq; rw [hq]; exact ha), (by show 2 * nf ((noB n).set a true) + 1 ≤ 2 * n + 1; omega), HQ4.out, hbw4, B4.out, KM4.out, KR4.out, KP4.out, KC4.out⟩
  case round =>
    clear HQ4 KM4 KR4 KP4 KC4 B4 hbw4 hnb
    obtain ⟨qs, bs, HB, HN, HM, HQ, HW, B0, Km0, Kr0, Kp0, Kc0⟩ := hrel
    have hbw0 : base ≤ wr.heap.size := HW.out
    clear HW
    obtain ⟨b, off, cap, rfl, hle, hbb, hbl, hcm⟩ := HQ.out.shape
    rw [qC_len] at hle
    by_cases hq : qs = []
    · subst hq
      obtain ⟨p0, p1, p2, p3, p4⟩ := cells_5 Kp0.out
      obtain ⟨f0, f1, f2, f3, f4, f5, f6, f7, f8, f9, f10, f11, f12, f13, f14⟩ := facts_5 Kr0.out
      have hl0 : (qC []).length = 0 := rfl
      rw [hl0]
      go_wp2_with fail
      exact bodyPost_ret (v := .agg #[.int .i64 x, .int .i64 y, .int .i64 W, .int .i64 H, .slice (some ⟨gm, 0, none⟩) n n]) (by simp [results, Tryz.results78, go_sem, f10, f11, f12, f13, f14]) rfl ⟨⟨gm, rfl⟩, below_5 B0.out (by omega) _ _ _ _ _⟩
    · obtain ⟨q, qt, rfl⟩ : ∃ q qt, qs = q :: qt := by cases qs with | nil => exact absurd rfl hq | cons q qt => exact ⟨q, qt, rfl⟩
      clear hq
      have hqn := HN.out q (by simp)
      have hp := HQ.out.pop (q := .int .i64 (q : Int)) (qs := qC qt)
      obtain ⟨_, _, _, hqc, _⟩ := hp
      have hN : (qC (q :: qt)).length = qt.length + 1 := qC_len _
      obtain ⟨px, py, hpx, hpy, CQ⟩ := CP.out q hqn
      have CQ := Lib.hid CQ
      have HQ0 := HQ
      have hlN : (0 : Int) < ((qC (q :: qt)).length : Int) := by omega
      generalize hNN : (qC (q :: qt)).length = N at hlN HQ0 HQ hN ⊢
      have HN1 := Lib.hid hN; have HNN := Lib.hid hNN
      clear HQ hN hNN
      go_upto_region 6 with (fail)
      have hN0 : 0 < N := by omega
      simp only [show decide (0 < N) = true from decide_eq_true hN0]
      have KcO := Kc0
      refine' wp_region_slots (OverW wr) KeepW [isV (.agg #[.int .i64 x, .int .i64 y, .int .i64 W, .int .i64 H, .slice A n c]), isV (.slice (some ⟨b, off, none⟩) N cap), isV (.pointer (some ⟨b, off, none⟩)), isV (.int .i64 (q : Int)), isV (.agg #[.int .i64 px, .int .i64 py]), isNewBox wr 32 #[.int .i64 0, .int .i64 0]] mixed (by kernel_rfl) (by kernel_rfl) (OverW.drew (Below.refl _ _)) ?_ _ _ ?_ ?_ ?_
      · exact AllStable.cons (keep_V _) (AllStable.cons (keep_V _) (AllStable.cons (keep_V _) (AllStable.cons (keep_V _) (AllStable.cons (keep_V _) (AllStable.cons (keep_box _ _ _) (AllStable.nil))))))
      rotate_left 2
      · intro f; simp only [lay, List.setIfInBounds_toArray, List.set_cons_succ, List.set_cons_zero, Nat.reduceAdd]; exact rfl
      · refine AllTo.cons ?_ ?_
        · intro f v hS hT K hK
          obtain ⟨m0, m1, m2, m3, m4⟩ := cells_5 (Km0.out.below hS Km0.out.lt)
          simp only [Act.put, List.setIfInBounds_toArray, List.set_cons_succ, List.set_cons_zero] at hK
          go_simp
          exact hK.out _ _ rfl hS (keep_refl _)
        refine AllTo.cons ?_ ?_
        · intro f v hS hT K hK
          simp only [Act.put, List.setIfInBounds_toArray, List.set_cons_succ, List.set_cons_zero] at hK
          go_simp
          exact hK.out _ _ rfl hS (keep_refl _)
        refine AllTo.cons ?_ ?_
        · intro f v hS hT K hK
          have e1 := hT 1 _ rfl rfl
          dsimp only [isV] at e1
          simp only [Act.put, List.setIfInBounds_toArray, List.set_cons_succ, List.set_cons_zero, e1] at hK
          go_simp
          exact hK.out _ _ rfl hS (keep_refl _)
        refine AllTo.cons ?_ ?_
        · intro f v hS hT K hK
          have e2 := hT 2 _ rfl rfl
          dsimp only [isV] at e2
          have hqv := (hS.cell (p := ⟨b, off, none⟩) hbl).trans hqc
          simp only [Act.put, List.setIfInBounds_toArray, List.set_cons_succ, List.set_cons_zero, e2] at hK
          go_simp
          exact hK.out _ _ rfl hS (keep_refl _)
        refine AllTo.cons ?_ ?_
        · intro f v hS hT K hK
          have e0 := hT 0 _ rfl rfl
          dsimp only [isV] at e0
          have e3 := hT 3 _ rfl rfl
          dsimp only [isV] at e3
          simp only [Act.put, List.setIfInBounds_toArray, List.set_cons_succ, List.set_cons_zero, e0, e3] at hK
          go_simp
          refine (CQ.out v).mono ?_
          rintro e w1 ⟨rfl, b1⟩
          exact hK.out _ _ rfl (hS.go b1) b1
        refine AllTo.cons ?_ ?_
        · intro f v hS hT K hK
          simp only [Act.put, List.setIfInBounds_toArray, List.set_cons_succ, List.set_cons_zero] at hK
          go_simp
          exact hK.out _ _ ⟨v.heap.size, rfl, hS.size, Blk.new _ _ _⟩ (hS.new _) (keep_new _ _)
        exact AllTo.nil
      · intro f v hS hT K hK
        have ea := hT 4 _ rfl
        obtain ⟨xb, eb, hxb, hkx⟩ := hT 5 _ rfl
        dsimp only [isV] at ea
        rw [ea, eb]
        clear ea eb hT
        obtain ⟨f0, f1, f2, f3, f4, f5⟩ := facts_2 hkx
        have b := ((show Below wr.heap.size wr v from hS).setCell (p := ⟨xb, 0, none⟩) hxb (.int .i64 px)).setCell (p := ⟨xb, 1, none⟩) hxb (.int .i64 py)
        have kx : Blk ((v.setCell ⟨xb, 0, none⟩ (.int .i64 px)).setCell ⟨xb, 1, none⟩ (.int .i64 py)) xb 32 #[.int .i64 px, .int .i64 py] := by simpa using (hkx.set_ 0 (.int .i64 px)).set_ 1 (.int .i64 py)
        clear hkx hS
        go_simp
        refine hK.out _ _ ?_
        clear hK K f0 f1 f2 f3 f4 f5
        generalize (v.setCell ⟨xb, 0, none⟩ (.int .i64 px)).setCell ⟨xb, 1, none⟩ (.int .i64 py) = w1 at b kx ⊢
        have HQ1 := Lib.hid (HQ0.out.below b)
        have hbw1 : base ≤ w1.heap.size := Nat.le_trans hbw0 b.size
        clear HQ0
        have B1 := Lib.hid (B0.out.trans (b.mono B0.out.size))
        have Km1 := Lib.hid (Km0.out.below b Km0.out.lt)
        have Kr1 := Lib.hid (Kr0.out.below b Kr0.out.lt)
        have Kp1 := Lib.hid (Kp0.out.below b Kp0.out.lt)
        have Kc1 := Lib.hid (Kc0.out.below b Kc0.out.lt)
        have Kx1 := Lib.hid (kx)
        clear b B0 Km0 Kr0 Kp0 Kc0
        clear kx
        have ha1 : IntKind.i64.wrap (px + 1) = px + 1 := IntWalk.i64_in _ (by omega)
        have hb1 : IntKind.i64.wrap (py + 1) = py + 1 := IntWalk.i64_in _ (by omega)
        have hc1 : IntKind.i64.wrap (px - 1) = px - 1 := IntWalk.i64_in _ (by omega)
        have hd1 : IntKind.i64.wrap (py - 1) = py - 1 := IntWalk.i64_in _ (by omega)
        obtain ⟨cx0, cx1⟩ := cells_2 Kx1.out
        go_wp2_with fail
        clear cx0 cx1
        clear Kx1
        have HMW := Lib.hid (nfW_blk KcO.out HB.out)
        go_loopw [6, 54] (fun v6 v54 wr => ∃ (j : Nat) (qs : List Nat) (ds : List Bool), j ≤ 4 ∧ Hid (ds.length = n) ∧ Hid (∀ p ∈ qs, p < n) ∧ Hid (2 * nf ds + qs.length ≤ 2 * nf bs + (qt.length + 1)) ∧ Hid (∃ t, qs = q :: t) ∧ Hid (Que wr base v6 (qC qs)) ∧ Hid (base ≤ wr.heap.size) ∧ Hid (Below w.heap.size w wr) ∧ Hid (Blk wr w.heap.size 40 #[.int .i64 x, .int .i64 y, .int .i64 W, .int .i64 H, .slice A n c]) ∧ Hid (Blk wr (w.heap.size + 1) 40 #[.int .i64 0, .int .i64 0, .int .i64 0, .int .i64 0, .slice none 0 0]) ∧ Hid (Blk wr pb 40 #[.int .i64 x, .int .i64 y, .int .i64 W, .int .i64 H, .slice (some ⟨gm, 0, none⟩) n n]) ∧ Hid (Blk wr gm 4 (bC ds).toArray) ∧ v54 = .int .i64 (j : Int)) (fun _ i _ => 4 - (intOf i).toNat)
        case atStart => exact ⟨0, q :: qt, bs, by omega, HB.out, HN.out, Nat.le_refl _, ⟨qt, rfl⟩, HQ1.out, hbw1, B1.out, Km1.out, Kr1.out, Kp1.out, Kc1.out, rfl⟩
        case round =>
          clear HQ1 B1 Km1 Kr1 Kp1 Kc1
          obtain ⟨j, qs, ds, hj, HD, HN2, HM2, HT, HQ, HW, B1, Km1, Kr1, Kp1, Kc1, rfl⟩ := hrel
          have hbw1 := HW.out
          clear HW
          by_cases hj4 : j < 4
          · obtain rfl | rfl | rfl | rfl : j = 0 ∨ j = 1 ∨ j = 2 ∨ j = 3 := by omega
            · have HQ1 := HQ; clear HQ
              have hix := ix_0 (.int .i64 (px + 1)) (.int .i64 py) (.int .i64 px) (.int .i64 (py + 1)) (.int .i64 (px - 1)) (.int .i64 py) (.int .i64 px) (.int .i64 (py - 1))
              go_upto_region 10 with (fail)
              clear hix
              have b : Below wr.heap.size wr (wr.alloc (.cells #[.int .i64 (px + 1), .int .i64 (py)] 32)) := (Below.refl _ _).alloc (Nat.le_refl _) _
              have kx := Blk.new wr 32 #[.int .i64 (px + 1), .int .i64 (py)]
              generalize wr.alloc (.cells #[.int .i64 (px + 1), .int .i64 (py)] 32) = w2 at b kx ⊢
              have HQ2 := Lib.hid (HQ1.out.below b)
              have hbw2 : base ≤ w2.heap.size := Nat.le_trans hbw1 b.size
              clear HQ1
              have B2 := Lib.hid (B1.out.trans (b.mono B1.out.size))
              have Km2 := Lib.hid (Km1.out.below b Km1.out.lt)
              have Kr2 := Lib.hid (Kr1.out.below b Kr1.out.lt)
              have Kp2 := Lib.hid (Kp1.out.below b Kp1.out.lt)
              have Kc2 := Lib.hid (Kc1.out.below b Kc1.out.lt)
              have Kx2 := Lib.hid (kx)
              clear b B1 Km1 Kr1 Kp1 Kc1
              clear kx
              obtain ⟨cm0, cm1, cm2, cm3, cm4⟩ := cells_5 Km2.out
              obtain ⟨cx0, cx1⟩ := cells_2 Kx2.out
              go_wp2_with fail
              refine (CL.out (px + 1) (py) (by omega) (by omega) _).mono ?_
              rintro e w3 ⟨rfl, b⟩
              clear cm0 cm1 cm2 cm3 cm4 cx0 cx1
              have HQ3 := Lib.hid (HQ2.out.below b)
              have hbw3 : base ≤ w3.heap.size := Nat.le_trans hbw2 b.size
              clear HQ2
              have B3 := Lib.hid (B2.out.trans (b.mono B2.out.size))
              have Km3 := Lib.hid (Km2.out.below b Km2.out.lt)
              have Kr3 := Lib.hid (Kr2.out.below b Kr2.out.lt)
              have Kp3 := Lib.hid (Kp2.out.below b Kp2.out.lt)
              have Kc3 := Lib.hid (Kc2.out.below b Kc2.out.lt)
              have Kx3 := Lib.hid (Kx2.out.below b Kx2.out.lt)
              clear b B2 Km2 Kr2 Kp2 Kc2 Kx2
              clear Kx3
              rcases HI.out (px + 1) (py) with hc | ⟨p, hpn, hc⟩
              · rw [hc]
                obtain ⟨cm0, cm1, cm2, cm3, cm4⟩ := cells_5 Km3.out
                obtain ⟨cp0, cp1, cp2, cp3, cp4⟩ := cells_5 Kp3.out
                go_wp2_with fail
                go_roundw
                case rel => exact ⟨1, qs, ds, by omega, HD.out, HN2.out, HM2.out, HT.out, HQ3.out, hbw3, B3.out, Km3.out, Kr3.out, Kp3.out, Kc3.out, by go_num⟩
                case measure => simp [intOf]
              rw [hc]
              clear hc
              have hp0 : (0 : Int) ≤ (p : Int) := by omega
              have hp1 : (p : Int) < (n : Int) := by omega
              obtain ⟨ab, ao, rfl, hadb, hcell⟩ := (HR.out _ B3.out).2 (by omega)
              have c0 := hcell _ _ (bC_get cs p (by rw [HCS.out]; exact hpn))
              clear hcell
              cases hv : cs[p]'(by rw [HCS.out]; exact hpn)
              · rw [hv] at c0
                obtain ⟨cm0, cm1, cm2, cm3, cm4⟩ := cells_5 Km3.out
                obtain ⟨cp0, cp1, cp2, cp3, cp4⟩ := cells_5 Kp3.out
                go_wp2_with fail
                go_roundw
                case rel => exact ⟨1, qs, ds, by omega, HD.out, HN2.out, HM2.out, HT.out, HQ3.out, hbw3, B3.out, Km3.out, Kr3.out, Kp3.out, Kc3.out, by go_num⟩
                case measure => simp [intOf]
              · rw [hv] at c0
                have u0 := blk_boolat Kc3.out (k := p) (by rw [HD.out]; exact hpn)
                cases hw : ds[p]'(by rw [HD.out]; exact hpn)
                · rw [hw] at u0
                  have f0 := Kc3.out.frozen p
                  obtain ⟨cm0, cm1, cm2, cm3, cm4⟩ := cells_5 Km3.out
                  obtain ⟨cp0, cp1, cp2, cp3, cp4⟩ := cells_5 Kp3.out
                  go_upto_region 13 with (fail)
                  clear cm0 cm1 cm2 cm3 cm4 cp0 cp1 cp2 cp3 cp4 u0 f0 c0
                  have Kc4 := Lib.hid (blk_bool Kc3.out true HD.out hpn)
                  have Km4 := Lib.hid (Km3.out.far (p := ⟨gm, p, none⟩) (by dsimp only; omega) (.bool true))
                  have Kr4 := Lib.hid (Kr3.out.far (p := ⟨gm, p, none⟩) (by dsimp only; omega) (.bool true))
                  have Kp4 := Lib.hid (Kp3.out.far (p := ⟨gm, p, none⟩) (by dsimp only; omega) (.bool true))
                  have B4 := Lib.hid (B3.out.setCell (p := ⟨gm, p, none⟩) (show w.heap.size ≤ gm by omega) (.bool true))
                  have HQ4 := Lib.hid (HQ3.out.grown (g := gm) (w' := (w3.setCell ⟨gm, p, none⟩ (.bool true))) (only_set (only_refl w3 gm) p (.bool true)) (by omega))
                  have hbw4 : base ≤ (w3.setCell ⟨gm, p, none⟩ (.bool true)).heap.size := by simpa [World.setCell] using hbw3
                  generalize w3.setCell ⟨gm, p, none⟩ (.bool true) = w4 at Kc4 Km4 Kr4 Kp4 B4 HQ4 hbw4 ⊢
                  clear Kc3 Km3 Kr3 Kp3 B3 HQ3
                  have HML := HM2.out
                  have hds := nf_le ds
                  have hnb := nf_le bs
                  rw [HB.out] at hnb
                  have hMO := HM.out
                  simp only [List.length_cons] at hMO
                  have hqa := (HQ4.out.below ((Below.refl w4.heap.size w4).alloc (Nat.le_refl _) (.cells #[.int .i64 (p : Int)] 2)))
                  have HQA := Lib.hid hqa; clear hqa
                  have ba : Below w4.heap.size w4 (w4.alloc (.cells #[.int .i64 (p : Int)] 2)) := (Below.refl _ _).alloc (Nat.le_refl _) _
                  have ka := Blk.new w4 2 #[.int .i64 (p : Int)]
                  go_wp2_with (at_builtin; refine wpList_append_que _ rfl (.tmp 81) (.tmp 83) _ rfl 2 i0 _ _ Tryz.underlying125 hi0 hz0 hz1 hz2 rfl base _ (qC qs) rfl HQA.out ⟨w4.heap.size, 0, none⟩ 1 (.int .i64 (p : Int)) rfl (by rw [ka.cell]; rfl) rfl (by rw [qC_len]; simp only [maxLen]; omega) (by rw [qC_len]; omega) (Nat.le_trans hbw4 ba.size) ?_; intro v9 w9 hq9 b9)
                  have b := (ba.mono hbw4).trans b9
                  have hbw9 : base ≤ w9.heap.size := Nat.le_trans hbw4 b.size
                  rw [qC_app] at hq9
                  have HQ9 := Lib.hid hq9
                  have B9 := Lib.hid (B4.out.trans (b.mono (by omega)))
                  have Km9 := Lib.hid (Km4.out.below b (by omega))
                  have Kr9 := Lib.hid (Kr4.out.below b (by omega))
                  have Kp9 := Lib.hid (Kp4.out.below b (by omega))
                  have Kc9 := Lib.hid (Kc4.out.below b (by omega))
                  clear hq9 b b9 ba ka HQA HQ4 B4 Km4 Kr4 Kp4 Kc4
                  have HN3 := Lib.hid (show ∀ r ∈ qs ++ [p], r < n from fun r hr => by
                    rw [List.mem_append, List.mem_singleton] at hr
                    rcases hr with hr | hr
                    · exact HN2.out r hr
                    · rw [hr]; exact hpn)
                  have HM3 := Lib.hid (show 2 * nf (ds.set p true) + (qs ++ [p]).length ≤ 2 * nf bs + (qt.length + 1) by
                    have h1 := nf_set ds p (by rw [HD.out]; exact hpn) hw
                    simp only [List.length_append, List.length_cons, List.length_nil]
                    omega)
                  have HT3 := Lib.hid (show ∃ t, qs ++ [p] = q :: t by
                    obtain ⟨t, ht⟩ := HT.out
                    exact ⟨t ++ [p], by rw [ht]; rfl⟩)
                  have HD3 := Lib.hid (show (ds.set p true).length = n by rw [List.length_set]; exact HD.out)
                  clear HML hds hnb hMO
                  go_wp2_with fail
                  go_roundw
                  case rel => exact ⟨1, qs ++ [p], ds.set p true, by omega, HD3.out, HN3.out, HM3.out, HT3.out, HQ9.out, hbw9, B9.out, Km9.out, Kr9.out, Kp9.out, Kc9.out, by go_num⟩
                  case measure => simp [intOf]
                · rw [hw] at u0
                  obtain ⟨cm0, cm1, cm2, cm3, cm4⟩ := cells_5 Km3.out
                  obtain ⟨cp0, cp1, cp2, cp3, cp4⟩ := cells_5 Kp3.out
                  go_wp2_with fail
                  go_roundw
                  case rel => exact ⟨1, qs, ds, by omega, HD.out, HN2.out, HM2.out, HT.out, HQ3.out, hbw3, B3.out, Km3.out, Kr3.out, Kp3.out, Kc3.out, by go_num⟩
                  case measure => simp [intOf]
            · have HQ1 := HQ; clear HQ
              have hix := ix_1 (.int .i64 (px + 1)) (.int .i64 py) (.int .i64 px) (.int .i64 (py + 1)) (.int .i64 (px - 1)) (.int .i64 py) (.int .i64 px) (.int .i64 (py - 1))
              go_upto_region 10 with (fail)
              clear hix
              have b : Below wr.heap.size wr (wr.alloc (.cells #[.int .i64 (px), .int .i64 (py + 1)] 32)) := (Below.refl _ _).alloc (Nat.le_refl _) _
              have kx := Blk.new wr 32 #[.int .i64 (px), .int .i64 (py + 1)]
              generalize wr.alloc (.cells #[.int .i64 (px), .int .i64 (py + 1)] 32) = w2 at b kx ⊢
              have HQ2 := Lib.hid (HQ1.out.below b)
              have hbw2 : base ≤ w2.heap.size := Nat.le_trans hbw1 b.size
              clear HQ1
              have B2 := Lib.hid (B1.out.trans (b.mono B1.out.size))
              have Km2 := Lib.hid (Km1.out.below b Km1.out.lt)
              have Kr2 := Lib.hid (Kr1.out.below b Kr1.out.lt)
              have Kp2 := Lib.hid (Kp1.out.below b Kp1.out.lt)
              have Kc2 := Lib.hid (Kc1.out.below b Kc1.out.lt)
              have Kx2 := Lib.hid (kx)
              clear b B1 Km1 Kr1 Kp1 Kc1
              clear kx
              obtain ⟨cm0, cm1, cm2, cm3, cm4⟩ := cells_5 Km2.out
              obtain ⟨cx0, cx1⟩ := cells_2 Kx2.out
              go_wp2_with fail
              refine (CL.out (px) (py + 1) (by omega) (by omega) _).mono ?_
              rintro e w3 ⟨rfl, b⟩
              clear cm0 cm1 cm2 cm3 cm4 cx0 cx1
              have HQ3 := Lib.hid (HQ2.out.below b)
              have hbw3 : base ≤ w3.heap.size := Nat.le_trans hbw2 b.size
              clear HQ2
              have B3 := Lib.hid (B2.out.trans (b.mono B2.out.size))
              have Km3 := Lib.hid (Km2.out.below b Km2.out.lt)
              have Kr3 := Lib.hid (Kr2.out.below b Kr2.out.lt)
              have Kp3 := Lib.hid (Kp2.out.below b Kp2.out.lt)
              have Kc3 := Lib.hid (Kc2.out.below b Kc2.out.lt)
              have Kx3 := Lib.hid (Kx2.out.below b Kx2.out.lt)
              clear b B2 Km2 Kr2 Kp2 Kc2 Kx2
              clear Kx3
              rcases HI.out (px) (py + 1) with hc | ⟨p, hpn, hc⟩
              · rw [hc]
                obtain ⟨cm0, cm1, cm2, cm3, cm4⟩ := cells_5 Km3.out
                obtain ⟨cp0, cp1, cp2, cp3, cp4⟩ := cells_5 Kp3.out
                go_wp2_with fail
                go_roundw
                case rel => exact ⟨2, qs, ds, by omega, HD.out, HN2.out, HM2.out, HT.out, HQ3.out, hbw3, B3.out, Km3.out, Kr3.out, Kp3.out, Kc3.out, by go_num⟩
                case measure => simp [intOf]
              rw [hc]
              clear hc
              have hp0 : (0 : Int) ≤ (p : Int) := by omega
              have hp1 : (p : Int) < (n : Int) := by omega
              obtain ⟨ab, ao, rfl, hadb, hcell⟩ := (HR.out _ B3.out).2 (by omega)
              have c0 := hcell _ _ (bC_get cs p (by rw [HCS.out]; exact hpn))
              clear hcell
              cases hv : cs[p]'(by rw [HCS.out]; exact hpn)
              · rw [hv] at c0
                obtain ⟨cm0, cm1, cm2, cm3, cm4⟩ := cells_5 Km3.out
                obtain ⟨cp0, cp1, cp2, cp3, cp4⟩ := cells_5 Kp3.out
                go_wp2_with fail
                go_roundw
                case rel => exact ⟨2, qs, ds, by omega, HD.out, HN2.out, HM2.out, HT.out, HQ3.out, hbw3, B3.out, Km3.out, Kr3.out, Kp3.out, Kc3.out, by go_num⟩
                case measure => simp [intOf]
              · rw [hv] at c0
                have u0 := blk_boolat Kc3.out (k := p) (by rw [HD.out]; exact hpn)
                cases hw : ds[p]'(by rw [HD.out]; exact hpn)
                · rw [hw] at u0
                  have f0 := Kc3.out.frozen p
                  obtain ⟨cm0, cm1, cm2, cm3, cm4⟩ := cells_5 Km3.out
                  obtain ⟨cp0, cp1, cp2, cp3, cp4⟩ := cells_5 Kp3.out
                  go_upto_region 13 with (fail)
                  clear cm0 cm1 cm2 cm3 cm4 cp0 cp1 cp2 cp3 cp4 u0 f0 c0
                  have Kc4 := Lib.hid (blk_bool Kc3.out true HD.out hpn)
                  have Km4 := Lib.hid (Km3.out.far (p := ⟨gm, p, none⟩) (by dsimp only; omega) (.bool true))
                  have Kr4 := Lib.hid (Kr3.out.far (p := ⟨gm, p, none⟩) (by dsimp only; omega) (.bool true))
                  have Kp4 := Lib.hid (Kp3.out.far (p := ⟨gm, p, none⟩) (by dsimp only; omega) (.bool true))
                  have B4 := Lib.hid (B3.out.setCell (p := ⟨gm, p, none⟩) (show w.heap.size ≤ gm by omega) (.bool true))
                  have HQ4 := Lib.hid (HQ3.out.grown (g := gm) (w' := (w3.setCell ⟨gm, p, none⟩ (.bool true))) (only_set (only_refl w3 gm) p (.bool true)) (by omega))
                  have hbw4 : base ≤ (w3.setCell ⟨gm, p, none⟩ (.bool true)).heap.size := by simpa [World.setCell] using hbw3
                  generalize w3.setCell ⟨gm, p, none⟩ (.bool true) = w4 at Kc4 Km4 Kr4 Kp4 B4 HQ4 hbw4 ⊢
                  clear Kc3 Km3 Kr3 Kp3 B3 HQ3
                  have HML := HM2.out
                  have hds := nf_le ds
                  have hnb := nf_le bs
                  rw [HB.out] at hnb
                  have hMO := HM.out
                  simp only [List.length_cons] at hMO
                  have hqa := (HQ4.out.below ((Below.refl w4.heap.size w4).alloc (Nat.le_refl _) (.cells #[.int .i64 (p : Int)] 2)))
                  have HQA := Lib.hid hqa; clear hqa
                  have ba : Below w4.heap.size w4 (w4.alloc (.cells #[.int .i64 (p : Int)] 2)) := (Below.refl _ _).alloc (Nat.le_refl _) _
                  have ka := Blk.new w4 2 #[.int .i64 (p : Int)]
                  go_wp2_with (at_builtin; refine wpList_append_que _ rfl (.tmp 81) (.tmp 83) _ rfl 2 i0 _ _ Tryz.underlying125 hi0 hz0 hz1 hz2 rfl base _ (qC qs) rfl HQA.out ⟨w4.heap.size, 0, none⟩ 1 (.int .i64 (p : Int)) rfl (by rw [ka.cell]; rfl) rfl (by rw [qC_len]; simp only [maxLen]; omega) (by rw [qC_len]; omega) (Nat.le_trans hbw4 ba.size) ?_; intro v9 w9 hq9 b9)
                  have b := (ba.mono hbw4).trans b9
                  have hbw9 : base ≤ w9.heap.size := Nat.le_trans hbw4 b.size
                  rw [qC_app] at hq9
                  have HQ9 := Lib.hid hq9
                  have B9 := Lib.hid (B4.out.trans (b.mono (by omega)))
                  have Km9 := Lib.hid (Km4.out.below b (by omega))
                  have Kr9 := Lib.hid (Kr4.out.below b (by omega))
                  have Kp9 := Lib.hid (Kp4.out.below b (by omega))
                  have Kc9 := Lib.hid (Kc4.out.below b (by omega))
                  clear hq9 b b9 ba ka HQA HQ4 B4 Km4 Kr4 Kp4 Kc4
                  have HN3 := Lib.hid (show ∀ r ∈ qs ++ [p], r < n from fun r hr => by
                    rw [List.mem_append, List.mem_singleton] at hr
                    rcases hr with hr | hr
                    · exact HN2.out r hr
                    · rw [hr]; exact hpn)
                  have HM3 := Lib.hid (show 2 * nf (ds.set p true) + (qs ++ [p]).length ≤ 2 * nf bs + (qt.length + 1) by
                    have h1 := nf_set ds p (by rw [HD.out]; exact hpn) hw
                    simp only [List.length_append, List.length_cons, List.length_nil]
                    omega)
                  have HT3 := Lib.hid (show ∃ t, qs ++ [p] = q :: t by
                    obtain ⟨t, ht⟩ := HT.out
                    exact ⟨t ++ [p], by rw [ht]; rfl⟩)
                  have HD3 := Lib.hid (show (ds.set p true).length = n by rw [List.length_set]; exact HD.out)
                  clear HML hds hnb hMO
                  go_wp2_with fail
                  go_roundw
                  case rel => exact ⟨2, qs ++ [p], ds.set p true, by omega, HD3.out, HN3.out, HM3.out, HT3.out, HQ9.out, hbw9, B9.out, Km9.out, Kr9.out, Kp9.out, Kc9.out, by go_num⟩
                  case measure => simp [intOf]
                · rw [hw] at u0
                  obtain ⟨cm0, cm1, cm2, cm3, cm4⟩ := cells_5 Km3.out
                  obtain ⟨cp0, cp1, cp2, cp3, cp4⟩ := cells_5 Kp3.out
                  go_wp2_with fail
                  go_roundw
                  case rel => exact ⟨2, qs, ds, by omega, HD.out, HN2.out, HM2.out, HT.out, HQ3.out, hbw3, B3.out, Km3.out, Kr3.out, Kp3.out, Kc3.out, by go_num⟩
                  case measure => simp [intOf]
            · have HQ1 := HQ; clear HQ
              have hix := ix_2 (.int .i64 (px + 1)) (.int .i64 py) (.int .i64 px) (.int .i64 (py + 1)) (.int .i64 (px - 1)) (.int .i64 py) (.int .i64 px) (.int .i64 (py - 1))
              go_upto_region 10 with (fail)
              clear hix
              have b : Below wr.heap.size wr (wr.alloc (.cells #[.int .i64 (px - 1), .int .i64 (py)] 32)) := (Below.refl _ _).alloc (Nat.le_refl _) _
              have kx := Blk.new wr 32 #[.int .i64 (px - 1), .int .i64 (py)]
              generalize wr.alloc (.cells #[.int .i64 (px - 1), .int .i64 (py)] 32) = w2 at b kx ⊢
              have HQ2 := Lib.hid (HQ1.out.below b)
              have hbw2 : base ≤ w2.heap.size := Nat.le_trans hbw1 b.size
              clear HQ1
              have B2 := Lib.hid (B1.out.trans (b.mono B1.out.size))
              have Km2 := Lib.hid (Km1.out.below b Km1.out.lt)
              have Kr2 := Lib.hid (Kr1.out.below b Kr1.out.lt)
              have Kp2 := Lib.hid (Kp1.out.below b Kp1.out.lt)
              have Kc2 := Lib.hid (Kc1.out.below b Kc1.out.lt)
              have Kx2 := Lib.hid (kx)
              clear b B1 Km1 Kr1 Kp1 Kc1
              clear kx
              obtain ⟨cm0, cm1, cm2, cm3, cm4⟩ := cells_5 Km2.out
              obtain ⟨cx0, cx1⟩ := cells_2 Kx2.out
              go_wp2_with fail
              refine (CL.out (px - 1) (py) (by omega) (by omega) _).mono ?_
              rintro e w3 ⟨rfl, b⟩
              clear cm0 cm1 cm2 cm3 cm4 cx0 cx1
              have HQ3 := Lib.hid (HQ2.out.below b)
              have hbw3 : base ≤ w3.heap.size := Nat.le_trans hbw2 b.size
              clear HQ2
              have B3 := Lib.hid (B2.out.trans (b.mono B2.out.size))
              have Km3 := Lib.hid (Km2.out.below b Km2.out.lt)
              have Kr3 := Lib.hid (Kr2.out.below b Kr2.out.lt)
              have Kp3 := Lib.hid (Kp2.out.below b Kp2.out.lt)
              have Kc3 := Lib.hid (Kc2.out.below b Kc2.out.lt)
              have Kx3 := Lib.hid (Kx2.out.below b Kx2.out.lt)
              clear b B2 Km2 Kr2 Kp2 Kc2 Kx2
              clear Kx3
              rcases HI.out (px - 1) (py) with hc | ⟨p, hpn, hc⟩
              · rw [hc]
                obtain ⟨cm0, cm1, cm2, cm3, cm4⟩ := cells_5 Km3.out
                obtain ⟨cp0, cp1, cp2, cp3, cp4⟩ := cells_5 Kp3.out
                go_wp2_with fail
                go_roundw
                case rel => exact ⟨3, qs, ds, by omega, HD.out, HN2.out, HM2.out, HT.out, HQ3.out, hbw3, B3.out, Km3.out, Kr3.out, Kp3.out, Kc3.out, by go_num⟩
                case measure => simp [intOf]
              rw [hc]
              clear hc
              have hp0 : (0 : Int) ≤ (p : Int) := by omega
              have hp1 : (p : Int) < (n : Int) := by omega
              obtain ⟨ab, ao, rfl, hadb, hcell⟩ := (HR.out _ B3.out).2 (by omega)
              have c0 := hcell _ _ (bC_get cs p (by rw [HCS.out]; exact hpn))
              clear hcell
              cases hv : cs[p]'(by rw [HCS.out]; exact hpn)
              · rw [hv] at c0
                obtain ⟨cm0, cm1, cm2, cm3, cm4⟩ := cells_5 Km3.out
                obtain ⟨cp0, cp1, cp2, cp3, cp4⟩ := cells_5 Kp3.out
                go_wp2_with fail
                go_roundw
                case rel => exact ⟨3, qs, ds, by omega, HD.out, HN2.out, HM2.out, HT.out, HQ3.out, hbw3, B3.out, Km3.out, Kr3.out, Kp3.out, Kc3.out, by go_num⟩
                case measure => simp [intOf]
              · rw [hv] at c0
                have u0 := blk_boolat Kc3.out (k := p) (by rw [HD.out]; exact hpn)
                cases hw : ds[p]'(by rw [HD.out]; exact hpn)
                · rw [hw] at u0
                  have f0 := Kc3.out.frozen p
                  obtain ⟨cm0, cm1, cm2, cm3, cm4⟩ := cells_5 Km3.out
                  obtain ⟨cp0, cp1, cp2, cp3, cp4⟩ := cells_5 Kp3.out
                  go_upto_region 13 with (fail)
                  clear cm0 cm1 cm2 cm3 cm4 cp0 cp1 cp2 cp3 cp4 u0 f0 c0
                  have Kc4 := Lib.hid (blk_bool Kc3.out true HD.out hpn)
                  have Km4 := Lib.hid (Km3.out.far (p := ⟨gm, p, none⟩) (by dsimp only; omega) (.bool true))
                  have Kr4 := Lib.hid (Kr3.out.far (p := ⟨gm, p, none⟩) (by dsimp only; omega) (.bool true))
                  have Kp4 := Lib.hid (Kp3.out.far (p := ⟨gm, p, none⟩) (by dsimp only; omega) (.bool true))
                  have B4 := Lib.hid (B3.out.setCell (p := ⟨gm, p, none⟩) (show w.heap.size ≤ gm by omega) (.bool true))
                  have HQ4 := Lib.hid (HQ3.out.grown (g := gm) (w' := (w3.setCell ⟨gm, p, none⟩ (.bool true))) (only_set (only_refl w3 gm) p (.bool true)) (by omega))
                  have hbw4 : base ≤ (w3.setCell ⟨gm, p, none⟩ (.bool true)).heap.size := by simpa [World.setCell] using hbw3
                  generalize w3.setCell ⟨gm, p, none⟩ (.bool true) = w4 at Kc4 Km4 Kr4 Kp4 B4 HQ4 hbw4 ⊢
                  clear Kc3 Km3 Kr3 Kp3 B3 HQ3
                  have HML := HM2.out
                  have hds := nf_le ds
                  have hnb := nf_le bs
                  rw [HB.out] at hnb
                  have hMO := HM.out
                  simp only [List.length_cons] at hMO
                  have hqa := (HQ4.out.below ((Below.refl w4.heap.size w4).alloc (Nat.le_refl _) (.cells #[.int .i64 (p : Int)] 2)))
                  have HQA := Lib.hid hqa; clear hqa
                  have ba : Below w4.heap.size w4 (w4.alloc (.cells #[.int .i64 (p : Int)] 2)) := (Below.refl _ _).alloc (Nat.le_refl _) _
                  have ka := Blk.new w4 2 #[.int .i64 (p : Int)]
                  go_wp2_with (at_builtin; refine wpList_append_que _ rfl (.tmp 81) (.tmp 83) _ rfl 2 i0 _ _ Tryz.underlying125 hi0 hz0 hz1 hz2 rfl base _ (qC qs) rfl HQA.out ⟨w4.heap.size, 0, none⟩ 1 (.int .i64 (p : Int)) rfl (by rw [ka.cell]; rfl) rfl (by rw [qC_len]; simp only [maxLen]; omega) (by rw [qC_len]; omega) (Nat.le_trans hbw4 ba.size) ?_; intro v9 w9 hq9 b9)
                  have b := (ba.mono hbw4).trans b9
                  have hbw9 : base ≤ w9.heap.size := Nat.le_trans hbw4 b.size
                  rw [qC_app] at hq9
                  have HQ9 := Lib.hid hq9
                  have B9 := Lib.hid (B4.out.trans (b.mono (by omega)))
                  have Km9 := Lib.hid (Km4.out.below b (by omega))
                  have Kr9 := Lib.hid (Kr4.out.below b (by omega))
                  have Kp9 := Lib.hid (Kp4.out.below b (by omega))
                  have Kc9 := Lib.hid (Kc4.out.below b (by omega))
                  clear hq9 b b9 ba ka HQA HQ4 B4 Km4 Kr4 Kp4 Kc4
                  have HN3 := Lib.hid (show ∀ r ∈ qs ++ [p], r < n from fun r hr => by
                    rw [List.mem_append, List.mem_singleton] at hr
                    rcases hr with hr | hr
                    · exact HN2.out r hr
                    · rw [hr]; exact hpn)
                  have HM3 := Lib.hid (show 2 * nf (ds.set p true) + (qs ++ [p]).length ≤ 2 * nf bs + (qt.length + 1) by
                    have h1 := nf_set ds p (by rw [HD.out]; exact hpn) hw
                    simp only [List.length_append, List.length_cons, List.length_nil]
                    omega)
                  have HT3 := Lib.hid (show ∃ t, qs ++ [p] = q :: t by
                    obtain ⟨t, ht⟩ := HT.out
                    exact ⟨t ++ [p], by rw [ht]; rfl⟩)
                  have HD3 := Lib.hid (show (ds.set p true).length = n by rw [List.length_set]; exact HD.out)
                  clear HML hds hnb hMO
                  go_wp2_with fail
                  go_roundw
                  case rel => exact ⟨3, qs ++ [p], ds.set p true, by omega, HD3.out, HN3.out, HM3.out, HT3.out, HQ9.out, hbw9, B9.out, Km9.out, Kr9.out, Kp9.out, Kc9.out, by go_num⟩
                  case measure => simp [intOf]
                · rw [hw] at u0
                  obtain ⟨cm0, cm1, cm2, cm3, cm4⟩ := cells_5 Km3.out
                  obtain ⟨cp0, cp1, cp2, cp3, cp4⟩ := cells_5 Kp3.out
                  go_wp2_with fail
                  go_roundw
                  case rel => exact ⟨3, qs, ds, by omega, HD.out, HN2.out, HM2.out, HT.out, HQ3.out, hbw3, B3.out, Km3.out, Kr3.out, Kp3.out, Kc3.out, by go_num⟩
                  case measure => simp [intOf]
            · have HQ1 := HQ; clear HQ
              have hix := ix_3 (.int .i64 (px + 1)) (.int .i64 py) (.int .i64 px) (.int .i64 (py + 1)) (.int .i64 (px - 1)) (.int .i64 py) (.int .i64 px) (.int .i64 (py - 1))
              go_upto_region 10 with (fail)
              clear hix
              have b : Below wr.heap.size wr (wr.alloc (.cells #[.int .i64 (px), .int .i64 (py - 1)] 32)) := (Below.refl _ _).alloc (Nat.le_refl _) _
              have kx := Blk.new wr 32 #[.int .i64 (px), .int .i64 (py - 1)]
              generalize wr.alloc (.cells #[.int .i64 (px), .int .i64 (py - 1)] 32) = w2 at b kx ⊢
              have HQ2 := Lib.hid (HQ1.out.below b)
              have hbw2 : base ≤ w2.heap.size := Nat.le_trans hbw1 b.size
              clear HQ1
              have B2 := Lib.hid (B1.out.trans (b.mono B1.out.size))
              have Km2 := Lib.hid (Km1.out.below b Km1.out.lt)
              have Kr2 := Lib.hid (Kr1.out.below b Kr1.out.lt)
              have Kp2 := Lib.hid (Kp1.out.below b Kp1.out.lt)
              have Kc2 := Lib.hid (Kc1.out.below b Kc1.out.lt)
              have Kx2 := Lib.hid (kx)
              clear b B1 Km1 Kr1 Kp1 Kc1
              clear kx
              obtain ⟨cm0, cm1, cm2, cm3, cm4⟩ := cells_5 Km2.out
              obtain ⟨cx0, cx1⟩ := cells_2 Kx2.out
              go_wp2_with fail
              refine (CL.out (px) (py - 1) (by omega) (by omega) _).mono ?_
              rintro e w3 ⟨rfl, b⟩
              clear cm0 cm1 cm2 cm3 cm4 cx0 cx1
              have HQ3 := Lib.hid (HQ2.out.below b)
              have hbw3 : base ≤ w3.heap.size := Nat.le_trans hbw2 b.size
              clear HQ2
              have B3 := Lib.hid (B2.out.trans (b.mono B2.out.size))
              have Km3 := Lib.hid (Km2.out.below b Km2.out.lt)
              have Kr3 := Lib.hid (Kr2.out.below b Kr2.out.lt)
              have Kp3 := Lib.hid (Kp2.out.below b Kp2.out.lt)
              have Kc3 := Lib.hid (Kc2.out.below b Kc2.out.lt)
              have Kx3 := Lib.hid (Kx2.out.below b Kx2.out.lt)
              clear b B2 Km2 Kr2 Kp2 Kc2 Kx2
              clear Kx3
              rcases HI.out (px) (py - 1) with hc | ⟨p, hpn, hc⟩
              · rw [hc]
                obtain ⟨cm0, cm1, cm2, cm3, cm4⟩ := cells_5 Km3.out
                obtain ⟨cp0, cp1, cp2, cp3, cp4⟩ := cells_5 Kp3.out
                go_wp2_with fail
                go_roundw
                case rel => exact ⟨4, qs, ds, by omega, HD.out, HN2.out, HM2.out, HT.out, HQ3.out, hbw3, B3.out, Km3.out, Kr3.out, Kp3.out, Kc3.out, by go_num⟩
                case measure => simp [intOf]
              rw [hc]
              clear hc
              have hp0 : (0 : Int) ≤ (p : Int) := by omega
              have hp1 : (p : Int) < (n : Int) := by omega
              obtain ⟨ab, ao, rfl, hadb, hcell⟩ := (HR.out _ B3.out).2 (by omega)
              have c0 := hcell _ _ (bC_get cs p (by rw [HCS.out]; exact hpn))
              clear hcell
              cases hv : cs[p]'(by rw [HCS.out]; exact hpn)
              · rw [hv] at c0
                obtain ⟨cm0, cm1, cm2, cm3, cm4⟩ := cells_5 Km3.out
                obtain ⟨cp0, cp1, cp2, cp3, cp4⟩ := cells_5 Kp3.out
                go_wp2_with fail
                go_roundw
                case rel => exact ⟨4, qs, ds, by omega, HD.out, HN2.out, HM2.out, HT.out, HQ3.out, hbw3, B3.out, Km3.out, Kr3.out, Kp3.out, Kc3.out, by go_num⟩
                case measure => simp [intOf]
              · rw [hv] at c0
                have u0 := blk_boolat Kc3.out (k := p) (by rw [HD.out]; exact hpn)
                cases hw : ds[p]'(by rw [HD.out]; exact hpn)
                · rw [hw] at u0
                  have f0 := Kc3.out.frozen p
                  obtain ⟨cm0, cm1, cm2, cm3, cm4⟩ := cells_5 Km3.out
                  obtain ⟨cp0, cp1, cp2, cp3, cp4⟩ := cells_5 Kp3.out
                  go_upto_region 13 with (fail)
                  clear cm0 cm1 cm2 cm3 cm4 cp0 cp1 cp2 cp3 cp4 u0 f0 c0
                  have Kc4 := Lib.hid (blk_bool Kc3.out true HD.out hpn)
                  have Km4 := Lib.hid (Km3.out.far (p := ⟨gm, p, none⟩) (by dsimp only; omega) (.bool true))
                  have Kr4 := Lib.hid (Kr3.out.far (p := ⟨gm, p, none⟩) (by dsimp only; omega) (.bool true))
                  have Kp4 := Lib.hid (Kp3.out.far (p := ⟨gm, p, none⟩) (by dsimp only; omega) (.bool true))
                  have B4 := Lib.hid (B3.out.setCell (p := ⟨gm, p, none⟩) (show w.heap.size ≤ gm by omega) (.bool true))
                  have HQ4 := Lib.hid (HQ3.out.grown (g := gm) (w' := (w3.setCell ⟨gm, p, none⟩ (.bool true))) (only_set (only_refl w3 gm) p (.bool true)) (by omega))
                  have hbw4 : base ≤ (w3.setCell ⟨gm, p, none⟩ (.bool true)).heap.size := by simpa [World.setCell] using hbw3
                  generalize w3.setCell ⟨gm, p, none⟩ (.bool true) = w4 at Kc4 Km4 Kr4 Kp4 B4 HQ4 hbw4 ⊢
                  clear Kc3 Km3 Kr3 Kp3 B3 HQ3
                  have HML := HM2.out
                  have hds := nf_le ds
                  have hnb := nf_le bs
                  rw [HB.out] at hnb
                  have hMO := HM.out
                  simp only [List.length_cons] at hMO
                  have hqa := (HQ4.out.below ((Below.refl w4.heap.size w4).alloc (Nat.le_refl _) (.cells #[.int .i64 (p : Int)] 2)))
                  have HQA := Lib.hid hqa; clear hqa
                  have ba : Below w4.heap.size w4 (w4.alloc (.cells #[.int .i64 (p : Int)] 2)) := (Below.refl _ _).alloc (Nat.le_refl _) _
                  have ka := Blk.new w4 2 #[.int .i64 (p : Int)]
                  go_wp2_with (at_builtin; refine wpList_append_que _ rfl (.tmp 81) (.tmp 83) _ rfl 2 i0 _ _ Tryz.underlying125 hi0 hz0 hz1 hz2 rfl base _ (qC qs) rfl HQA.out ⟨w4.heap.size, 0, none⟩ 1 (.int .i64 (p : Int)) rfl (by rw [ka.cell]; rfl) rfl (by rw [qC_len]; simp only [maxLen]; omega) (by rw [qC_len]; omega) (Nat.le_trans hbw4 ba.size) ?_; intro v9 w9 hq9 b9)
                  have b := (ba.mono hbw4).trans b9
                  have hbw9 : base ≤ w9.heap.size := Nat.le_trans hbw4 b.size
                  rw [qC_app] at hq9
                  have HQ9 := Lib.hid hq9
                  have B9 := Lib.hid (B4.out.trans (b.mono (by omega)))
                  have Km9 := Lib.hid (Km4.out.below b (by omega))
                  have Kr9 := Lib.hid (Kr4.out.below b (by omega))
                  have Kp9 := Lib.hid (Kp4.out.below b (by omega))
                  have Kc9 := Lib.hid (Kc4.out.below b (by omega))
                  clear hq9 b b9 ba ka HQA HQ4 B4 Km4 Kr4 Kp4 Kc4
                  have HN3 := Lib.hid (show ∀ r ∈ qs ++ [p], r < n from fun r hr => by
                    rw [List.mem_append, List.mem_singleton] at hr
                    rcases hr with hr | hr
                    · exact HN2.out r hr
                    · rw [hr]; exact hpn)
                  have HM3 := Lib.hid (show 2 * nf (ds.set p true) + (qs ++ [p]).length ≤ 2 * nf bs + (qt.length + 1) by
                    have h1 := nf_set ds p (by rw [HD.out]; exact hpn) hw
                    simp only [List.length_append, List.length_cons, List.length_nil]
                    omega)
                  have HT3 := Lib.hid (show ∃ t, qs ++ [p] = q :: t by
                    obtain ⟨t, ht⟩ := HT.out
                    exact ⟨t ++ [p], by rw [ht]; rfl⟩)
                  have HD3 := Lib.hid (show (ds.set p true).length = n by rw [List.length_set]; exact HD.out)
                  clear HML hds hnb hMO
                  go_wp2_with fail
                  go_roundw
                  case rel => exact ⟨4, qs ++ [p], ds.set p true, by omega, HD3.out, HN3.out, HM3.out, HT3.out, HQ9.out, hbw9, B9.out, Km9.out, Kr9.out, Kp9.out, Kc9.out, by go_num⟩
                  case measure => simp [intOf]
                · rw [hw] at u0
                  obtain ⟨cm0, cm1, cm2, cm3, cm4⟩ := cells_5 Km3.out
                  obtain ⟨cp0, cp1, cp2, cp3, cp4⟩ := cells_5 Kp3.out
                  go_wp2_with fail
                  go_roundw
                  case rel => exact ⟨4, qs, ds, by omega, HD.out, HN2.out, HM2.out, HT.out, HQ3.out, hbw3, B3.out, Km3.out, Kr3.out, Kp3.out, Kc3.out, by go_num⟩
                  case measure => simp [intOf]
          · obtain rfl : j = 4 := by omega
            obtain ⟨t, rfl⟩ := HT.out
            obtain ⟨b2, off2, cap2, rfl, hle2, hbb2, hbl2, hcm2⟩ := HQ.out.shape
            obtain ⟨hl2, _, _, _, hq2⟩ := HQ.out.pop (q := .int .i64 (q : Int)) (qs := qC t)
            have HT9 := Lib.hid (fun r hr => HN2.out r (List.mem_cons_of_mem _ hr))
            have hcm3 : cap2 ≤ 9223372036854775807 := hcm2
            have HM9 := HM2.out
            have HMO := HM.out
            simp only [List.length_cons] at HM9 HMO
            rw [qC_len] at hle2 hl2 hq2
            simp only [List.length_cons] at hle2
            have hN2 : (qC (q :: t)).length = t.length + 1 := qC_len _
            rw [hN2]
            clear hN2 hl2
            have HMW2 := Lib.hid (nfW_blk Kc1.out HD.out)
            have hsl := fun W => run_tail (P := Tryz.prog) (w := W) 125 2 i0 1 Tryz.underlying125 hi0 hz1 b2 off2 (t.length + 1) cap2 (by omega) hle2 hcm3
            obtain ⟨off3, hoff⟩ : ∃ o, o = (if cap2 = 1 then off2 else off2 + 1) := ⟨_, rfl⟩
            rw [← hoff] at hsl hq2
            have HQ9 := Lib.hid hq2
            clear hoff hq2 HQ
            have HLE := Lib.hid hle2; have HM9 := Lib.hid HM9; have HMO := Lib.hid HMO; clear hle2
            go_wp2_with fail
            go_roundw
            case rel => exact ⟨t, ds, HD.out, HT9.out, (show 2 * nf ds + t.length ≤ 2 * n + 1 by have := HM9.out; have := HMO.out; omega), (show Que wr base _ (qC t) by simpa using HQ9.out), hbw1, B1.out, Km1.out, Kr1.out, Kp1.out, Kc1.out⟩
            case measure =>
              rw [HMW2.out, HMW.out]
              have := HM9.out
              have := HNN.out
              have := HN1.out
              simp only [lenN]
              omega

end Go.Proofs.YtaaioengebaebaaGreatDoor
namespace Go.Proofs.YtaaioengebaebaaGreatDoor
open Go.ChangeShapes Go.WideShapes Go.ChangeAt Go.RowKit Go.Sort

set_option maxRecDepth 100000 in
set_option maxHeartbeats 4000000 in
theorem pieceAt_any (x y W H : Int) (A : Option Addr) (c n : Nat) (cs : List Bool) (hcs : cs.length = n) (hm : maskB x y W H n = true) (a : Nat) (ha : a < n) (hset : (bC cs)[a]? = some (.bool true)) (w : World) (hr : Reads w w.heap.size 1 A n (bC cs)) :
    Calls Tryz.prog 38 #[maskV x y W H A n c, .agg #[.int .i64 (pX x W a), .int .i64 (pY y W a)]] w fun e w' => (∃ gm : Nat, e = .returned (.tuple #[.agg #[.int .i64 x, .int .i64 y, .int .i64 W, .int .i64 H, .slice (some ⟨gm, 0, none⟩) n n], .int .i64 0])) ∧ Below w.heap.size w w' := by
  obtain ⟨hx, hx', hy, hy', h1, h1', hH, hH', hn6, hnW, hxW, hyH⟩ := mask_bd hm
  have hp := (cell_in hm ha).1
  have hX := cellX_at hm ha
  have CM := Lib.hid (implMask x y W H A n c (by omega))
  have CPt := Lib.hid (implPt (pX x W a) (pY y W a))
  rw [hm] at CM
  rw [hp] at CPt
  simp only [ptB, inB, Bool.and_eq_true, decide_eq_true_eq] at hp
  have CL := Lib.hid (fun W' => cell_any x y W H (pX x W a) (pY y W a) A n c ⟨hx, hx'⟩ ⟨hy, hy'⟩ ⟨h1, h1'⟩ ⟨hH, hH'⟩ (by omega) (by omega) W')
  rw [hX] at CL
  have CE := Lib.hid (fun W' (hb : Below w.heap.size w W') => piece_any x y W H A c n cs hcs hm a ha W' ((hr.below hb).more hb.size))
  have HR := Lib.hid (fun W' (hb : Below w.heap.size w W') => (hr.below hb).more hb.size)
  have HS := Lib.hid hset
  clear hr hm hx hx' hy hy' h1 h1' hH hH' hnW hxW hyH hcs hp hX hset
  generalize pX x W a = px at CPt CL ⊢
  generalize pY y W a = py at CPt CL ⊢
  have KN := Lib.hid (blks_three w 40 32 40 #[.int .i64 x, .int .i64 y, .int .i64 W, .int .i64 H, .slice A n c] #[.int .i64 px, .int .i64 py] #[.int .i64 0, .int .i64 0, .int .i64 0, .int .i64 0, .slice none 0 0])
  have ha0 : (0 : Int) ≤ (a : Int) := by omega
  have ha' : (a : Int) < (n : Int) := by omega
  have hneg : ¬ (a : Int) < 0 := by omega
  unfold maskV at CM CL CE ⊢
  go_enter Tryz.func38, Tryz.ntmps38
  go_wp2_with fail
  generalize hW : ((w.alloc (.cells #[.int .i64 x, .int .i64 y, .int .i64 W, .int .i64 H, .slice A n c] 40)).alloc (.cells #[.int .i64 px, .int .i64 py] 32)).alloc (.cells #[.int .i64 0, .int .i64 0, .int .i64 0, .int .i64 0, .slice none 0 0] 40) = W0
  obtain ⟨km, kp, kr, b, hz0⟩ := KN.out W0 hW.symm
  clear hW
  have B1 := Lib.hid (show Below w.heap.size w W0 from b)
  have Km1 := Lib.hid (km)
  have Kp1 := Lib.hid (kp)
  have Kr1 := Lib.hid (kr)
  clear b
  clear km kp kr hz0
  obtain ⟨cm0, cm1, cm2, cm3, cm4⟩ := cells_5 Km1.out
  refine (CM.out W0).mono ?_
  rintro e w2 ⟨rfl, b⟩
  have B2 := Lib.hid (B1.out.trans (b.mono B1.out.size))
  have Km2 := Lib.hid (Km1.out.below b Km1.out.lt)
  have Kp2 := Lib.hid (Kp1.out.below b Kp1.out.lt)
  have Kr2 := Lib.hid (Kr1.out.below b Kr1.out.lt)
  clear b B1 Km1 Kp1 Kr1
  clear cm0 cm1 cm2 cm3 cm4
  obtain ⟨cp0, cp1⟩ := cells_2 Kp2.out
  go_wp2_with fail
  refine (CPt.out _).mono ?_
  rintro e w3 ⟨rfl, b⟩
  have B3 := Lib.hid (B2.out.trans (b.mono B2.out.size))
  have Km3 := Lib.hid (Km2.out.below b Km2.out.lt)
  have Kp3 := Lib.hid (Kp2.out.below b Kp2.out.lt)
  have Kr3 := Lib.hid (Kr2.out.below b Kr2.out.lt)
  clear b B2 Km2 Kp2 Kr2
  clear cp0 cp1
  obtain ⟨cm0, cm1, cm2, cm3, cm4⟩ := cells_5 Km3.out
  obtain ⟨cp0, cp1⟩ := cells_2 Kp3.out
  go_wp2_with fail
  refine (CL.out _).mono ?_
  rintro e w4 ⟨rfl, b⟩
  have B4 := Lib.hid (B3.out.trans (b.mono B3.out.size))
  have Km4 := Lib.hid (Km3.out.below b Km3.out.lt)
  have Kp4 := Lib.hid (Kp3.out.below b Kp3.out.lt)
  have Kr4 := Lib.hid (Kr3.out.below b Kr3.out.lt)
  clear b B3 Km3 Kp3 Kr3
  clear cm0 cm1 cm2 cm3 cm4 cp0 cp1
  obtain ⟨ab, ao, rfl, hadb, hcell⟩ := (HR.out _ B4.out).2 (by omega)
  have c0 := hcell _ _ HS.out
  clear hcell
  obtain ⟨cm0, cm1, cm2, cm3, cm4⟩ := cells_5 Km4.out
  go_wp2_with fail
  refine (CE.out _ B4.out).mono ?_
  rintro e w5 ⟨⟨gm, rfl⟩, b⟩
  have B5 := Lib.hid (B4.out.trans (b.mono B4.out.size))
  have Km5 := Lib.hid (Km4.out.below b Km4.out.lt)
  have Kp5 := Lib.hid (Kp4.out.below b Kp4.out.lt)
  have Kr5 := Lib.hid (Kr4.out.below b Kr4.out.lt)
  clear b B4 Km4 Kp4 Kr4
  clear c0
  clear cm0 cm1 cm2 cm3 cm4
  obtain ⟨fr0, fr1, fr2, fr3, fr4, fr5, fr6, fr7, fr8, fr9, fr10, fr11, fr12, fr13, fr14⟩ := facts_5 Kr5.out
  go_wp2_with fail
  exact bodyPost_ret (v := .tuple #[.agg #[.int .i64 x, .int .i64 y, .int .i64 W, .int .i64 H, .slice (some ⟨gm, 0, none⟩) n n], .int .i64 0]) (by simp [results, Tryz.results38, go_sem, fr10, fr11, fr12, fr13, fr14]) rfl ⟨⟨gm, rfl⟩, below_5 B5.out (by omega) _ _ _ _ _⟩
end Go.Proofs.YtaaioengebaebaaGreatDoor
