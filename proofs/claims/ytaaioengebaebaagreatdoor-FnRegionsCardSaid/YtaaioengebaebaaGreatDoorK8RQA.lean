/- The law FnRegions returns true for every code: the walk of the law. -/
import Derived.Test.YtaaioengebaebaaGreatDoorRows
import Derived.Test.YtaaioengebaebaaGreatDoorK8GA
import Derived.WalkKit
import Derived.ProofKit
import Derived.OpenShut
import Derived.BigQuiet
import Derived.Outline
import Derived.WalkSpells
import Derived.WalkLawsBesides
import Derived.Deep.DeepCutAuto
import Derived.Test.YtaaioengebaebaaGreatDoorK8GJ
import Derived.Test.YtaaioengebaebaaGreatDoorK8RQ9
import Derived.Test.YtaaioengebaebaaGreatDoorK8RN5
import Derived.Test.YtaaioengebaebaaGreatDoorK8GL
import Derived.Test.YtaaioengebaebaaGreatDoorK8GM
import Derived.Test.YtaaioengebaebaaGreatDoorK8GK
import Derived.Test.YtaaioengebaebaaGreatDoorK8GG
import Derived.Test.YtaaioengebaebaaGreatDoorK8GD
import Derived.Deep.QuietTactic
namespace Go.Proofs.YtaaioengebaebaaGreatDoor
open Go.ChangeShapes Go.WideShapes Go.ChangeAt Go.RowKit Go.Sort

theorem sit_sizes {L : List Sit} (h : ∀ s ∈ L, SmallSt s) : ∀ b ∈ L, b.name.size ≤ 9223372036854775807 := fun b hb => by have := (h b hb).1; omega
theorem rg_ex (xs : List Sit) (ds : List Dsc) (x y W H : Int) (n : Nat) : ∃ a b c d e, rgP xs ds x y W H n = (a, b, c, d, e, codeS xs ds (maskB x y W H n)) := by
  by_cases h : codeS xs ds (maskB x y W H n) = 0
  · exact ⟨x, y, W, H, regB xs ds x y W n, by unfold rgP; rw [if_pos h, h]⟩
  · exact ⟨0, 0, 0, 0, [], by unfold rgP; rw [if_neg h]⟩
theorem comp_ex (xs : List Sit) (ds : List Dsc) (x y W H : Int) (n : Nat) : ∃ a, compP xs ds x y W H n = (a, codeS xs ds (maskB x y W H n)) := by
  by_cases h : codeS xs ds (maskB x y W H n) = 0
  · exact ⟨_, by unfold compP; rw [if_pos h, h]⟩
  · exact ⟨false, by unfold compP; rw [if_neg h]⟩
theorem best_ex (xs : List Sit) (ds : List Dsc) (x y W H : Int) (n : Nat) : ∃ a b, bestP xs ds x y W H n = (a, b, codeS xs ds (maskB x y W H n)) := by
  by_cases h : codeS xs ds (maskB x y W H n) = 0
  · exact ⟨_, _, by unfold bestP; rw [if_pos h, h]⟩
  · exact ⟨0, 0, by unfold bestP; rw [if_neg h]⟩
theorem rg_len {xs : List Sit} {ds : List Dsc} {x y W H : Int} {n : Nat} {a b c d z : Int} {e : List Bool} (h : rgP xs ds x y W H n = (a, b, c, d, e, z)) : e.length ≤ 576 := by
  unfold rgP at h
  split at h
  · next hc =>
    obtain ⟨hm, _⟩ := codeS_mask hc
    obtain ⟨_, _, _, _, _, _, _, _, h9, _⟩ := mask_bd hm
    simp only [Prod.mk.injEq] at h
    rw [← h.2.2.2.2.1, regB_len]
    exact h9
  · simp only [Prod.mk.injEq] at h
    rw [← h.2.2.2.2.1]
    simp
theorem mask_pos {x y W H : Int} {n : Nat} (hm : maskB x y W H n = true) : 0 < n := by
  obtain ⟨_, _, _, _, h1, _, h2, _, _, h3, _⟩ := mask_bd hm
  have : 1 * 1 ≤ W * H := Int.mul_le_mul h1 h2 (by omega) (by omega)
  omega
theorem reg_facts {xs : List Sit} {ds : List Dsc} {x y W H : Int} {n : Nat} {a b c d z p q : Int} {e : List Bool} {cb : Bool} (hz : codeS xs ds (maskB x y W H n) = z) (hR : rgP xs ds x y W H n = (a, b, c, d, e, z)) (hC : compP xs ds x y W H n = (cb, z)) (hB : bestP xs ds x y W H n = (p, q, z)) (h0 : z = 0) :
    maskB a b c d e.length = true ∧ cb = decide (0 < cntM e) ∧ ∃ ct, cntT xs ds p q = (ct, 0) ∧ cb = (ct == (ds.length : Int)) := by
  subst h0
  obtain ⟨hm, hz2⟩ := codeS_mask hz
  have hbc := best_cnt hm hz2 (mask_pos hm)
  rw [hB, hC] at hbc
  unfold rgP at hR
  unfold compP at hC
  rw [if_pos hz] at hR hC
  simp only [Prod.mk.injEq] at hR hC
  obtain ⟨rfl, rfl, rfl, rfl, rfl, _⟩ := hR
  exact ⟨by rw [regB_len]; exact hm, hC.1.symm, _, hbc.1, hbc.2⟩
theorem tail_facts {xs : List Sit} {ds T : List Dsc} {d0 : Dsc} (hM : ds = d0 :: T) {x y W H : Int} {n : Nat} {a b c d z : Int} {e : List Bool} (hz : codeS xs ds (maskB x y W H n) = z) (hR : rgP xs ds x y W H n = (a, b, c, d, e, z)) (h0 : z = 0) :
    ∃ a' b' c' d' e', rgP xs T x y W H n = (a', b', c', d', e', 0) ∧ maskB a' b' c' d' e'.length = true ∧ ¬ cntM e' < cntM e := by
  subst h0
  subst hM
  obtain ⟨hm, hz2⟩ := codeS_mask hz
  have hz3 := codeS_tail hz2
  have hmono := reg_mono xs d0 T x y W n
  unfold rgP at hR
  rw [if_pos hz] at hR
  simp only [Prod.mk.injEq] at hR
  obtain ⟨rfl, rfl, rfl, rfl, rfl, _⟩ := hR
  exact ⟨x, y, W, H, regB xs T x y W n, by unfold rgP; rw [hm, if_pos hz3], by rw [regB_len]; exact hm, by omega⟩
theorem dsC_cons (d : Dsc) (T : List Dsc) (j : Nat) : (dsC (d :: T))[j + 6]? = (dsC T)[j]? := by
  have h : dsC (d :: T) = d.cells ++ dsC T := by simp [dsC]
  have hl : d.cells.length = 6 := by simp [Dsc.cells]
  rw [h, List.getElem?_append_right (by omega), hl]
  simp
theorem has_tail {w : World} {ds T : List Dsc} {d0 : Dsc} (hM : ds = d0 :: T) {ab ao dm : Nat} (h2 : HasDsc w ds (some ⟨ab, ao, none⟩)) (hc : ds.length ≤ dm) : HasDsc w T (some ⟨ab, if dm = 1 then ao else ao + 6, none⟩) := by
  subst hM
  refine ⟨⟨dsC_len _, fun hp => ?_⟩, by have := h2.2.1; simp only [List.length_cons] at this; omega, fun b hb => h2.2.2 b (List.mem_cons_of_mem _ hb)⟩
  simp only [List.length_cons] at hc
  obtain ⟨b', o', e, hadb, hcell⟩ := h2.1.2 (by simp)
  cases e
  rw [if_neg (by omega)]
  refine ⟨ab, ao + 6, rfl, hadb, fun j u hu => ?_⟩
  rw [← dsC_cons d0 T j] at hu
  have := hcell _ _ hu
  rwa [show ao + (j + 6) = ao + 6 + j by omega] at this
theorem specCen_any (x y W H : Int) (A : Option Addr) (c : Nat) (cs : List Bool) (hn : cs.length ≤ 9223372036854775807) (w : World) (hr : Reads w w.heap.size 1 A cs.length (bC cs)) :
    Calls Tryz.prog 34 #[maskV x y W H A cs.length c] w fun e w' => e = .returned (cenVal (cenP x y W H cs)) ∧ Below w.heap.size w w' := by
  cases hm : maskB x y W H cs.length
  · rw [cenP, hm]; exact specCenter_no x y W H A c cs.length hn hm w
  · exact specCenter_yes x y W H A c cs hm w hr
theorem implCen_any (x y W H : Int) (A : Option Addr) (c : Nat) (cs : List Bool) (hn : cs.length ≤ 9223372036854775807) (w : World) (hr : Reads w w.heap.size 1 A cs.length (bC cs)) :
    Calls Tryz.prog 33 #[maskV x y W H A cs.length c] w fun e w' => e = .returned (cenVal (cenP x y W H cs)) ∧ Below w.heap.size w w' := by
  cases hm : maskB x y W H cs.length
  · rw [cenP, hm]; exact implCenter_no x y W H A c cs.length hn hm w
  · exact implCenter_yes x y W H A c cs hm w hr
theorem blkS5 {w : World} {b : Nat} {t : TypeId} {z0 z1 z2 z3 z4 : Value} (h : Blk w b t #[z0, z1, z2, z3, z4]) (v0 v1 v2 v3 v4 : Value) : Blk (((((w.setCell ⟨b, 0, none⟩ v0).setCell ⟨b, 1, none⟩ v1).setCell ⟨b, 2, none⟩ v2).setCell ⟨b, 3, none⟩ v3).setCell ⟨b, 4, none⟩ v4) b t #[v0, v1, v2, v3, v4] := by
  have b1 : Blk (w.setCell ⟨b, 0, none⟩ v0) b t #[v0, z1, z2, z3, z4] := by simpa using h.set_ 0 v0
  have b2 : Blk ((w.setCell ⟨b, 0, none⟩ v0).setCell ⟨b, 1, none⟩ v1) b t #[v0, v1, z2, z3, z4] := by simpa using b1.set_ 1 v1
  have b3 : Blk (((w.setCell ⟨b, 0, none⟩ v0).setCell ⟨b, 1, none⟩ v1).setCell ⟨b, 2, none⟩ v2) b t #[v0, v1, v2, z3, z4] := by simpa using b2.set_ 2 v2
  have b4 : Blk ((((w.setCell ⟨b, 0, none⟩ v0).setCell ⟨b, 1, none⟩ v1).setCell ⟨b, 2, none⟩ v2).setCell ⟨b, 3, none⟩ v3) b t #[v0, v1, v2, v3, z4] := by simpa using b3.set_ 3 v3
  simpa using b4.set_ 4 v4
theorem ownS5 {w : World} {b base n : Nat} {t u : TypeId} {cs : Array Value} {v : Value} {es : List Value} (h : Blk w b t cs) (hu : u ≠ t) (o : w.ownsRow base u 1 v n es) (v0 v1 v2 v3 v4 : Value) : (((((w.setCell ⟨b, 0, none⟩ v0).setCell ⟨b, 1, none⟩ v1).setCell ⟨b, 2, none⟩ v2).setCell ⟨b, 3, none⟩ v3).setCell ⟨b, 4, none⟩ v4).ownsRow base u 1 v n es :=
  own_blks o (fun g es hg => blk_far5 hg (fun e => by subst e; exact hu (blk_tag hg h)) _ _ _ _ _)
theorem infoDz : (Tryz.prog.info? 79).map (fun i => i.size) = some 6 := by kernel_rfl
set_option maxRecDepth 100000 in
theorem big_any (A : Option Addr) (n c : Nat) (hn : n ≤ 9223372036854775807) (w : World) :
    Calls Tryz.prog 30 #[.slice A n c] w fun e w' => e = .returned (.bool (decide ((4096 : Int) < n))) ∧ w = w' := by
  go_enter Tryz.func30, Tryz.ntmps30
  go_wp2
  go_ret
  exact ⟨rfl, rfl⟩
set_option maxRecDepth 100000 in
set_option maxHeartbeats 8000000 in
theorem lawRgs_any (A : Option Addr) (n c : Nat) (w : World) (hn : n ≤ 9223372036854775807) (h : n ≤ 4096 → Code8 w A n) (hdir : Dirs w) :
    Calls Tryz.prog 7 #[.slice A n c] w fun e w' => e = .returned (.bool true) ∧ Below w.heap.size w w' := by
  have HC := Lib.hid h; clear h
  by_cases hb : (4096 : Int) < n
  · have hd : decide ((4096 : Int) < n) = true := by simpa using hb
    have HD := Lib.hid hd; clear hd hb
    go_enter Tryz.func7, Tryz.ntmps7
    go_wp2_with fail
    refine (big_any A n c hn w).mono ?_; rw [HD.out]; rintro e w' ⟨rfl, rfl⟩
    go_wp2_with fail
    go_ret
    exact ⟨rfl, Below.refl _ _⟩
  · have hd : decide ((4096 : Int) < n) = false := by simpa using hb
    have HD := Lib.hid hd; clear hd
    have hc := HC.out (by omega)
    have Cd0 := Lib.hid hc; clear hc hb
    have B0 := Lib.hid (Below.refl w.heap.size w)
    go_enter Tryz.func7, Tryz.ntmps7
    go_wp2_with fail
    refine (big_any A n c hn w).mono ?_; rw [HD.out]; rintro e w' ⟨rfl, rfl⟩
    have Dr0 := Lib.hid hdir; clear hdir
    have mixed : Tryz.prog.follows Departure.mixedOrders = true := by kernel_rfl
    go_wp2_with fail
    refine (drawReg_any A n c _ Cd0.out).mono ?_
    rintro e w1 ⟨L, M, x, y, W, H, K, Bq, Bm, Bk, dq, dm, dk, rfl, ownL, ownM, ownK, HL, hl, HM, hm, hk, b⟩
    have B1 := Lib.hid (B0.out.trans (b.mono B0.out.size))
    have Cd1 := Lib.hid (Cd0.out.below b)
    have Dr1 := Lib.hid (Dr0.out.below b)
    have OL1 := Lib.hid (ownL)
    have OM1 := Lib.hid (ownM)
    have OK1 := Lib.hid (ownK)
    clear b B0 Cd0 Dr0
    have HDM := Lib.hid (show M.length ≤ dm by obtain ⟨_, _, e, h⟩ := own_shape ownM; injection e with _ _ e; omega)
    clear ownL ownM ownK
    have NL := Lib.hid (sit_sizes HL); have NM := Lib.hid HM
    have nL : L.length ≤ 9223372036854775807 := by omega
    have nM : M.length ≤ 9223372036854775807 := by omega
    have nK : K.length ≤ 9223372036854775807 := by omega
    clear HL HM
    obtain ⟨zc, hzc⟩ : ∃ z, codeS L M (maskB x y W H K.length) = z := ⟨_, rfl⟩
    obtain ⟨rx, ry, rW, rH, rl, hR⟩ := rg_ex L M x y W H K.length
    obtain ⟨cb, hC⟩ := comp_ex L M x y W H K.length
    obtain ⟨bx, bY, hB⟩ := best_ex L M x y W H K.length
    obtain ⟨na, nc, hN⟩ : ∃ a b, narP L M x y W H K.length = (a, b) := ⟨_, _, rfl⟩
    rw [hzc] at hR hC hB
    have hrl := rg_len hR
    have HF := Lib.hid (reg_facts hzc hR hC hB)
    have HTF := Lib.hid (fun (T : List Dsc) (d0 : Dsc) (hM : M = d0 :: T) => tail_facts hM hzc hR)
    have IR := Lib.hid (fun W' (h1 : HasSit W' L Bq) (h2 : HasDsc W' M Bm) (h3 : Dirs W') => (show Calls Tryz.prog 25 #[.slice Bq L.length dq, .slice Bm M.length dm, .agg #[.int .i64 x, .int .i64 y, .int .i64 W, .int .i64 H, .slice Bk K.length dk]] W' (fun e w' => ∃ v, e = .returned (.tuple #[.agg #[.int .i64 rx, .int .i64 ry, .int .i64 rW, .int .i64 rH, v], .int .i64 zc]) ∧ w'.ownsRow W'.heap.size 4 1 v rl.length (bC rl) ∧ Below W'.heap.size W' w') from by have := implRegOf_any L M x y W H Bq Bm Bk dq dm K.length dk nK W' h1 h2 h3; rw [hR] at this; exact this))
    have SR := Lib.hid (fun W' (h1 : HasSit W' L Bq) (h2 : HasDsc W' M Bm) => (show Calls Tryz.prog 24 #[.slice Bq L.length dq, .slice Bm M.length dm, .agg #[.int .i64 x, .int .i64 y, .int .i64 W, .int .i64 H, .slice Bk K.length dk]] W' (fun e w' => ∃ v, e = .returned (.tuple #[.agg #[.int .i64 rx, .int .i64 ry, .int .i64 rW, .int .i64 rH, v], .int .i64 zc]) ∧ w'.ownsRow W'.heap.size 4 1 v rl.length (bC rl) ∧ Below W'.heap.size W' w') from by have := specRegOf_any L M x y W H Bq Bm Bk dq dm K.length dk nK W' h1 h2; rw [hR] at this; exact this))
    have IC := Lib.hid (fun W' (h1 : HasSit W' L Bq) (h2 : HasDsc W' M Bm) (h3 : Dirs W') => (show Calls Tryz.prog 21 #[.slice Bq L.length dq, .slice Bm M.length dm, .agg #[.int .i64 x, .int .i64 y, .int .i64 W, .int .i64 H, .slice Bk K.length dk]] W' (fun e w' => e = .returned (.tuple #[.bool cb, .int .i64 zc]) ∧ Below W'.heap.size W' w') from by have := implCompat_any L M x y W H Bq Bm Bk dq dm K.length dk nK W' h1 h2 h3; rw [hC] at this; exact this))
    have SC := Lib.hid (fun W' (h1 : HasSit W' L Bq) (h2 : HasDsc W' M Bm) => (show Calls Tryz.prog 20 #[.slice Bq L.length dq, .slice Bm M.length dm, .agg #[.int .i64 x, .int .i64 y, .int .i64 W, .int .i64 H, .slice Bk K.length dk]] W' (fun e w' => e = .returned (.tuple #[.bool cb, .int .i64 zc]) ∧ Below W'.heap.size W' w') from by have := specCompat_any L M x y W H Bq Bm Bk dq dm K.length dk nK W' h1 h2; rw [hC] at this; exact this))
    have IB := Lib.hid (fun W' (h1 : HasSit W' L Bq) (h2 : HasDsc W' M Bm) (h3 : Dirs W') => (show Calls Tryz.prog 15 #[.slice Bq L.length dq, .slice Bm M.length dm, .agg #[.int .i64 x, .int .i64 y, .int .i64 W, .int .i64 H, .slice Bk K.length dk]] W' (fun e w' => e = .returned (.tuple #[.agg #[.int .i64 bx, .int .i64 bY], .int .i64 zc]) ∧ Below W'.heap.size W' w') from by have := implBest_any L M x y W H Bq Bm Bk dq dm K.length dk nK W' h1 h2 h3; rw [hB] at this; exact this))
    have SB := Lib.hid (fun W' (h1 : HasSit W' L Bq) (h2 : HasDsc W' M Bm) => (show Calls Tryz.prog 11 #[.slice Bq L.length dq, .slice Bm M.length dm, .agg #[.int .i64 x, .int .i64 y, .int .i64 W, .int .i64 H, .slice Bk K.length dk]] W' (fun e w' => e = .returned (.tuple #[.agg #[.int .i64 bx, .int .i64 bY], .int .i64 zc]) ∧ Below W'.heap.size W' w') from by have := specBest_any L M x y W H Bq Bm Bk dq dm K.length dk nK W' h1 h2; rw [hB] at this; exact this))
    have IN := Lib.hid (fun W' (h1 : HasSit W' L Bq) (h2 : HasDsc W' M Bm) (h3 : Dirs W') => (show Calls Tryz.prog 23 #[.slice Bq L.length dq, .slice Bm M.length dm, .agg #[.int .i64 x, .int .i64 y, .int .i64 W, .int .i64 H, .slice Bk K.length dk]] W' (fun e w' => e = .returned (.tuple #[.int .i64 na, .int .i64 nc]) ∧ Below W'.heap.size W' w') from by have := implNarr_any L M x y W H Bq Bm Bk dq dm K.length dk nK W' h1 h2 HDM.out h3; rw [hN] at this; exact this))
    have SN := Lib.hid (fun W' (h1 : HasSit W' L Bq) (h2 : HasDsc W' M Bm) => (show Calls Tryz.prog 22 #[.slice Bq L.length dq, .slice Bm M.length dm, .agg #[.int .i64 x, .int .i64 y, .int .i64 W, .int .i64 H, .slice Bk K.length dk]] W' (fun e w' => e = .returned (.tuple #[.int .i64 na, .int .i64 nc]) ∧ Below W'.heap.size W' w') from by have := specNarr_any L M x y W H Bq Bm Bk dq dm K.length dk nK W' h1 h2 HDM.out; rw [hN] at this; exact this))
    have HRT := Lib.hid hR
    clear hzc hR hC hB hN HRT
    go_upto_region 4 with (fail)
    have b : Below w1.heap.size w1 (w1.alloc (.cells #[.int .i64 x, .int .i64 y, .int .i64 W, .int .i64 H, .slice Bk K.length dk] 40)) := (Below.refl _ _).alloc (Nat.le_refl _) _
    have nk := Blk.new w1 40 #[.int .i64 x, .int .i64 y, .int .i64 W, .int .i64 H, .slice Bk K.length dk]
    generalize w1.alloc (.cells #[.int .i64 x, .int .i64 y, .int .i64 W, .int .i64 H, .slice Bk K.length dk] 40) = w2 at b nk ⊢
    have nk := Lib.hid nk
    have B2 := Lib.hid (B1.out.trans (b.mono B1.out.size))
    have Cd2 := Lib.hid (Cd1.out.below b)
    have Dr2 := Lib.hid (Dr1.out.below b)
    have OL2 := Lib.hid (own_below OL1.out b)
    have OM2 := Lib.hid (own_below OM1.out b)
    have OK2 := Lib.hid (own_below OK1.out b)
    have BM2 := Lib.hid (nk.out)
    clear b B1 Cd1 Dr1 OL1 OM1 OK1
    clear nk
    obtain ⟨xBM0, xBM1, xBM2, xBM3, xBM4⟩ := cells_5 BM2.out
    go_wp2_with fail
    refine (IR.out _ ⟨Reads.of_own OL2.out, nL, NL.out⟩ ⟨Reads.of_own OM2.out, nM, NM.out⟩ Dr2.out).mono ?_
    rintro e w3 ⟨v, rfl, ownr, b⟩
    obtain ⟨Ar, cr, rfl, _⟩ := own_shape ownr
    clear xBM0 xBM1 xBM2 xBM3 xBM4 IR
    have B3 := Lib.hid (B2.out.trans (b.mono B2.out.size))
    have Cd3 := Lib.hid (Cd2.out.below b)
    have Dr3 := Lib.hid (Dr2.out.below b)
    have OL3 := Lib.hid (own_below OL2.out b)
    have OM3 := Lib.hid (own_below OM2.out b)
    have OK3 := Lib.hid (own_below OK2.out b)
    have BM3 := Lib.hid (BM2.out.below b BM2.out.lt)
    have OR3 := Lib.hid (ownr)
    clear b B2 Cd2 Dr2 OL2 OM2 OK2 BM2
    clear ownr
    go_upto_region 5 with (fail)
    have b : Below w3.heap.size w3 (w3.alloc (.cells #[.int .i64 rx, .int .i64 ry, .int .i64 rW, .int .i64 rH, .slice Ar rl.length cr] 40)) := (Below.refl _ _).alloc (Nat.le_refl _) _
    have nk := Blk.new w3 40 #[.int .i64 rx, .int .i64 ry, .int .i64 rW, .int .i64 rH, .slice Ar rl.length cr]
    generalize w3.alloc (.cells #[.int .i64 rx, .int .i64 ry, .int .i64 rW, .int .i64 rH, .slice Ar rl.length cr] 40) = w4 at b nk ⊢
    have nk := Lib.hid nk
    have B4 := Lib.hid (B3.out.trans (b.mono B3.out.size))
    have Cd4 := Lib.hid (Cd3.out.below b)
    have Dr4 := Lib.hid (Dr3.out.below b)
    have OL4 := Lib.hid (own_below OL3.out b)
    have OM4 := Lib.hid (own_below OM3.out b)
    have OK4 := Lib.hid (own_below OK3.out b)
    have BM4 := Lib.hid (BM3.out.below b BM3.out.lt)
    have OR4 := Lib.hid (own_below OR3.out b)
    have BR4 := Lib.hid (nk.out)
    clear b B3 Cd3 Dr3 OL3 OM3 OK3 BM3 OR3
    clear nk
    obtain ⟨xBM0, xBM1, xBM2, xBM3, xBM4⟩ := cells_5 BM4.out
    go_wp2_with fail
    refine (SR.out _ ⟨Reads.of_own OL4.out, nL, NL.out⟩ ⟨Reads.of_own OM4.out, nM, NM.out⟩).mono ?_
    rintro e w5 ⟨v, rfl, ownr, b⟩
    obtain ⟨As, cs, rfl, _⟩ := own_shape ownr
    clear xBM0 xBM1 xBM2 xBM3 xBM4 SR
    have B5 := Lib.hid (B4.out.trans (b.mono B4.out.size))
    have Cd5 := Lib.hid (Cd4.out.below b)
    have Dr5 := Lib.hid (Dr4.out.below b)
    have OL5 := Lib.hid (own_below OL4.out b)
    have OM5 := Lib.hid (own_below OM4.out b)
    have OK5 := Lib.hid (own_below OK4.out b)
    have BM5 := Lib.hid (BM4.out.below b BM4.out.lt)
    have OR5 := Lib.hid (own_below OR4.out b)
    have BR5 := Lib.hid (BR4.out.below b BR4.out.lt)
    have OS5 := Lib.hid (ownr)
    clear b B4 Cd4 Dr4 OL4 OM4 OK4 BM4 OR4 BR4
    clear ownr
    go_upto_region 6 with (fail)
    have b : Below w5.heap.size w5 (w5.alloc (.cells #[.int .i64 rx, .int .i64 ry, .int .i64 rW, .int .i64 rH, .slice As rl.length cs] 40)) := (Below.refl _ _).alloc (Nat.le_refl _) _
    have nk := Blk.new w5 40 #[.int .i64 rx, .int .i64 ry, .int .i64 rW, .int .i64 rH, .slice As rl.length cs]
    generalize w5.alloc (.cells #[.int .i64 rx, .int .i64 ry, .int .i64 rW, .int .i64 rH, .slice As rl.length cs] 40) = w6 at b nk ⊢
    have nk := Lib.hid nk
    have B6 := Lib.hid (B5.out.trans (b.mono B5.out.size))
    have Cd6 := Lib.hid (Cd5.out.below b)
    have Dr6 := Lib.hid (Dr5.out.below b)
    have OL6 := Lib.hid (own_below OL5.out b)
    have OM6 := Lib.hid (own_below OM5.out b)
    have OK6 := Lib.hid (own_below OK5.out b)
    have BM6 := Lib.hid (BM5.out.below b BM5.out.lt)
    have OR6 := Lib.hid (own_below OR5.out b)
    have BR6 := Lib.hid (BR5.out.below b BR5.out.lt)
    have OS6 := Lib.hid (own_below OS5.out b)
    have BS6 := Lib.hid (nk.out)
    clear b B5 Cd5 Dr5 OL5 OM5 OK5 BM5 OR5 BR5 OS5
    clear nk
    obtain ⟨xBM0, xBM1, xBM2, xBM3, xBM4⟩ := cells_5 BM6.out
    go_wp2_with fail
    refine (IC.out _ ⟨Reads.of_own OL6.out, nL, NL.out⟩ ⟨Reads.of_own OM6.out, nM, NM.out⟩ Dr6.out).mono ?_
    rintro e w7 ⟨rfl, b⟩
    clear xBM0 xBM1 xBM2 xBM3 xBM4 IC
    have B7 := Lib.hid (B6.out.trans (b.mono B6.out.size))
    have Cd7 := Lib.hid (Cd6.out.below b)
    have Dr7 := Lib.hid (Dr6.out.below b)
    have OL7 := Lib.hid (own_below OL6.out b)
    have OM7 := Lib.hid (own_below OM6.out b)
    have OK7 := Lib.hid (own_below OK6.out b)
    have BM7 := Lib.hid (BM6.out.below b BM6.out.lt)
    have OR7 := Lib.hid (own_below OR6.out b)
    have BR7 := Lib.hid (BR6.out.below b BR6.out.lt)
    have OS7 := Lib.hid (own_below OS6.out b)
    have BS7 := Lib.hid (BS6.out.below b BS6.out.lt)
    clear b B6 Cd6 Dr6 OL6 OM6 OK6 BM6 OR6 BR6 OS6 BS6
    obtain ⟨xBM0, xBM1, xBM2, xBM3, xBM4⟩ := cells_5 BM7.out
    go_wp2_with fail
    refine (SC.out _ ⟨Reads.of_own OL7.out, nL, NL.out⟩ ⟨Reads.of_own OM7.out, nM, NM.out⟩).mono ?_
    rintro e w8 ⟨rfl, b⟩
    clear xBM0 xBM1 xBM2 xBM3 xBM4 SC
    have B8 := Lib.hid (B7.out.trans (b.mono B7.out.size))
    have Cd8 := Lib.hid (Cd7.out.below b)
    have Dr8 := Lib.hid (Dr7.out.below b)
    have OL8 := Lib.hid (own_below OL7.out b)
    have OM8 := Lib.hid (own_below OM7.out b)
    have OK8 := Lib.hid (own_below OK7.out b)
    have BM8 := Lib.hid (BM7.out.below b BM7.out.lt)
    have OR8 := Lib.hid (own_below OR7.out b)
    have BR8 := Lib.hid (BR7.out.below b BR7.out.lt)
    have OS8 := Lib.hid (own_below OS7.out b)
    have BS8 := Lib.hid (BS7.out.below b BS7.out.lt)
    clear b B7 Cd7 Dr7 OL7 OM7 OK7 BM7 OR7 BR7 OS7 BS7
    obtain ⟨xBM0, xBM1, xBM2, xBM3, xBM4⟩ := cells_5 BM8.out
    go_wp2_with fail
    refine (IB.out _ ⟨Reads.of_own OL8.out, nL, NL.out⟩ ⟨Reads.of_own OM8.out, nM, NM.out⟩ Dr8.out).mono ?_
    rintro e w9 ⟨rfl, b⟩
    clear xBM0 xBM1 xBM2 xBM3 xBM4 IB
    have B9 := Lib.hid (B8.out.trans (b.mono B8.out.size))
    have Cd9 := Lib.hid (Cd8.out.below b)
    have Dr9 := Lib.hid (Dr8.out.below b)
    have OL9 := Lib.hid (own_below OL8.out b)
    have OM9 := Lib.hid (own_below OM8.out b)
    have OK9 := Lib.hid (own_below OK8.out b)
    have BM9 := Lib.hid (BM8.out.below b BM8.out.lt)
    have OR9 := Lib.hid (own_below OR8.out b)
    have BR9 := Lib.hid (BR8.out.below b BR8.out.lt)
    have OS9 := Lib.hid (own_below OS8.out b)
    have BS9 := Lib.hid (BS8.out.below b BS8.out.lt)
    clear b B8 Cd8 Dr8 OL8 OM8 OK8 BM8 OR8 BR8 OS8 BS8
    go_upto_region 9 with (fail)
    have b : Below w9.heap.size w9 (w9.alloc (.cells #[.int .i64 bx, .int .i64 bY] 32)) := (Below.refl _ _).alloc (Nat.le_refl _) _
    have nk := Blk.new w9 32 #[.int .i64 bx, .int .i64 bY]
    generalize w9.alloc (.cells #[.int .i64 bx, .int .i64 bY] 32) = w10 at b nk ⊢
    have nk := Lib.hid nk
    have B10 := Lib.hid (B9.out.trans (b.mono B9.out.size))
    have Cd10 := Lib.hid (Cd9.out.below b)
    have Dr10 := Lib.hid (Dr9.out.below b)
    have OL10 := Lib.hid (own_below OL9.out b)
    have OM10 := Lib.hid (own_below OM9.out b)
    have OK10 := Lib.hid (own_below OK9.out b)
    have BM10 := Lib.hid (BM9.out.below b BM9.out.lt)
    have OR10 := Lib.hid (own_below OR9.out b)
    have BR10 := Lib.hid (BR9.out.below b BR9.out.lt)
    have OS10 := Lib.hid (own_below OS9.out b)
    have BS10 := Lib.hid (BS9.out.below b BS9.out.lt)
    have BB10 := Lib.hid (nk.out)
    clear b B9 Cd9 Dr9 OL9 OM9 OK9 BM9 OR9 BR9 OS9 BS9
    clear nk
    obtain ⟨xBM0, xBM1, xBM2, xBM3, xBM4⟩ := cells_5 BM10.out
    go_wp2_with fail
    refine (SB.out _ ⟨Reads.of_own OL10.out, nL, NL.out⟩ ⟨Reads.of_own OM10.out, nM, NM.out⟩).mono ?_
    rintro e w11 ⟨rfl, b⟩
    clear xBM0 xBM1 xBM2 xBM3 xBM4 SB
    have B11 := Lib.hid (B10.out.trans (b.mono B10.out.size))
    have Cd11 := Lib.hid (Cd10.out.below b)
    have Dr11 := Lib.hid (Dr10.out.below b)
    have OL11 := Lib.hid (own_below OL10.out b)
    have OM11 := Lib.hid (own_below OM10.out b)
    have OK11 := Lib.hid (own_below OK10.out b)
    have BM11 := Lib.hid (BM10.out.below b BM10.out.lt)
    have OR11 := Lib.hid (own_below OR10.out b)
    have BR11 := Lib.hid (BR10.out.below b BR10.out.lt)
    have OS11 := Lib.hid (own_below OS10.out b)
    have BS11 := Lib.hid (BS10.out.below b BS10.out.lt)
    have BB11 := Lib.hid (BB10.out.below b BB10.out.lt)
    clear b B10 Cd10 Dr10 OL10 OM10 OK10 BM10 OR10 BR10 OS10 BS10 BB10
    go_upto_region 10 with (fail)
    have b : Below w11.heap.size w11 (w11.alloc (.cells #[.int .i64 bx, .int .i64 bY] 32)) := (Below.refl _ _).alloc (Nat.le_refl _) _
    have nk := Blk.new w11 32 #[.int .i64 bx, .int .i64 bY]
    generalize w11.alloc (.cells #[.int .i64 bx, .int .i64 bY] 32) = w12 at b nk ⊢
    have nk := Lib.hid nk
    have B12 := Lib.hid (B11.out.trans (b.mono B11.out.size))
    have Cd12 := Lib.hid (Cd11.out.below b)
    have Dr12 := Lib.hid (Dr11.out.below b)
    have OL12 := Lib.hid (own_below OL11.out b)
    have OM12 := Lib.hid (own_below OM11.out b)
    have OK12 := Lib.hid (own_below OK11.out b)
    have BM12 := Lib.hid (BM11.out.below b BM11.out.lt)
    have OR12 := Lib.hid (own_below OR11.out b)
    have BR12 := Lib.hid (BR11.out.below b BR11.out.lt)
    have OS12 := Lib.hid (own_below OS11.out b)
    have BS12 := Lib.hid (BS11.out.below b BS11.out.lt)
    have BB12 := Lib.hid (BB11.out.below b BB11.out.lt)
    have BC12 := Lib.hid (nk.out)
    clear b B11 Cd11 Dr11 OL11 OM11 OK11 BM11 OR11 BR11 OS11 BS11 BB11
    clear nk
    obtain ⟨xBM0, xBM1, xBM2, xBM3, xBM4⟩ := cells_5 BM12.out
    go_wp2_with fail
    refine (IN.out _ ⟨Reads.of_own OL12.out, nL, NL.out⟩ ⟨Reads.of_own OM12.out, nM, NM.out⟩ Dr12.out).mono ?_
    rintro e w13 ⟨rfl, b⟩
    clear xBM0 xBM1 xBM2 xBM3 xBM4 IN
    have B13 := Lib.hid (B12.out.trans (b.mono B12.out.size))
    have Cd13 := Lib.hid (Cd12.out.below b)
    have Dr13 := Lib.hid (Dr12.out.below b)
    have OL13 := Lib.hid (own_below OL12.out b)
    have OM13 := Lib.hid (own_below OM12.out b)
    have OK13 := Lib.hid (own_below OK12.out b)
    have BM13 := Lib.hid (BM12.out.below b BM12.out.lt)
    have OR13 := Lib.hid (own_below OR12.out b)
    have BR13 := Lib.hid (BR12.out.below b BR12.out.lt)
    have OS13 := Lib.hid (own_below OS12.out b)
    have BS13 := Lib.hid (BS12.out.below b BS12.out.lt)
    have BB13 := Lib.hid (BB12.out.below b BB12.out.lt)
    have BC13 := Lib.hid (BC12.out.below b BC12.out.lt)
    clear b B12 Cd12 Dr12 OL12 OM12 OK12 BM12 OR12 BR12 OS12 BS12 BB12 BC12
    obtain ⟨xBM0, xBM1, xBM2, xBM3, xBM4⟩ := cells_5 BM13.out
    go_wp2_with fail
    refine (SN.out _ ⟨Reads.of_own OL13.out, nL, NL.out⟩ ⟨Reads.of_own OM13.out, nM, NM.out⟩).mono ?_
    rintro e w14 ⟨rfl, b⟩
    clear xBM0 xBM1 xBM2 xBM3 xBM4 SN
    have B14 := Lib.hid (B13.out.trans (b.mono B13.out.size))
    have Cd14 := Lib.hid (Cd13.out.below b)
    have Dr14 := Lib.hid (Dr13.out.below b)
    have OL14 := Lib.hid (own_below OL13.out b)
    have OM14 := Lib.hid (own_below OM13.out b)
    have OK14 := Lib.hid (own_below OK13.out b)
    have BM14 := Lib.hid (BM13.out.below b BM13.out.lt)
    have OR14 := Lib.hid (own_below OR13.out b)
    have BR14 := Lib.hid (BR13.out.below b BR13.out.lt)
    have OS14 := Lib.hid (own_below OS13.out b)
    have BS14 := Lib.hid (BS13.out.below b BS13.out.lt)
    have BB14 := Lib.hid (BB13.out.below b BB13.out.lt)
    have BC14 := Lib.hid (BC13.out.below b BC13.out.lt)
    clear b B13 Cd13 Dr13 OL13 OM13 OK13 BM13 OR13 BR13 OS13 BS13 BB13 BC13
    go_wp2_with fail
    refine (drawCen_any A n c _ Cd14.out).mono ?_
    rintro e w15 ⟨cx, cy, cW, cH, Lc, Ac, dc, rfl, ownc, hlc, b⟩
    have B15 := Lib.hid (B14.out.trans (b.mono B14.out.size))
    have Cd15 := Lib.hid (Cd14.out.below b)
    have Dr15 := Lib.hid (Dr14.out.below b)
    have OL15 := Lib.hid (own_below OL14.out b)
    have OM15 := Lib.hid (own_below OM14.out b)
    have OK15 := Lib.hid (own_below OK14.out b)
    have BM15 := Lib.hid (BM14.out.below b BM14.out.lt)
    have OR15 := Lib.hid (own_below OR14.out b)
    have BR15 := Lib.hid (BR14.out.below b BR14.out.lt)
    have OS15 := Lib.hid (own_below OS14.out b)
    have BS15 := Lib.hid (BS14.out.below b BS14.out.lt)
    have BB15 := Lib.hid (BB14.out.below b BB14.out.lt)
    have BC15 := Lib.hid (BC14.out.below b BC14.out.lt)
    have OC15 := Lib.hid (ownc)
    clear b B14 Cd14 Dr14 OL14 OM14 OK14 BM14 OR14 BR14 OS14 BS14 BB14 BC14
    clear Cd15
    clear ownc
    have nC : Lc.length ≤ 9223372036854775807 := by omega
    obtain ⟨tx, ty, tc, hT⟩ : ∃ a b c, cenP cx cy cW cH Lc = (a, b, c) := ⟨_, _, _, rfl⟩
    have HPA := Lib.hid (show tc = 0 → ∀ W' (h : Reads W' W'.heap.size 1 Ac Lc.length (bC Lc)), Calls Tryz.prog 38 #[.agg #[.int .i64 cx, .int .i64 cy, .int .i64 cW, .int .i64 cH, .slice Ac Lc.length dc], .agg #[.int .i64 tx, .int .i64 ty]] W' (fun e w' => (∃ gp : Nat, e = .returned (.tuple #[.agg #[.int .i64 cx, .int .i64 cy, .int .i64 cW, .int .i64 cH, .slice (some ⟨gp, 0, none⟩) Lc.length Lc.length], .int .i64 0])) ∧ Below W'.heap.size W' w') from by
      intro h0 W' h
      subst h0
      obtain ⟨i, hi, hset, hmc, hp⟩ := cen_cell (x := cx) (y := cy) (W := cW) (H := cH) (cs := Lc) (by rw [hT])
      rw [hT] at hp
      simp only [Prod.mk.injEq] at hp
      rw [hp.1, hp.2.1]
      exact pieceAt_any cx cy cW cH Ac dc Lc.length Lc rfl hmc i hi (by rw [bC_get Lc i hi, hset]) W' h)
    have ICe := Lib.hid (fun W' (h : Reads W' W'.heap.size 1 Ac Lc.length (bC Lc)) => (show Calls Tryz.prog 33 #[.agg #[.int .i64 cx, .int .i64 cy, .int .i64 cW, .int .i64 cH, .slice Ac Lc.length dc]] W' (fun e w' => e = .returned (.tuple #[.agg #[.int .i64 tx, .int .i64 ty], .int .i64 tc]) ∧ Below W'.heap.size W' w') from by have := implCen_any cx cy cW cH Ac dc Lc nC W' h; rw [hT] at this; exact this))
    have SCe := Lib.hid (fun W' (h : Reads W' W'.heap.size 1 Ac Lc.length (bC Lc)) => (show Calls Tryz.prog 34 #[.agg #[.int .i64 cx, .int .i64 cy, .int .i64 cW, .int .i64 cH, .slice Ac Lc.length dc]] W' (fun e w' => e = .returned (.tuple #[.agg #[.int .i64 tx, .int .i64 ty], .int .i64 tc]) ∧ Below W'.heap.size W' w') from by have := specCen_any cx cy cW cH Ac dc Lc nC W' h; rw [hT] at this; exact this))
    clear hT
    go_upto_region 13 with (fail)
    have b : Below w15.heap.size w15 (w15.alloc (.cells #[.int .i64 cx, .int .i64 cy, .int .i64 cW, .int .i64 cH, .slice Ac Lc.length dc] 40)) := (Below.refl _ _).alloc (Nat.le_refl _) _
    have nk := Blk.new w15 40 #[.int .i64 cx, .int .i64 cy, .int .i64 cW, .int .i64 cH, .slice Ac Lc.length dc]
    generalize w15.alloc (.cells #[.int .i64 cx, .int .i64 cy, .int .i64 cW, .int .i64 cH, .slice Ac Lc.length dc] 40) = w16 at b nk ⊢
    have nk := Lib.hid nk
    have B16 := Lib.hid (B15.out.trans (b.mono B15.out.size))
    have Dr16 := Lib.hid (Dr15.out.below b)
    have OL16 := Lib.hid (own_below OL15.out b)
    have OM16 := Lib.hid (own_below OM15.out b)
    have OK16 := Lib.hid (own_below OK15.out b)
    have BM16 := Lib.hid (BM15.out.below b BM15.out.lt)
    have OR16 := Lib.hid (own_below OR15.out b)
    have BR16 := Lib.hid (BR15.out.below b BR15.out.lt)
    have OS16 := Lib.hid (own_below OS15.out b)
    have BS16 := Lib.hid (BS15.out.below b BS15.out.lt)
    have BB16 := Lib.hid (BB15.out.below b BB15.out.lt)
    have BC16 := Lib.hid (BC15.out.below b BC15.out.lt)
    have OC16 := Lib.hid (own_below OC15.out b)
    have BD16 := Lib.hid (nk.out)
    clear b B15 Dr15 OL15 OM15 OK15 BM15 OR15 BR15 OS15 BS15 BB15 BC15 OC15
    clear nk
    obtain ⟨xBD0, xBD1, xBD2, xBD3, xBD4⟩ := cells_5 BD16.out
    go_wp2_with fail
    refine (ICe.out _ (Reads.of_own OC16.out)).mono ?_
    rintro e w17 ⟨rfl, b⟩
    clear xBD0 xBD1 xBD2 xBD3 xBD4 ICe
    have B17 := Lib.hid (B16.out.trans (b.mono B16.out.size))
    have Dr17 := Lib.hid (Dr16.out.below b)
    have OL17 := Lib.hid (own_below OL16.out b)
    have OM17 := Lib.hid (own_below OM16.out b)
    have OK17 := Lib.hid (own_below OK16.out b)
    have BM17 := Lib.hid (BM16.out.below b BM16.out.lt)
    have OR17 := Lib.hid (own_below OR16.out b)
    have BR17 := Lib.hid (BR16.out.below b BR16.out.lt)
    have OS17 := Lib.hid (own_below OS16.out b)
    have BS17 := Lib.hid (BS16.out.below b BS16.out.lt)
    have BB17 := Lib.hid (BB16.out.below b BB16.out.lt)
    have BC17 := Lib.hid (BC16.out.below b BC16.out.lt)
    have OC17 := Lib.hid (own_below OC16.out b)
    have BD17 := Lib.hid (BD16.out.below b BD16.out.lt)
    clear b B16 Dr16 OL16 OM16 OK16 BM16 OR16 BR16 OS16 BS16 BB16 BC16 OC16 BD16
    go_upto_region 14 with (fail)
    have b : Below w17.heap.size w17 (w17.alloc (.cells #[.int .i64 tx, .int .i64 ty] 32)) := (Below.refl _ _).alloc (Nat.le_refl _) _
    have nk := Blk.new w17 32 #[.int .i64 tx, .int .i64 ty]
    generalize w17.alloc (.cells #[.int .i64 tx, .int .i64 ty] 32) = w18 at b nk ⊢
    have nk := Lib.hid nk
    have B18 := Lib.hid (B17.out.trans (b.mono B17.out.size))
    have Dr18 := Lib.hid (Dr17.out.below b)
    have OL18 := Lib.hid (own_below OL17.out b)
    have OM18 := Lib.hid (own_below OM17.out b)
    have OK18 := Lib.hid (own_below OK17.out b)
    have BM18 := Lib.hid (BM17.out.below b BM17.out.lt)
    have OR18 := Lib.hid (own_below OR17.out b)
    have BR18 := Lib.hid (BR17.out.below b BR17.out.lt)
    have OS18 := Lib.hid (own_below OS17.out b)
    have BS18 := Lib.hid (BS17.out.below b BS17.out.lt)
    have BB18 := Lib.hid (BB17.out.below b BB17.out.lt)
    have BC18 := Lib.hid (BC17.out.below b BC17.out.lt)
    have OC18 := Lib.hid (own_below OC17.out b)
    have BD18 := Lib.hid (BD17.out.below b BD17.out.lt)
    have BE18 := Lib.hid (nk.out)
    clear b B17 Dr17 OL17 OM17 OK17 BM17 OR17 BR17 OS17 BS17 BB17 BC17 OC17 BD17
    clear nk
    obtain ⟨xBD0, xBD1, xBD2, xBD3, xBD4⟩ := cells_5 BD18.out
    go_wp2_with fail
    refine (SCe.out _ (Reads.of_own OC18.out)).mono ?_
    rintro e w19 ⟨rfl, b⟩
    clear xBD0 xBD1 xBD2 xBD3 xBD4 SCe
    have B19 := Lib.hid (B18.out.trans (b.mono B18.out.size))
    have Dr19 := Lib.hid (Dr18.out.below b)
    have OL19 := Lib.hid (own_below OL18.out b)
    have OM19 := Lib.hid (own_below OM18.out b)
    have OK19 := Lib.hid (own_below OK18.out b)
    have BM19 := Lib.hid (BM18.out.below b BM18.out.lt)
    have OR19 := Lib.hid (own_below OR18.out b)
    have BR19 := Lib.hid (BR18.out.below b BR18.out.lt)
    have OS19 := Lib.hid (own_below OS18.out b)
    have BS19 := Lib.hid (BS18.out.below b BS18.out.lt)
    have BB19 := Lib.hid (BB18.out.below b BB18.out.lt)
    have BC19 := Lib.hid (BC18.out.below b BC18.out.lt)
    have OC19 := Lib.hid (own_below OC18.out b)
    have BD19 := Lib.hid (BD18.out.below b BD18.out.lt)
    have BE19 := Lib.hid (BE18.out.below b BE18.out.lt)
    clear b B18 Dr18 OL18 OM18 OK18 BM18 OR18 BR18 OS18 BS18 BB18 BC18 OC18 BD18 BE18
    go_upto_region 15 with (fail)
    have b : Below w19.heap.size w19 (w19.alloc (.cells #[.int .i64 tx, .int .i64 ty] 32)) := (Below.refl _ _).alloc (Nat.le_refl _) _
    have nk := Blk.new w19 32 #[.int .i64 tx, .int .i64 ty]
    generalize w19.alloc (.cells #[.int .i64 tx, .int .i64 ty] 32) = w20 at b nk ⊢
    have nk := Lib.hid nk
    have B20 := Lib.hid (B19.out.trans (b.mono B19.out.size))
    have Dr20 := Lib.hid (Dr19.out.below b)
    have OL20 := Lib.hid (own_below OL19.out b)
    have OM20 := Lib.hid (own_below OM19.out b)
    have OK20 := Lib.hid (own_below OK19.out b)
    have BM20 := Lib.hid (BM19.out.below b BM19.out.lt)
    have OR20 := Lib.hid (own_below OR19.out b)
    have BR20 := Lib.hid (BR19.out.below b BR19.out.lt)
    have OS20 := Lib.hid (own_below OS19.out b)
    have BS20 := Lib.hid (BS19.out.below b BS19.out.lt)
    have BB20 := Lib.hid (BB19.out.below b BB19.out.lt)
    have BC20 := Lib.hid (BC19.out.below b BC19.out.lt)
    have OC20 := Lib.hid (own_below OC19.out b)
    have BD20 := Lib.hid (BD19.out.below b BD19.out.lt)
    have BE20 := Lib.hid (BE19.out.below b BE19.out.lt)
    have BF20 := Lib.hid (nk.out)
    clear b B19 Dr19 OL19 OM19 OK19 BM19 OR19 BR19 OS19 BS19 BB19 BC19 OC19 BD19 BE19
    clear nk
    have LK := Lib.hid (fun W' h h' => likeMask_same rx ry rW rH rl Ar As cr cs W' h h' hrl)
    unfold maskV at LK
    obtain ⟨xBR0, xBR1, xBR2, xBR3, xBR4⟩ := cells_5 BR20.out
    obtain ⟨xBS0, xBS1, xBS2, xBS3, xBS4⟩ := cells_5 BS20.out
    go_wp2_with fail
    refine (LK.out _ (Reads.of_own OR20.out) (Reads.of_own OS20.out)).mono ?_
    rintro e w21 ⟨rfl, b⟩
    clear xBR0 xBR1 xBR2 xBR3 xBR4 xBS0 xBS1 xBS2 xBS3 xBS4 LK
    have B21 := Lib.hid (B20.out.trans (b.mono B20.out.size))
    have Dr21 := Lib.hid (Dr20.out.below b)
    have OL21 := Lib.hid (own_below OL20.out b)
    have OM21 := Lib.hid (own_below OM20.out b)
    have OK21 := Lib.hid (own_below OK20.out b)
    have BM21 := Lib.hid (BM20.out.below b BM20.out.lt)
    have OR21 := Lib.hid (own_below OR20.out b)
    have BR21 := Lib.hid (BR20.out.below b BR20.out.lt)
    have OS21 := Lib.hid (own_below OS20.out b)
    have BS21 := Lib.hid (BS20.out.below b BS20.out.lt)
    have BB21 := Lib.hid (BB20.out.below b BB20.out.lt)
    have BC21 := Lib.hid (BC20.out.below b BC20.out.lt)
    have OC21 := Lib.hid (own_below OC20.out b)
    have BD21 := Lib.hid (BD20.out.below b BD20.out.lt)
    have BE21 := Lib.hid (BE20.out.below b BE20.out.lt)
    have BF21 := Lib.hid (BF20.out.below b BF20.out.lt)
    clear b B20 Dr20 OL20 OM20 OK20 BM20 OR20 BR20 OS20 BS20 BB20 BC20 OC20 BD20 BE20 BF20
    obtain ⟨xBB0, xBB1⟩ := cells_2 BB21.out
    obtain ⟨xBC0, xBC1⟩ := cells_2 BC21.out
    obtain ⟨xBE0, xBE1⟩ := cells_2 BE21.out
    obtain ⟨xBF0, xBF1⟩ := cells_2 BF21.out
    go_wp2_with fail
    refine (implAreS_has L Bq dq _ ⟨Reads.of_own OL21.out, nL, NL.out⟩ Dr21.out).mono ?_
    rintro e w22 ⟨rfl, b⟩
    clear xBB0 xBB1 xBC0 xBC1 xBE0 xBE1 xBF0 xBF1
    have B22 := Lib.hid (B21.out.trans (b.mono B21.out.size))
    have Dr22 := Lib.hid (Dr21.out.below b)
    have OL22 := Lib.hid (own_below OL21.out b)
    have OM22 := Lib.hid (own_below OM21.out b)
    have OK22 := Lib.hid (own_below OK21.out b)
    have BM22 := Lib.hid (BM21.out.below b BM21.out.lt)
    have OR22 := Lib.hid (own_below OR21.out b)
    have BR22 := Lib.hid (BR21.out.below b BR21.out.lt)
    have OS22 := Lib.hid (own_below OS21.out b)
    have BS22 := Lib.hid (BS21.out.below b BS21.out.lt)
    have BB22 := Lib.hid (BB21.out.below b BB21.out.lt)
    have BC22 := Lib.hid (BC21.out.below b BC21.out.lt)
    have OC22 := Lib.hid (own_below OC21.out b)
    have BD22 := Lib.hid (BD21.out.below b BD21.out.lt)
    have BE22 := Lib.hid (BE21.out.below b BE21.out.lt)
    have BF22 := Lib.hid (BF21.out.below b BF21.out.lt)
    clear b B21 Dr21 OL21 OM21 OK21 BM21 OR21 BR21 OS21 BS21 BB21 BC21 OC21 BD21 BE21 BF21
    go_wp2_with fail
    refine (specAreS_has L Bq dq _ ⟨Reads.of_own OL22.out, nL, NL.out⟩).mono ?_
    rintro e w23 ⟨rfl, b⟩
    have B23 := Lib.hid (B22.out.trans (b.mono B22.out.size))
    have Dr23 := Lib.hid (Dr22.out.below b)
    have OL23 := Lib.hid (own_below OL22.out b)
    have OM23 := Lib.hid (own_below OM22.out b)
    have OK23 := Lib.hid (own_below OK22.out b)
    have BM23 := Lib.hid (BM22.out.below b BM22.out.lt)
    have OR23 := Lib.hid (own_below OR22.out b)
    have BR23 := Lib.hid (BR22.out.below b BR22.out.lt)
    have OS23 := Lib.hid (own_below OS22.out b)
    have BS23 := Lib.hid (BS22.out.below b BS22.out.lt)
    have BB23 := Lib.hid (BB22.out.below b BB22.out.lt)
    have BC23 := Lib.hid (BC22.out.below b BC22.out.lt)
    have OC23 := Lib.hid (own_below OC22.out b)
    have BD23 := Lib.hid (BD22.out.below b BD22.out.lt)
    have BE23 := Lib.hid (BE22.out.below b BE22.out.lt)
    have BF23 := Lib.hid (BF22.out.below b BF22.out.lt)
    clear b B22 Dr22 OL22 OM22 OK22 BM22 OR22 BR22 OS22 BS22 BB22 BC22 OC22 BD22 BE22 BF22
    clear BS23
    clear BC23
    clear BF23
    clear OS23
    clear OK23
    by_cases htc : tc = 0
    · subst htc
      obtain ⟨xBD0, xBD1, xBD2, xBD3, xBD4⟩ := cells_5 BD23.out
      obtain ⟨xBE0, xBE1⟩ := cells_2 BE23.out
      go_wp2_with fail
      refine (HPA.out (by first | rfl | trivial) _ (Reads.of_own OC23.out)).mono ?_
      rintro e w24 ⟨⟨gp, rfl⟩, b⟩
      clear xBD0 xBD1 xBD2 xBD3 xBD4 xBE0 xBE1 HPA
      have B24 := Lib.hid (B23.out.trans (b.mono B23.out.size))
      have Dr24 := Lib.hid (Dr23.out.below b)
      have OL24 := Lib.hid (own_below OL23.out b)
      have OM24 := Lib.hid (own_below OM23.out b)
      have BM24 := Lib.hid (BM23.out.below b BM23.out.lt)
      have OR24 := Lib.hid (own_below OR23.out b)
      have BR24 := Lib.hid (BR23.out.below b BR23.out.lt)
      have BB24 := Lib.hid (BB23.out.below b BB23.out.lt)
      have OC24 := Lib.hid (own_below OC23.out b)
      have BD24 := Lib.hid (BD23.out.below b BD23.out.lt)
      have BE24 := Lib.hid (BE23.out.below b BE23.out.lt)
      clear b B23 Dr23 OL23 OM23 BM23 OR23 BR23 BB23 OC23 BD23 BE23
      go_upto_region 19 with (fail)
      have b : Below w24.heap.size w24 (w24.alloc (.cells #[.int .i64 cx, .int .i64 cy, .int .i64 cW, .int .i64 cH, .slice (some ⟨gp, 0, none⟩) Lc.length Lc.length] 40)) := (Below.refl _ _).alloc (Nat.le_refl _) _
      have nk := Blk.new w24 40 #[.int .i64 cx, .int .i64 cy, .int .i64 cW, .int .i64 cH, .slice (some ⟨gp, 0, none⟩) Lc.length Lc.length]
      generalize w24.alloc (.cells #[.int .i64 cx, .int .i64 cy, .int .i64 cW, .int .i64 cH, .slice (some ⟨gp, 0, none⟩) Lc.length Lc.length] 40) = w25 at b nk ⊢
      have nk := Lib.hid nk
      have B25 := Lib.hid (B24.out.trans (b.mono B24.out.size))
      have Dr25 := Lib.hid (Dr24.out.below b)
      have OL25 := Lib.hid (own_below OL24.out b)
      have OM25 := Lib.hid (own_below OM24.out b)
      have BM25 := Lib.hid (BM24.out.below b BM24.out.lt)
      have OR25 := Lib.hid (own_below OR24.out b)
      have BR25 := Lib.hid (BR24.out.below b BR24.out.lt)
      have BB25 := Lib.hid (BB24.out.below b BB24.out.lt)
      have OC25 := Lib.hid (own_below OC24.out b)
      have BD25 := Lib.hid (BD24.out.below b BD24.out.lt)
      have BE25 := Lib.hid (BE24.out.below b BE24.out.lt)
      have BG25 := Lib.hid (nk.out)
      clear b B24 Dr24 OL24 OM24 BM24 OR24 BR24 BB24 OC24 BD24 BE24
      clear nk
      clear BD25
      clear BE25
      clear OC25
      clear BG25
      by_cases hz : zc = 0
      rotate_left
      · have hz1 : (zc != 0) = true := by simpa using hz
        go_wp2_with fail
        go_ret
        exact ⟨rfl, B25.out⟩
      subst hz
      obtain ⟨hmr, hcb, ct, hct, hcb2⟩ := HF.out (by first | rfl | trivial)
      obtain ⟨pn, hpn⟩ : ∃ p, cntM rl = p := ⟨_, rfl⟩
      have CN := Lib.hid (fun W' h => countP_any rx ry rW rH Ar cr rl hmr W' h)
      unfold maskV at CN
      rw [hpn] at CN hcb
      have ICS := Lib.hid (fun W' (h1 : HasSit W' L Bq) (h2 : HasDsc W' M Bm) (h3 : Dirs W') => (show Calls Tryz.prog 40 #[.slice Bq L.length dq, .slice Bm M.length dm, .agg #[.int .i64 bx, .int .i64 bY]] W' (fun e w' => e = .returned (.tuple #[.int .i64 ct, .int .i64 0]) ∧ Below W'.heap.size W' w') from by have := implCntS_any L M bx bY Bq Bm dq dm W' h1 h2 h3; rw [hct] at this; exact this))
      have HPN := Lib.hid hpn
      clear hct hmr hpn HF
      cases cb
      · have hp : ¬ 0 < pn := by simpa using hcb
        have hq : (ct == (M.length : Int)) = false := hcb2.symm
        have HQ := Lib.hid hq
        clear hcb hcb2 hq
        obtain ⟨xBR0, xBR1, xBR2, xBR3, xBR4⟩ := cells_5 BR25.out
        go_wp2_with fail
        refine (CN.out _ (Reads.of_own OR25.out)).mono ?_
        rintro e w26 ⟨rfl, b⟩
        clear xBR0 xBR1 xBR2 xBR3 xBR4 CN
        have B26 := Lib.hid (B25.out.trans (b.mono B25.out.size))
        have Dr26 := Lib.hid (Dr25.out.below b)
        have OL26 := Lib.hid (own_below OL25.out b)
        have OM26 := Lib.hid (own_below OM25.out b)
        have BM26 := Lib.hid (BM25.out.below b BM25.out.lt)
        have OR26 := Lib.hid (own_below OR25.out b)
        have BR26 := Lib.hid (BR25.out.below b BR25.out.lt)
        have BB26 := Lib.hid (BB25.out.below b BB25.out.lt)
        clear b B25 Dr25 OL25 OM25 BM25 OR25 BR25 BB25
        by_cases hM0 : (0 : Int) < (M.length : Int)
        · skip
          obtain ⟨db, dof, rfl, hdb, _⟩ := (Reads.of_own OM26.out).2 (by omega)
          obtain ⟨d0, T, hMT⟩ : ∃ d0 T, M = d0 :: T := by cases M with | nil => simp at hM0 | cons d0 T => exact ⟨d0, T, rfl⟩
          obtain ⟨ux, uy, uW, uH, ul, hRT, hmu, hqn⟩ := HTF.out T d0 hMT (by first | rfl | trivial)
          rw [HPN.out] at hqn
          obtain ⟨qn, hqn2⟩ : ∃ p, cntM ul = p := ⟨_, rfl⟩
          rw [hqn2] at hqn
          have CU := Lib.hid (fun A' c' W' h => countP_any ux uy uW uH A' c' ul hmu W' h)
          unfold maskV at CU
          rw [hqn2] at CU
          obtain ⟨off3, hoff⟩ : ∃ o, o = (if dm = 1 then dof else dof + 6) := ⟨_, rfl⟩
          have hTl : T.length = M.length - 1 := by rw [hMT]; simp
          have IRT := Lib.hid (fun W' (h1 : HasSit W' L Bq) (h2 : HasDsc W' M (some ⟨db, dof, none⟩)) (h3 : Dirs W') => (show Calls Tryz.prog 25 #[.slice Bq L.length dq, .slice (some ⟨db, off3, none⟩) (M.length - 1) (dm - 1), .agg #[.int .i64 x, .int .i64 y, .int .i64 W, .int .i64 H, .slice Bk K.length dk]] W' (fun e w' => ∃ v, e = .returned (.tuple #[.agg #[.int .i64 ux, .int .i64 uy, .int .i64 uW, .int .i64 uH, v], .int .i64 0]) ∧ w'.ownsRow W'.heap.size 4 1 v ul.length (bC ul) ∧ Below W'.heap.size W' w') from by
            have h4 := has_tail hMT h2 HDM.out
            rw [← hoff] at h4
            have := implRegOf_any L T x y W H Bq (some ⟨db, off3, none⟩) Bk dq (dm - 1) K.length dk nK W' h1 h4 h3
            rw [hRT, hTl] at this
            exact this))
          obtain ⟨i6, hi6, hs6⟩ : ∃ i, Tryz.prog.info? 79 = some i ∧ i.size = 6 := by
            have h := infoDz
            cases hc : Tryz.prog.info? 79 with
            | none => rw [hc] at h; cases h
            | some i => rw [hc] at h; exact ⟨i, rfl, by simpa using h⟩
          have hdm : dm ≤ 9223372036854775807 := by
            rcases OM26.out.2 with ⟨e, _⟩ | ⟨_, _, _, e, _, _, _, h, _⟩
            · cases e
            · injection e with _ _ e; subst e; exact h
          have HSL := Lib.hid (fun W' => (show (Instr.sliceAt 37 (.slice (some ⟨db, dof, none⟩) M.length dm) (some (.int .i64 1)) none none).run Tryz.prog W' = .ok (.slice (some ⟨db, off3, none⟩) (M.length - 1) (dm - 1)) W' from by rw [hoff]; exact run_tail (P := Tryz.prog) W' 37 79 i6 6 Tryz.underlying37 hi6 hs6 db dof M.length dm (by omega) HDM.out hdm))
          clear hRT hmu hqn2 hoff hTl hi6 hs6 hdm hMT
          obtain ⟨xBM0, xBM1, xBM2, xBM3, xBM4⟩ := cells_5 BM26.out
          go_upto_region 27 with (fail)
          have hM1 : 0 < M.length := by omega
          try simp only [show decide (0 < M.length) = true from decide_eq_true hM1]
          clear hM1
          refine' wp_region_dep (OverW w26) (KeepO w26 40 4 ux uy uW uH ul.length (bC ul)) [slotP 0 (isV (.slice Bq L.length dq)), slotP 1 (isV (.slice (some ⟨db, dof, none⟩) M.length dm)), slotP 2 (isV (.slice (some ⟨db, off3, none⟩) (M.length - 1) (dm - 1))), slotP 3 (isV (.agg #[.int .i64 x, .int .i64 y, .int .i64 W, .int .i64 H, .slice Bk K.length dk])), slotP 4 (isRegT w26 4 ux uy uW uH 0 ul.length (bC ul)), slotP 5 (isRegT w26 4 ux uy uW uH 0 ul.length (bC ul)), slotP 6 (isRegA w26 4 ux uy uW uH ul.length (bC ul)), slotP 7 (isV (.int .i64 0)), slotP 8 (isBoxS w26 40 5), storedO w26 8 40 4 ux uy uW uH ul.length (bC ul)] mixed (by kernel_rfl) (by kernel_rfl) (OverW.drew (Below.refl _ _)) ?_ _ _ ?_ ?_ ?_
          · exact AllStableD.cons (slotP_stable 0 (keepO_V _)) (AllStableD.cons (slotP_stable 1 (keepO_V _)) (AllStableD.cons (slotP_stable 2 (keepO_V _)) (AllStableD.cons (slotP_stable 3 (keepO_V _)) (AllStableD.cons (slotP_stable 4 (keepO_regT (by decide) _)) (AllStableD.cons (slotP_stable 5 (keepO_regT (by decide) _)) (AllStableD.cons (slotP_stable 6 (keepO_regA (by decide))) (AllStableD.cons (slotP_stable 7 (keepO_V _)) (AllStableD.cons (slotP_stable 8 (keepO_box)) (AllStableD.cons (keepO_stored (by decide) _) (AllStableD.nil))))))))))
          rotate_left 2
          · intro f; simp only [lay, List.setIfInBounds_toArray, List.set_cons_succ, List.set_cons_zero, Nat.reduceAdd]; exact rfl
          · refine AllToD.cons ?_ (slotP_local _ _ _) ?_
            · intro f w27 hS hT K hK
              simp only [Act.put, List.setIfInBounds_toArray, List.set_cons_succ, List.set_cons_zero] at hK
              go_simp
              exact hK.out _ _ (slotP_at (rfl)) hS (Or.inl (keep_refl _))
            refine AllToD.cons ?_ (slotP_local _ _ _) ?_
            · intro f w27 hS hT K hK
              simp only [Act.put, List.setIfInBounds_toArray, List.set_cons_succ, List.set_cons_zero] at hK
              go_simp
              exact hK.out _ _ (slotP_at (rfl)) hS (Or.inl (keep_refl _))
            refine AllToD.cons ?_ (slotP_local _ _ _) ?_
            · intro f w27 hS hT K hK
              have e1 := hT 1 _ rfl rfl
              dsimp only [slotP, isV] at e1
              have hsl := HSL.out
              simp only [Act.put, List.setIfInBounds_toArray, List.set_cons_succ, List.set_cons_zero, e1] at hK
              go_simp
              exact hK.out _ _ (slotP_at (rfl)) hS (Or.inl (keep_refl _))
            refine AllToD.cons ?_ (slotP_local _ _ _) ?_
            · intro f w27 hS hT K hK
              have hb5 := BM26.out.below (show Below w26.heap.size w26 w27 from hS) BM26.out.lt
              obtain ⟨hc0, hc1, hc2, hc3, hc4⟩ := cells_5 hb5
              clear hb5
              simp only [Act.put, List.setIfInBounds_toArray, List.set_cons_succ, List.set_cons_zero] at hK
              go_simp
              exact hK.out _ _ (slotP_at (rfl)) hS (Or.inl (keep_refl _))
            refine AllToD.cons ?_ (slotP_local _ _ _) ?_
            · intro f w27 hS hT K hK
              have e0 := hT 0 _ rfl rfl
              dsimp only [slotP, isV] at e0
              have e2 := hT 2 _ rfl rfl
              dsimp only [slotP, isV] at e2
              have e3 := hT 3 _ rfl rfl
              dsimp only [slotP, isV] at e3
              simp only [Act.put, List.setIfInBounds_toArray, List.set_cons_succ, List.set_cons_zero, e0, e2, e3] at hK
              go_simp
              refine (IRT.out w27 ⟨Reads.of_own (own_below OL26.out (show Below w26.heap.size w26 w27 from hS)), nL, NL.out⟩ ⟨Reads.of_own (own_below OM26.out (show Below w26.heap.size w26 w27 from hS)), nM, NM.out⟩ (Dr26.out.below (show Below w26.heap.size w26 w27 from hS))).mono ?_
              rintro e w1 ⟨vv, rfl, oo, b1⟩
              exact hK.out _ _ (slotP_at (⟨vv, rfl, own_mono oo hS.size⟩)) (hS.go b1) (Or.inl b1)
            refine AllToD.cons ?_ (slotP_local _ _ _) ?_
            · intro f w27 hS hT K hK
              obtain ⟨v4, e4, o4⟩ := hT 4 _ rfl rfl
              simp only [Act.put, List.setIfInBounds_toArray, List.set_cons_succ, List.set_cons_zero, e4] at hK
              go_simp
              exact hK.out _ _ (slotP_at (⟨v4, rfl, o4⟩)) hS (Or.inl (keep_refl _))
            refine AllToD.cons ?_ (slotP_local _ _ _) ?_
            · intro f w27 hS hT K hK
              obtain ⟨v5, e5, o5⟩ := hT 5 _ rfl rfl
              simp only [Act.put, List.setIfInBounds_toArray, List.set_cons_succ, List.set_cons_zero, e5] at hK
              go_simp
              exact hK.out _ _ (slotP_at (⟨v5, rfl, o5⟩)) hS (Or.inl (keep_refl _))
            refine AllToD.cons ?_ (slotP_local _ _ _) ?_
            · intro f w27 hS hT K hK
              obtain ⟨v5, e5, o5⟩ := hT 5 _ rfl rfl
              simp only [Act.put, List.setIfInBounds_toArray, List.set_cons_succ, List.set_cons_zero, e5] at hK
              go_simp
              exact hK.out _ _ (slotP_at (rfl)) hS (Or.inl (keep_refl _))
            refine AllToD.cons ?_ (slotP_local _ _ _) ?_
            · intro f w27 hS hT K hK
              simp only [Act.put, List.setIfInBounds_toArray, List.set_cons_succ, List.set_cons_zero] at hK
              go_simp
              exact hK.out _ _ (slotP_at (⟨w27.heap.size, _, rfl, hS.size, rfl, Blk.new _ _ _⟩)) (hS.new _) (Or.inl (keep_new _ _))
            refine AllToD.cons ?_ (storedO_local (by kernel_rfl)) ?_
            · intro f w27 hS hT K hK
              obtain ⟨b8, ds8, e8, hb8, hn8, hk8⟩ := hT 8 _ rfl rfl
              obtain ⟨v6, e6, o6⟩ := hT 6 _ rfl rfl
              simp only [Act.put, List.setIfInBounds_toArray, List.set_cons_succ, List.set_cons_zero, e8, e6] at hK
              obtain ⟨z0, z1, z2, z3, z4, rfl⟩ := arr_5 hn8
              obtain ⟨ff0, ff1, ff2, ff3, ff4, ff5, ff6, ff7, ff8, ff9, ff10, ff11, ff12, ff13, ff14⟩ := facts_5 hk8
              obtain ⟨Ax, cq, hvx, _⟩ := own_shape o6
              subst hvx
              go_simp
              exact hK.out (.bool true) _ ⟨b8, _, by rw [upd_ne _ _ (by decide)]; exact e8, hb8, blkS5 hk8 _ _ _ _ _, ownS5 hk8 (by decide) o6 _ _ _ _ _⟩ (below_5 hS hb8 _ _ _ _ _) (Or.inr (storeO_5 (by decide) hk8 o6))
            exact AllToD.nil
          · intro f w27 hS hT K hK
            have e2 := hT 7 _ rfl
            dsimp only [slotP, isV] at e2
            obtain ⟨rb, vr, e8, hrb, hkr, hor⟩ := hT 9 _ rfl
            go_simp
            refine hK.out _ _ ?_
            clear hT hK K
            (try simp only [e2, e8])
            clear e2 e8 IRT HSL
            obtain ⟨Au, cu, rfl, _⟩ := own_shape hor
            have b : Below w26.heap.size w26 w27 := hS
            clear hS xBM0 xBM1 xBM2 xBM3 xBM4
            have B27 := Lib.hid (B26.out.trans (b.mono B26.out.size))
            have Dr27 := Lib.hid (Dr26.out.below b)
            have OL27 := Lib.hid (own_below OL26.out b)
            have OM27 := Lib.hid (own_below OM26.out b)
            have BM27 := Lib.hid (BM26.out.below b BM26.out.lt)
            have OR27 := Lib.hid (own_below OR26.out b)
            have BR27 := Lib.hid (BR26.out.below b BR26.out.lt)
            have BB27 := Lib.hid (BB26.out.below b BB26.out.lt)
            have BU27 := Lib.hid (hkr)
            have OU27 := Lib.hid (hor)
            clear b B26 Dr26 OL26 OM26 BM26 OR26 BR26 BB26
            clear hkr hor
            obtain ⟨xBU0, xBU1, xBU2, xBU3, xBU4⟩ := cells_5 BU27.out
            go_wp2_with fail
            refine (CU.out Au cu _ (Reads.of_own OU27.out)).mono ?_
            rintro e w28 ⟨rfl, b⟩
            clear xBU0 xBU1 xBU2 xBU3 xBU4 CU
            have B28 := Lib.hid (B27.out.trans (b.mono B27.out.size))
            have Dr28 := Lib.hid (Dr27.out.below b)
            have OL28 := Lib.hid (own_below OL27.out b)
            have OM28 := Lib.hid (own_below OM27.out b)
            have BM28 := Lib.hid (BM27.out.below b BM27.out.lt)
            have OR28 := Lib.hid (own_below OR27.out b)
            have BR28 := Lib.hid (BR27.out.below b BR27.out.lt)
            have BB28 := Lib.hid (BB27.out.below b BB27.out.lt)
            have BU28 := Lib.hid (BU27.out.below b BU27.out.lt)
            have OU28 := Lib.hid (own_below OU27.out b)
            clear b B27 Dr27 OL27 OM27 BM27 OR27 BR27 BB27 BU27 OU27
            clear HTF
            obtain ⟨xBB0, xBB1⟩ := cells_2 BB28.out
            go_wp2_with fail
            refine (ICS.out _ ⟨Reads.of_own OL28.out, nL, NL.out⟩ ⟨Reads.of_own OM28.out, nM, NM.out⟩ Dr28.out).mono ?_
            rintro e w29 ⟨rfl, b⟩
            clear xBB0 xBB1 ICS
            have B29 := Lib.hid (B28.out.trans (b.mono B28.out.size))
            have Dr29 := Lib.hid (Dr28.out.below b)
            have OL29 := Lib.hid (own_below OL28.out b)
            have OM29 := Lib.hid (own_below OM28.out b)
            have BM29 := Lib.hid (BM28.out.below b BM28.out.lt)
            have OR29 := Lib.hid (own_below OR28.out b)
            have BR29 := Lib.hid (BR28.out.below b BR28.out.lt)
            have BB29 := Lib.hid (BB28.out.below b BB28.out.lt)
            have BU29 := Lib.hid (BU28.out.below b BU28.out.lt)
            have OU29 := Lib.hid (own_below OU28.out b)
            clear b B28 Dr28 OL28 OM28 BM28 OR28 BR28 BB28 BU28 OU28
            have hq := HQ.out
            go_wp2_with fail
            go_ret
            exact ⟨rfl, B29.out⟩
        · skip
          clear HTF
          obtain ⟨xBB0, xBB1⟩ := cells_2 BB26.out
          go_wp2_with fail
          refine (ICS.out _ ⟨Reads.of_own OL26.out, nL, NL.out⟩ ⟨Reads.of_own OM26.out, nM, NM.out⟩ Dr26.out).mono ?_
          rintro e w27 ⟨rfl, b⟩
          clear xBB0 xBB1 ICS
          have B27 := Lib.hid (B26.out.trans (b.mono B26.out.size))
          have Dr27 := Lib.hid (Dr26.out.below b)
          have OL27 := Lib.hid (own_below OL26.out b)
          have OM27 := Lib.hid (own_below OM26.out b)
          have BM27 := Lib.hid (BM26.out.below b BM26.out.lt)
          have OR27 := Lib.hid (own_below OR26.out b)
          have BR27 := Lib.hid (BR26.out.below b BR26.out.lt)
          have BB27 := Lib.hid (BB26.out.below b BB26.out.lt)
          clear b B26 Dr26 OL26 OM26 BM26 OR26 BR26 BB26
          have hq := HQ.out
          go_wp2_with fail
          go_ret
          exact ⟨rfl, B27.out⟩
      · have hp : 0 < pn := by simpa using hcb
        have hq : (ct == (M.length : Int)) = true := hcb2.symm
        have HQ := Lib.hid hq
        clear hcb hcb2 hq
        obtain ⟨xBR0, xBR1, xBR2, xBR3, xBR4⟩ := cells_5 BR25.out
        go_wp2_with fail
        refine (CN.out _ (Reads.of_own OR25.out)).mono ?_
        rintro e w26 ⟨rfl, b⟩
        clear xBR0 xBR1 xBR2 xBR3 xBR4 CN
        have B26 := Lib.hid (B25.out.trans (b.mono B25.out.size))
        have Dr26 := Lib.hid (Dr25.out.below b)
        have OL26 := Lib.hid (own_below OL25.out b)
        have OM26 := Lib.hid (own_below OM25.out b)
        have BM26 := Lib.hid (BM25.out.below b BM25.out.lt)
        have OR26 := Lib.hid (own_below OR25.out b)
        have BR26 := Lib.hid (BR25.out.below b BR25.out.lt)
        have BB26 := Lib.hid (BB25.out.below b BB25.out.lt)
        clear b B25 Dr25 OL25 OM25 BM25 OR25 BR25 BB25
        by_cases hM0 : (0 : Int) < (M.length : Int)
        · skip
          obtain ⟨db, dof, rfl, hdb, _⟩ := (Reads.of_own OM26.out).2 (by omega)
          obtain ⟨d0, T, hMT⟩ : ∃ d0 T, M = d0 :: T := by cases M with | nil => simp at hM0 | cons d0 T => exact ⟨d0, T, rfl⟩
          obtain ⟨ux, uy, uW, uH, ul, hRT, hmu, hqn⟩ := HTF.out T d0 hMT (by first | rfl | trivial)
          rw [HPN.out] at hqn
          obtain ⟨qn, hqn2⟩ : ∃ p, cntM ul = p := ⟨_, rfl⟩
          rw [hqn2] at hqn
          have CU := Lib.hid (fun A' c' W' h => countP_any ux uy uW uH A' c' ul hmu W' h)
          unfold maskV at CU
          rw [hqn2] at CU
          obtain ⟨off3, hoff⟩ : ∃ o, o = (if dm = 1 then dof else dof + 6) := ⟨_, rfl⟩
          have hTl : T.length = M.length - 1 := by rw [hMT]; simp
          have IRT := Lib.hid (fun W' (h1 : HasSit W' L Bq) (h2 : HasDsc W' M (some ⟨db, dof, none⟩)) (h3 : Dirs W') => (show Calls Tryz.prog 25 #[.slice Bq L.length dq, .slice (some ⟨db, off3, none⟩) (M.length - 1) (dm - 1), .agg #[.int .i64 x, .int .i64 y, .int .i64 W, .int .i64 H, .slice Bk K.length dk]] W' (fun e w' => ∃ v, e = .returned (.tuple #[.agg #[.int .i64 ux, .int .i64 uy, .int .i64 uW, .int .i64 uH, v], .int .i64 0]) ∧ w'.ownsRow W'.heap.size 4 1 v ul.length (bC ul) ∧ Below W'.heap.size W' w') from by
            have h4 := has_tail hMT h2 HDM.out
            rw [← hoff] at h4
            have := implRegOf_any L T x y W H Bq (some ⟨db, off3, none⟩) Bk dq (dm - 1) K.length dk nK W' h1 h4 h3
            rw [hRT, hTl] at this
            exact this))
          obtain ⟨i6, hi6, hs6⟩ : ∃ i, Tryz.prog.info? 79 = some i ∧ i.size = 6 := by
            have h := infoDz
            cases hc : Tryz.prog.info? 79 with
            | none => rw [hc] at h; cases h
            | some i => rw [hc] at h; exact ⟨i, rfl, by simpa using h⟩
          have hdm : dm ≤ 9223372036854775807 := by
            rcases OM26.out.2 with ⟨e, _⟩ | ⟨_, _, _, e, _, _, _, h, _⟩
            · cases e
            · injection e with _ _ e; subst e; exact h
          have HSL := Lib.hid (fun W' => (show (Instr.sliceAt 37 (.slice (some ⟨db, dof, none⟩) M.length dm) (some (.int .i64 1)) none none).run Tryz.prog W' = .ok (.slice (some ⟨db, off3, none⟩) (M.length - 1) (dm - 1)) W' from by rw [hoff]; exact run_tail (P := Tryz.prog) W' 37 79 i6 6 Tryz.underlying37 hi6 hs6 db dof M.length dm (by omega) HDM.out hdm))
          clear hRT hmu hqn2 hoff hTl hi6 hs6 hdm hMT
          obtain ⟨xBM0, xBM1, xBM2, xBM3, xBM4⟩ := cells_5 BM26.out
          go_upto_region 27 with (fail)
          have hM1 : 0 < M.length := by omega
          try simp only [show decide (0 < M.length) = true from decide_eq_true hM1]
          clear hM1
          refine' wp_region_dep (OverW w26) (KeepO w26 40 4 ux uy uW uH ul.length (bC ul)) [slotP 0 (isV (.slice Bq L.length dq)), slotP 1 (isV (.slice (some ⟨db, dof, none⟩) M.length dm)), slotP 2 (isV (.slice (some ⟨db, off3, none⟩) (M.length - 1) (dm - 1))), slotP 3 (isV (.agg #[.int .i64 x, .int .i64 y, .int .i64 W, .int .i64 H, .slice Bk K.length dk])), slotP 4 (isRegT w26 4 ux uy uW uH 0 ul.length (bC ul)), slotP 5 (isRegT w26 4 ux uy uW uH 0 ul.length (bC ul)), slotP 6 (isRegA w26 4 ux uy uW uH ul.length (bC ul)), slotP 7 (isV (.int .i64 0)), slotP 8 (isBoxS w26 40 5), storedO w26 8 40 4 ux uy uW uH ul.length (bC ul)] mixed (by kernel_rfl) (by kernel_rfl) (OverW.drew (Below.refl _ _)) ?_ _ _ ?_ ?_ ?_
          · exact AllStableD.cons (slotP_stable 0 (keepO_V _)) (AllStableD.cons (slotP_stable 1 (keepO_V _)) (AllStableD.cons (slotP_stable 2 (keepO_V _)) (AllStableD.cons (slotP_stable 3 (keepO_V _)) (AllStableD.cons (slotP_stable 4 (keepO_regT (by decide) _)) (AllStableD.cons (slotP_stable 5 (keepO_regT (by decide) _)) (AllStableD.cons (slotP_stable 6 (keepO_regA (by decide))) (AllStableD.cons (slotP_stable 7 (keepO_V _)) (AllStableD.cons (slotP_stable 8 (keepO_box)) (AllStableD.cons (keepO_stored (by decide) _) (AllStableD.nil))))))))))
          rotate_left 2
          · intro f; simp only [lay, List.setIfInBounds_toArray, List.set_cons_succ, List.set_cons_zero, Nat.reduceAdd]; exact rfl
          · refine AllToD.cons ?_ (slotP_local _ _ _) ?_
            · intro f w27 hS hT K hK
              simp only [Act.put, List.setIfInBounds_toArray, List.set_cons_succ, List.set_cons_zero] at hK
              go_simp
              exact hK.out _ _ (slotP_at (rfl)) hS (Or.inl (keep_refl _))
            refine AllToD.cons ?_ (slotP_local _ _ _) ?_
            · intro f w27 hS hT K hK
              simp only [Act.put, List.setIfInBounds_toArray, List.set_cons_succ, List.set_cons_zero] at hK
              go_simp
              exact hK.out _ _ (slotP_at (rfl)) hS (Or.inl (keep_refl _))
            refine AllToD.cons ?_ (slotP_local _ _ _) ?_
            · intro f w27 hS hT K hK
              have e1 := hT 1 _ rfl rfl
              dsimp only [slotP, isV] at e1
              have hsl := HSL.out
              simp only [Act.put, List.setIfInBounds_toArray, List.set_cons_succ, List.set_cons_zero, e1] at hK
              go_simp
              exact hK.out _ _ (slotP_at (rfl)) hS (Or.inl (keep_refl _))
            refine AllToD.cons ?_ (slotP_local _ _ _) ?_
            · intro f w27 hS hT K hK
              have hb5 := BM26.out.below (show Below w26.heap.size w26 w27 from hS) BM26.out.lt
              obtain ⟨hc0, hc1, hc2, hc3, hc4⟩ := cells_5 hb5
              clear hb5
              simp only [Act.put, List.setIfInBounds_toArray, List.set_cons_succ, List.set_cons_zero] at hK
              go_simp
              exact hK.out _ _ (slotP_at (rfl)) hS (Or.inl (keep_refl _))
            refine AllToD.cons ?_ (slotP_local _ _ _) ?_
            · intro f w27 hS hT K hK
              have e0 := hT 0 _ rfl rfl
              dsimp only [slotP, isV] at e0
              have e2 := hT 2 _ rfl rfl
              dsimp only [slotP, isV] at e2
              have e3 := hT 3 _ rfl rfl
              dsimp only [slotP, isV] at e3
              simp only [Act.put, List.setIfInBounds_toArray, List.set_cons_succ, List.set_cons_zero, e0, e2, e3] at hK
              go_simp
              refine (IRT.out w27 ⟨Reads.of_own (own_below OL26.out (show Below w26.heap.size w26 w27 from hS)), nL, NL.out⟩ ⟨Reads.of_own (own_below OM26.out (show Below w26.heap.size w26 w27 from hS)), nM, NM.out⟩ (Dr26.out.below (show Below w26.heap.size w26 w27 from hS))).mono ?_
              rintro e w1 ⟨vv, rfl, oo, b1⟩
              exact hK.out _ _ (slotP_at (⟨vv, rfl, own_mono oo hS.size⟩)) (hS.go b1) (Or.inl b1)
            refine AllToD.cons ?_ (slotP_local _ _ _) ?_
            · intro f w27 hS hT K hK
              obtain ⟨v4, e4, o4⟩ := hT 4 _ rfl rfl
              simp only [Act.put, List.setIfInBounds_toArray, List.set_cons_succ, List.set_cons_zero, e4] at hK
              go_simp
              exact hK.out _ _ (slotP_at (⟨v4, rfl, o4⟩)) hS (Or.inl (keep_refl _))
            refine AllToD.cons ?_ (slotP_local _ _ _) ?_
            · intro f w27 hS hT K hK
              obtain ⟨v5, e5, o5⟩ := hT 5 _ rfl rfl
              simp only [Act.put, List.setIfInBounds_toArray, List.set_cons_succ, List.set_cons_zero, e5] at hK
              go_simp
              exact hK.out _ _ (slotP_at (⟨v5, rfl, o5⟩)) hS (Or.inl (keep_refl _))
            refine AllToD.cons ?_ (slotP_local _ _ _) ?_
            · intro f w27 hS hT K hK
              obtain ⟨v5, e5, o5⟩ := hT 5 _ rfl rfl
              simp only [Act.put, List.setIfInBounds_toArray, List.set_cons_succ, List.set_cons_zero, e5] at hK
              go_simp
              exact hK.out _ _ (slotP_at (rfl)) hS (Or.inl (keep_refl _))
            refine AllToD.cons ?_ (slotP_local _ _ _) ?_
            · intro f w27 hS hT K hK
              simp only [Act.put, List.setIfInBounds_toArray, List.set_cons_succ, List.set_cons_zero] at hK
              go_simp
              exact hK.out _ _ (slotP_at (⟨w27.heap.size, _, rfl, hS.size, rfl, Blk.new _ _ _⟩)) (hS.new _) (Or.inl (keep_new _ _))
            refine AllToD.cons ?_ (storedO_local (by kernel_rfl)) ?_
            · intro f w27 hS hT K hK
              obtain ⟨b8, ds8, e8, hb8, hn8, hk8⟩ := hT 8 _ rfl rfl
              obtain ⟨v6, e6, o6⟩ := hT 6 _ rfl rfl
              simp only [Act.put, List.setIfInBounds_toArray, List.set_cons_succ, List.set_cons_zero, e8, e6] at hK
              obtain ⟨z0, z1, z2, z3, z4, rfl⟩ := arr_5 hn8
              obtain ⟨ff0, ff1, ff2, ff3, ff4, ff5, ff6, ff7, ff8, ff9, ff10, ff11, ff12, ff13, ff14⟩ := facts_5 hk8
              obtain ⟨Ax, cq, hvx, _⟩ := own_shape o6
              subst hvx
              go_simp
              exact hK.out (.bool true) _ ⟨b8, _, by rw [upd_ne _ _ (by decide)]; exact e8, hb8, blkS5 hk8 _ _ _ _ _, ownS5 hk8 (by decide) o6 _ _ _ _ _⟩ (below_5 hS hb8 _ _ _ _ _) (Or.inr (storeO_5 (by decide) hk8 o6))
            exact AllToD.nil
          · intro f w27 hS hT K hK
            have e2 := hT 7 _ rfl
            dsimp only [slotP, isV] at e2
            obtain ⟨rb, vr, e8, hrb, hkr, hor⟩ := hT 9 _ rfl
            go_simp
            refine hK.out _ _ ?_
            clear hT hK K
            (try simp only [e2, e8])
            clear e2 e8 IRT HSL
            obtain ⟨Au, cu, rfl, _⟩ := own_shape hor
            have b : Below w26.heap.size w26 w27 := hS
            clear hS xBM0 xBM1 xBM2 xBM3 xBM4
            have B27 := Lib.hid (B26.out.trans (b.mono B26.out.size))
            have Dr27 := Lib.hid (Dr26.out.below b)
            have OL27 := Lib.hid (own_below OL26.out b)
            have OM27 := Lib.hid (own_below OM26.out b)
            have BM27 := Lib.hid (BM26.out.below b BM26.out.lt)
            have OR27 := Lib.hid (own_below OR26.out b)
            have BR27 := Lib.hid (BR26.out.below b BR26.out.lt)
            have BB27 := Lib.hid (BB26.out.below b BB26.out.lt)
            have BU27 := Lib.hid (hkr)
            have OU27 := Lib.hid (hor)
            clear b B26 Dr26 OL26 OM26 BM26 OR26 BR26 BB26
            clear hkr hor
            obtain ⟨xBU0, xBU1, xBU2, xBU3, xBU4⟩ := cells_5 BU27.out
            go_wp2_with fail
            refine (CU.out Au cu _ (Reads.of_own OU27.out)).mono ?_
            rintro e w28 ⟨rfl, b⟩
            clear xBU0 xBU1 xBU2 xBU3 xBU4 CU
            have B28 := Lib.hid (B27.out.trans (b.mono B27.out.size))
            have Dr28 := Lib.hid (Dr27.out.below b)
            have OL28 := Lib.hid (own_below OL27.out b)
            have OM28 := Lib.hid (own_below OM27.out b)
            have BM28 := Lib.hid (BM27.out.below b BM27.out.lt)
            have OR28 := Lib.hid (own_below OR27.out b)
            have BR28 := Lib.hid (BR27.out.below b BR27.out.lt)
            have BB28 := Lib.hid (BB27.out.below b BB27.out.lt)
            have BU28 := Lib.hid (BU27.out.below b BU27.out.lt)
            have OU28 := Lib.hid (own_below OU27.out b)
            clear b B27 Dr27 OL27 OM27 BM27 OR27 BR27 BB27 BU27 OU27
            clear HTF
            obtain ⟨xBB0, xBB1⟩ := cells_2 BB28.out
            go_wp2_with fail
            refine (ICS.out _ ⟨Reads.of_own OL28.out, nL, NL.out⟩ ⟨Reads.of_own OM28.out, nM, NM.out⟩ Dr28.out).mono ?_
            rintro e w29 ⟨rfl, b⟩
            clear xBB0 xBB1 ICS
            have B29 := Lib.hid (B28.out.trans (b.mono B28.out.size))
            have Dr29 := Lib.hid (Dr28.out.below b)
            have OL29 := Lib.hid (own_below OL28.out b)
            have OM29 := Lib.hid (own_below OM28.out b)
            have BM29 := Lib.hid (BM28.out.below b BM28.out.lt)
            have OR29 := Lib.hid (own_below OR28.out b)
            have BR29 := Lib.hid (BR28.out.below b BR28.out.lt)
            have BB29 := Lib.hid (BB28.out.below b BB28.out.lt)
            have BU29 := Lib.hid (BU28.out.below b BU28.out.lt)
            have OU29 := Lib.hid (own_below OU28.out b)
            clear b B28 Dr28 OL28 OM28 BM28 OR28 BR28 BB28 BU28 OU28
            have hq := HQ.out
            go_wp2_with fail
            go_ret
            exact ⟨rfl, B29.out⟩
        · skip
          clear HTF
          obtain ⟨xBB0, xBB1⟩ := cells_2 BB26.out
          go_wp2_with fail
          refine (ICS.out _ ⟨Reads.of_own OL26.out, nL, NL.out⟩ ⟨Reads.of_own OM26.out, nM, NM.out⟩ Dr26.out).mono ?_
          rintro e w27 ⟨rfl, b⟩
          clear xBB0 xBB1 ICS
          have B27 := Lib.hid (B26.out.trans (b.mono B26.out.size))
          have Dr27 := Lib.hid (Dr26.out.below b)
          have OL27 := Lib.hid (own_below OL26.out b)
          have OM27 := Lib.hid (own_below OM26.out b)
          have BM27 := Lib.hid (BM26.out.below b BM26.out.lt)
          have OR27 := Lib.hid (own_below OR26.out b)
          have BR27 := Lib.hid (BR26.out.below b BR26.out.lt)
          have BB27 := Lib.hid (BB26.out.below b BB26.out.lt)
          clear b B26 Dr26 OL26 OM26 BM26 OR26 BR26 BB26
          have hq := HQ.out
          go_wp2_with fail
          go_ret
          exact ⟨rfl, B27.out⟩
    · have htc1 : (tc == 0) = false := by simpa using htc
      clear HPA
      clear BD23
      clear BE23
      clear OC23
      by_cases hz : zc = 0
      rotate_left
      · have hz1 : (zc != 0) = true := by simpa using hz
        go_wp2_with fail
        go_ret
        exact ⟨rfl, B23.out⟩
      subst hz
      obtain ⟨hmr, hcb, ct, hct, hcb2⟩ := HF.out (by first | rfl | trivial)
      obtain ⟨pn, hpn⟩ : ∃ p, cntM rl = p := ⟨_, rfl⟩
      have CN := Lib.hid (fun W' h => countP_any rx ry rW rH Ar cr rl hmr W' h)
      unfold maskV at CN
      rw [hpn] at CN hcb
      have ICS := Lib.hid (fun W' (h1 : HasSit W' L Bq) (h2 : HasDsc W' M Bm) (h3 : Dirs W') => (show Calls Tryz.prog 40 #[.slice Bq L.length dq, .slice Bm M.length dm, .agg #[.int .i64 bx, .int .i64 bY]] W' (fun e w' => e = .returned (.tuple #[.int .i64 ct, .int .i64 0]) ∧ Below W'.heap.size W' w') from by have := implCntS_any L M bx bY Bq Bm dq dm W' h1 h2 h3; rw [hct] at this; exact this))
      have HPN := Lib.hid hpn
      clear hct hmr hpn HF
      cases cb
      · have hp : ¬ 0 < pn := by simpa using hcb
        have hq : (ct == (M.length : Int)) = false := hcb2.symm
        have HQ := Lib.hid hq
        clear hcb hcb2 hq
        obtain ⟨xBR0, xBR1, xBR2, xBR3, xBR4⟩ := cells_5 BR23.out
        go_wp2_with fail
        refine (CN.out _ (Reads.of_own OR23.out)).mono ?_
        rintro e w24 ⟨rfl, b⟩
        clear xBR0 xBR1 xBR2 xBR3 xBR4 CN
        have B24 := Lib.hid (B23.out.trans (b.mono B23.out.size))
        have Dr24 := Lib.hid (Dr23.out.below b)
        have OL24 := Lib.hid (own_below OL23.out b)
        have OM24 := Lib.hid (own_below OM23.out b)
        have BM24 := Lib.hid (BM23.out.below b BM23.out.lt)
        have OR24 := Lib.hid (own_below OR23.out b)
        have BR24 := Lib.hid (BR23.out.below b BR23.out.lt)
        have BB24 := Lib.hid (BB23.out.below b BB23.out.lt)
        clear b B23 Dr23 OL23 OM23 BM23 OR23 BR23 BB23
        by_cases hM0 : (0 : Int) < (M.length : Int)
        · skip
          obtain ⟨db, dof, rfl, hdb, _⟩ := (Reads.of_own OM24.out).2 (by omega)
          obtain ⟨d0, T, hMT⟩ : ∃ d0 T, M = d0 :: T := by cases M with | nil => simp at hM0 | cons d0 T => exact ⟨d0, T, rfl⟩
          obtain ⟨ux, uy, uW, uH, ul, hRT, hmu, hqn⟩ := HTF.out T d0 hMT (by first | rfl | trivial)
          rw [HPN.out] at hqn
          obtain ⟨qn, hqn2⟩ : ∃ p, cntM ul = p := ⟨_, rfl⟩
          rw [hqn2] at hqn
          have CU := Lib.hid (fun A' c' W' h => countP_any ux uy uW uH A' c' ul hmu W' h)
          unfold maskV at CU
          rw [hqn2] at CU
          obtain ⟨off3, hoff⟩ : ∃ o, o = (if dm = 1 then dof else dof + 6) := ⟨_, rfl⟩
          have hTl : T.length = M.length - 1 := by rw [hMT]; simp
          have IRT := Lib.hid (fun W' (h1 : HasSit W' L Bq) (h2 : HasDsc W' M (some ⟨db, dof, none⟩)) (h3 : Dirs W') => (show Calls Tryz.prog 25 #[.slice Bq L.length dq, .slice (some ⟨db, off3, none⟩) (M.length - 1) (dm - 1), .agg #[.int .i64 x, .int .i64 y, .int .i64 W, .int .i64 H, .slice Bk K.length dk]] W' (fun e w' => ∃ v, e = .returned (.tuple #[.agg #[.int .i64 ux, .int .i64 uy, .int .i64 uW, .int .i64 uH, v], .int .i64 0]) ∧ w'.ownsRow W'.heap.size 4 1 v ul.length (bC ul) ∧ Below W'.heap.size W' w') from by
            have h4 := has_tail hMT h2 HDM.out
            rw [← hoff] at h4
            have := implRegOf_any L T x y W H Bq (some ⟨db, off3, none⟩) Bk dq (dm - 1) K.length dk nK W' h1 h4 h3
            rw [hRT, hTl] at this
            exact this))
          obtain ⟨i6, hi6, hs6⟩ : ∃ i, Tryz.prog.info? 79 = some i ∧ i.size = 6 := by
            have h := infoDz
            cases hc : Tryz.prog.info? 79 with
            | none => rw [hc] at h; cases h
            | some i => rw [hc] at h; exact ⟨i, rfl, by simpa using h⟩
          have hdm : dm ≤ 9223372036854775807 := by
            rcases OM24.out.2 with ⟨e, _⟩ | ⟨_, _, _, e, _, _, _, h, _⟩
            · cases e
            · injection e with _ _ e; subst e; exact h
          have HSL := Lib.hid (fun W' => (show (Instr.sliceAt 37 (.slice (some ⟨db, dof, none⟩) M.length dm) (some (.int .i64 1)) none none).run Tryz.prog W' = .ok (.slice (some ⟨db, off3, none⟩) (M.length - 1) (dm - 1)) W' from by rw [hoff]; exact run_tail (P := Tryz.prog) W' 37 79 i6 6 Tryz.underlying37 hi6 hs6 db dof M.length dm (by omega) HDM.out hdm))
          clear hRT hmu hqn2 hoff hTl hi6 hs6 hdm hMT
          obtain ⟨xBM0, xBM1, xBM2, xBM3, xBM4⟩ := cells_5 BM24.out
          go_upto_region 27 with (fail)
          have hM1 : 0 < M.length := by omega
          try simp only [show decide (0 < M.length) = true from decide_eq_true hM1]
          clear hM1
          refine' wp_region_dep (OverW w24) (KeepO w24 40 4 ux uy uW uH ul.length (bC ul)) [slotP 0 (isV (.slice Bq L.length dq)), slotP 1 (isV (.slice (some ⟨db, dof, none⟩) M.length dm)), slotP 2 (isV (.slice (some ⟨db, off3, none⟩) (M.length - 1) (dm - 1))), slotP 3 (isV (.agg #[.int .i64 x, .int .i64 y, .int .i64 W, .int .i64 H, .slice Bk K.length dk])), slotP 4 (isRegT w24 4 ux uy uW uH 0 ul.length (bC ul)), slotP 5 (isRegT w24 4 ux uy uW uH 0 ul.length (bC ul)), slotP 6 (isRegA w24 4 ux uy uW uH ul.length (bC ul)), slotP 7 (isV (.int .i64 0)), slotP 8 (isBoxS w24 40 5), storedO w24 8 40 4 ux uy uW uH ul.length (bC ul)] mixed (by kernel_rfl) (by kernel_rfl) (OverW.drew (Below.refl _ _)) ?_ _ _ ?_ ?_ ?_
          · exact AllStableD.cons (slotP_stable 0 (keepO_V _)) (AllStableD.cons (slotP_stable 1 (keepO_V _)) (AllStableD.cons (slotP_stable 2 (keepO_V _)) (AllStableD.cons (slotP_stable 3 (keepO_V _)) (AllStableD.cons (slotP_stable 4 (keepO_regT (by decide) _)) (AllStableD.cons (slotP_stable 5 (keepO_regT (by decide) _)) (AllStableD.cons (slotP_stable 6 (keepO_regA (by decide))) (AllStableD.cons (slotP_stable 7 (keepO_V _)) (AllStableD.cons (slotP_stable 8 (keepO_box)) (AllStableD.cons (keepO_stored (by decide) _) (AllStableD.nil))))))))))
          rotate_left 2
          · intro f; simp only [lay, List.setIfInBounds_toArray, List.set_cons_succ, List.set_cons_zero, Nat.reduceAdd]; exact rfl
          · refine AllToD.cons ?_ (slotP_local _ _ _) ?_
            · intro f w25 hS hT K hK
              simp only [Act.put, List.setIfInBounds_toArray, List.set_cons_succ, List.set_cons_zero] at hK
              go_simp
              exact hK.out _ _ (slotP_at (rfl)) hS (Or.inl (keep_refl _))
            refine AllToD.cons ?_ (slotP_local _ _ _) ?_
            · intro f w25 hS hT K hK
              simp only [Act.put, List.setIfInBounds_toArray, List.set_cons_succ, List.set_cons_zero] at hK
              go_simp
              exact hK.out _ _ (slotP_at (rfl)) hS (Or.inl (keep_refl _))
            refine AllToD.cons ?_ (slotP_local _ _ _) ?_
            · intro f w25 hS hT K hK
              have e1 := hT 1 _ rfl rfl
              dsimp only [slotP, isV] at e1
              have hsl := HSL.out
              simp only [Act.put, List.setIfInBounds_toArray, List.set_cons_succ, List.set_cons_zero, e1] at hK
              go_simp
              exact hK.out _ _ (slotP_at (rfl)) hS (Or.inl (keep_refl _))
            refine AllToD.cons ?_ (slotP_local _ _ _) ?_
            · intro f w25 hS hT K hK
              have hb5 := BM24.out.below (show Below w24.heap.size w24 w25 from hS) BM24.out.lt
              obtain ⟨hc0, hc1, hc2, hc3, hc4⟩ := cells_5 hb5
              clear hb5
              simp only [Act.put, List.setIfInBounds_toArray, List.set_cons_succ, List.set_cons_zero] at hK
              go_simp
              exact hK.out _ _ (slotP_at (rfl)) hS (Or.inl (keep_refl _))
            refine AllToD.cons ?_ (slotP_local _ _ _) ?_
            · intro f w25 hS hT K hK
              have e0 := hT 0 _ rfl rfl
              dsimp only [slotP, isV] at e0
              have e2 := hT 2 _ rfl rfl
              dsimp only [slotP, isV] at e2
              have e3 := hT 3 _ rfl rfl
              dsimp only [slotP, isV] at e3
              simp only [Act.put, List.setIfInBounds_toArray, List.set_cons_succ, List.set_cons_zero, e0, e2, e3] at hK
              go_simp
              refine (IRT.out w25 ⟨Reads.of_own (own_below OL24.out (show Below w24.heap.size w24 w25 from hS)), nL, NL.out⟩ ⟨Reads.of_own (own_below OM24.out (show Below w24.heap.size w24 w25 from hS)), nM, NM.out⟩ (Dr24.out.below (show Below w24.heap.size w24 w25 from hS))).mono ?_
              rintro e w1 ⟨vv, rfl, oo, b1⟩
              exact hK.out _ _ (slotP_at (⟨vv, rfl, own_mono oo hS.size⟩)) (hS.go b1) (Or.inl b1)
            refine AllToD.cons ?_ (slotP_local _ _ _) ?_
            · intro f w25 hS hT K hK
              obtain ⟨v4, e4, o4⟩ := hT 4 _ rfl rfl
              simp only [Act.put, List.setIfInBounds_toArray, List.set_cons_succ, List.set_cons_zero, e4] at hK
              go_simp
              exact hK.out _ _ (slotP_at (⟨v4, rfl, o4⟩)) hS (Or.inl (keep_refl _))
            refine AllToD.cons ?_ (slotP_local _ _ _) ?_
            · intro f w25 hS hT K hK
              obtain ⟨v5, e5, o5⟩ := hT 5 _ rfl rfl
              simp only [Act.put, List.setIfInBounds_toArray, List.set_cons_succ, List.set_cons_zero, e5] at hK
              go_simp
              exact hK.out _ _ (slotP_at (⟨v5, rfl, o5⟩)) hS (Or.inl (keep_refl _))
            refine AllToD.cons ?_ (slotP_local _ _ _) ?_
            · intro f w25 hS hT K hK
              obtain ⟨v5, e5, o5⟩ := hT 5 _ rfl rfl
              simp only [Act.put, List.setIfInBounds_toArray, List.set_cons_succ, List.set_cons_zero, e5] at hK
              go_simp
              exact hK.out _ _ (slotP_at (rfl)) hS (Or.inl (keep_refl _))
            refine AllToD.cons ?_ (slotP_local _ _ _) ?_
            · intro f w25 hS hT K hK
              simp only [Act.put, List.setIfInBounds_toArray, List.set_cons_succ, List.set_cons_zero] at hK
              go_simp
              exact hK.out _ _ (slotP_at (⟨w25.heap.size, _, rfl, hS.size, rfl, Blk.new _ _ _⟩)) (hS.new _) (Or.inl (keep_new _ _))
            refine AllToD.cons ?_ (storedO_local (by kernel_rfl)) ?_
            · intro f w25 hS hT K hK
              obtain ⟨b8, ds8, e8, hb8, hn8, hk8⟩ := hT 8 _ rfl rfl
              obtain ⟨v6, e6, o6⟩ := hT 6 _ rfl rfl
              simp only [Act.put, List.setIfInBounds_toArray, List.set_cons_succ, List.set_cons_zero, e8, e6] at hK
              obtain ⟨z0, z1, z2, z3, z4, rfl⟩ := arr_5 hn8
              obtain ⟨ff0, ff1, ff2, ff3, ff4, ff5, ff6, ff7, ff8, ff9, ff10, ff11, ff12, ff13, ff14⟩ := facts_5 hk8
              obtain ⟨Ax, cq, hvx, _⟩ := own_shape o6
              subst hvx
              go_simp
              exact hK.out (.bool true) _ ⟨b8, _, by rw [upd_ne _ _ (by decide)]; exact e8, hb8, blkS5 hk8 _ _ _ _ _, ownS5 hk8 (by decide) o6 _ _ _ _ _⟩ (below_5 hS hb8 _ _ _ _ _) (Or.inr (storeO_5 (by decide) hk8 o6))
            exact AllToD.nil
          · intro f w25 hS hT K hK
            have e2 := hT 7 _ rfl
            dsimp only [slotP, isV] at e2
            obtain ⟨rb, vr, e8, hrb, hkr, hor⟩ := hT 9 _ rfl
            go_simp
            refine hK.out _ _ ?_
            clear hT hK K
            (try simp only [e2, e8])
            clear e2 e8 IRT HSL
            obtain ⟨Au, cu, rfl, _⟩ := own_shape hor
            have b : Below w24.heap.size w24 w25 := hS
            clear hS xBM0 xBM1 xBM2 xBM3 xBM4
            have B25 := Lib.hid (B24.out.trans (b.mono B24.out.size))
            have Dr25 := Lib.hid (Dr24.out.below b)
            have OL25 := Lib.hid (own_below OL24.out b)
            have OM25 := Lib.hid (own_below OM24.out b)
            have BM25 := Lib.hid (BM24.out.below b BM24.out.lt)
            have OR25 := Lib.hid (own_below OR24.out b)
            have BR25 := Lib.hid (BR24.out.below b BR24.out.lt)
            have BB25 := Lib.hid (BB24.out.below b BB24.out.lt)
            have BU25 := Lib.hid (hkr)
            have OU25 := Lib.hid (hor)
            clear b B24 Dr24 OL24 OM24 BM24 OR24 BR24 BB24
            clear hkr hor
            obtain ⟨xBU0, xBU1, xBU2, xBU3, xBU4⟩ := cells_5 BU25.out
            go_wp2_with fail
            refine (CU.out Au cu _ (Reads.of_own OU25.out)).mono ?_
            rintro e w26 ⟨rfl, b⟩
            clear xBU0 xBU1 xBU2 xBU3 xBU4 CU
            have B26 := Lib.hid (B25.out.trans (b.mono B25.out.size))
            have Dr26 := Lib.hid (Dr25.out.below b)
            have OL26 := Lib.hid (own_below OL25.out b)
            have OM26 := Lib.hid (own_below OM25.out b)
            have BM26 := Lib.hid (BM25.out.below b BM25.out.lt)
            have OR26 := Lib.hid (own_below OR25.out b)
            have BR26 := Lib.hid (BR25.out.below b BR25.out.lt)
            have BB26 := Lib.hid (BB25.out.below b BB25.out.lt)
            have BU26 := Lib.hid (BU25.out.below b BU25.out.lt)
            have OU26 := Lib.hid (own_below OU25.out b)
            clear b B25 Dr25 OL25 OM25 BM25 OR25 BR25 BB25 BU25 OU25
            clear HTF
            obtain ⟨xBB0, xBB1⟩ := cells_2 BB26.out
            go_wp2_with fail
            refine (ICS.out _ ⟨Reads.of_own OL26.out, nL, NL.out⟩ ⟨Reads.of_own OM26.out, nM, NM.out⟩ Dr26.out).mono ?_
            rintro e w27 ⟨rfl, b⟩
            clear xBB0 xBB1 ICS
            have B27 := Lib.hid (B26.out.trans (b.mono B26.out.size))
            have Dr27 := Lib.hid (Dr26.out.below b)
            have OL27 := Lib.hid (own_below OL26.out b)
            have OM27 := Lib.hid (own_below OM26.out b)
            have BM27 := Lib.hid (BM26.out.below b BM26.out.lt)
            have OR27 := Lib.hid (own_below OR26.out b)
            have BR27 := Lib.hid (BR26.out.below b BR26.out.lt)
            have BB27 := Lib.hid (BB26.out.below b BB26.out.lt)
            have BU27 := Lib.hid (BU26.out.below b BU26.out.lt)
            have OU27 := Lib.hid (own_below OU26.out b)
            clear b B26 Dr26 OL26 OM26 BM26 OR26 BR26 BB26 BU26 OU26
            have hq := HQ.out
            go_wp2_with fail
            go_ret
            exact ⟨rfl, B27.out⟩
        · skip
          clear HTF
          obtain ⟨xBB0, xBB1⟩ := cells_2 BB24.out
          go_wp2_with fail
          refine (ICS.out _ ⟨Reads.of_own OL24.out, nL, NL.out⟩ ⟨Reads.of_own OM24.out, nM, NM.out⟩ Dr24.out).mono ?_
          rintro e w25 ⟨rfl, b⟩
          clear xBB0 xBB1 ICS
          have B25 := Lib.hid (B24.out.trans (b.mono B24.out.size))
          have Dr25 := Lib.hid (Dr24.out.below b)
          have OL25 := Lib.hid (own_below OL24.out b)
          have OM25 := Lib.hid (own_below OM24.out b)
          have BM25 := Lib.hid (BM24.out.below b BM24.out.lt)
          have OR25 := Lib.hid (own_below OR24.out b)
          have BR25 := Lib.hid (BR24.out.below b BR24.out.lt)
          have BB25 := Lib.hid (BB24.out.below b BB24.out.lt)
          clear b B24 Dr24 OL24 OM24 BM24 OR24 BR24 BB24
          have hq := HQ.out
          go_wp2_with fail
          go_ret
          exact ⟨rfl, B25.out⟩
      · have hp : 0 < pn := by simpa using hcb
        have hq : (ct == (M.length : Int)) = true := hcb2.symm
        have HQ := Lib.hid hq
        clear hcb hcb2 hq
        obtain ⟨xBR0, xBR1, xBR2, xBR3, xBR4⟩ := cells_5 BR23.out
        go_wp2_with fail
        refine (CN.out _ (Reads.of_own OR23.out)).mono ?_
        rintro e w24 ⟨rfl, b⟩
        clear xBR0 xBR1 xBR2 xBR3 xBR4 CN
        have B24 := Lib.hid (B23.out.trans (b.mono B23.out.size))
        have Dr24 := Lib.hid (Dr23.out.below b)
        have OL24 := Lib.hid (own_below OL23.out b)
        have OM24 := Lib.hid (own_below OM23.out b)
        have BM24 := Lib.hid (BM23.out.below b BM23.out.lt)
        have OR24 := Lib.hid (own_below OR23.out b)
        have BR24 := Lib.hid (BR23.out.below b BR23.out.lt)
        have BB24 := Lib.hid (BB23.out.below b BB23.out.lt)
        clear b B23 Dr23 OL23 OM23 BM23 OR23 BR23 BB23
        by_cases hM0 : (0 : Int) < (M.length : Int)
        · skip
          obtain ⟨db, dof, rfl, hdb, _⟩ := (Reads.of_own OM24.out).2 (by omega)
          obtain ⟨d0, T, hMT⟩ : ∃ d0 T, M = d0 :: T := by cases M with | nil => simp at hM0 | cons d0 T => exact ⟨d0, T, rfl⟩
          obtain ⟨ux, uy, uW, uH, ul, hRT, hmu, hqn⟩ := HTF.out T d0 hMT (by first | rfl | trivial)
          rw [HPN.out] at hqn
          obtain ⟨qn, hqn2⟩ : ∃ p, cntM ul = p := ⟨_, rfl⟩
          rw [hqn2] at hqn
          have CU := Lib.hid (fun A' c' W' h => countP_any ux uy uW uH A' c' ul hmu W' h)
          unfold maskV at CU
          rw [hqn2] at CU
          obtain ⟨off3, hoff⟩ : ∃ o, o = (if dm = 1 then dof else dof + 6) := ⟨_, rfl⟩
          have hTl : T.length = M.length - 1 := by rw [hMT]; simp
          have IRT := Lib.hid (fun W' (h1 : HasSit W' L Bq) (h2 : HasDsc W' M (some ⟨db, dof, none⟩)) (h3 : Dirs W') => (show Calls Tryz.prog 25 #[.slice Bq L.length dq, .slice (some ⟨db, off3, none⟩) (M.length - 1) (dm - 1), .agg #[.int .i64 x, .int .i64 y, .int .i64 W, .int .i64 H, .slice Bk K.length dk]] W' (fun e w' => ∃ v, e = .returned (.tuple #[.agg #[.int .i64 ux, .int .i64 uy, .int .i64 uW, .int .i64 uH, v], .int .i64 0]) ∧ w'.ownsRow W'.heap.size 4 1 v ul.length (bC ul) ∧ Below W'.heap.size W' w') from by
            have h4 := has_tail hMT h2 HDM.out
            rw [← hoff] at h4
            have := implRegOf_any L T x y W H Bq (some ⟨db, off3, none⟩) Bk dq (dm - 1) K.length dk nK W' h1 h4 h3
            rw [hRT, hTl] at this
            exact this))
          obtain ⟨i6, hi6, hs6⟩ : ∃ i, Tryz.prog.info? 79 = some i ∧ i.size = 6 := by
            have h := infoDz
            cases hc : Tryz.prog.info? 79 with
            | none => rw [hc] at h; cases h
            | some i => rw [hc] at h; exact ⟨i, rfl, by simpa using h⟩
          have hdm : dm ≤ 9223372036854775807 := by
            rcases OM24.out.2 with ⟨e, _⟩ | ⟨_, _, _, e, _, _, _, h, _⟩
            · cases e
            · injection e with _ _ e; subst e; exact h
          have HSL := Lib.hid (fun W' => (show (Instr.sliceAt 37 (.slice (some ⟨db, dof, none⟩) M.length dm) (some (.int .i64 1)) none none).run Tryz.prog W' = .ok (.slice (some ⟨db, off3, none⟩) (M.length - 1) (dm - 1)) W' from by rw [hoff]; exact run_tail (P := Tryz.prog) W' 37 79 i6 6 Tryz.underlying37 hi6 hs6 db dof M.length dm (by omega) HDM.out hdm))
          clear hRT hmu hqn2 hoff hTl hi6 hs6 hdm hMT
          obtain ⟨xBM0, xBM1, xBM2, xBM3, xBM4⟩ := cells_5 BM24.out
          go_upto_region 27 with (fail)
          have hM1 : 0 < M.length := by omega
          try simp only [show decide (0 < M.length) = true from decide_eq_true hM1]
          clear hM1
          refine' wp_region_dep (OverW w24) (KeepO w24 40 4 ux uy uW uH ul.length (bC ul)) [slotP 0 (isV (.slice Bq L.length dq)), slotP 1 (isV (.slice (some ⟨db, dof, none⟩) M.length dm)), slotP 2 (isV (.slice (some ⟨db, off3, none⟩) (M.length - 1) (dm - 1))), slotP 3 (isV (.agg #[.int .i64 x, .int .i64 y, .int .i64 W, .int .i64 H, .slice Bk K.length dk])), slotP 4 (isRegT w24 4 ux uy uW uH 0 ul.length (bC ul)), slotP 5 (isRegT w24 4 ux uy uW uH 0 ul.length (bC ul)), slotP 6 (isRegA w24 4 ux uy uW uH ul.length (bC ul)), slotP 7 (isV (.int .i64 0)), slotP 8 (isBoxS w24 40 5), storedO w24 8 40 4 ux uy uW uH ul.length (bC ul)] mixed (by kernel_rfl) (by kernel_rfl) (OverW.drew (Below.refl _ _)) ?_ _ _ ?_ ?_ ?_
          · exact AllStableD.cons (slotP_stable 0 (keepO_V _)) (AllStableD.cons (slotP_stable 1 (keepO_V _)) (AllStableD.cons (slotP_stable 2 (keepO_V _)) (AllStableD.cons (slotP_stable 3 (keepO_V _)) (AllStableD.cons (slotP_stable 4 (keepO_regT (by decide) _)) (AllStableD.cons (slotP_stable 5 (keepO_regT (by decide) _)) (AllStableD.cons (slotP_stable 6 (keepO_regA (by decide))) (AllStableD.cons (slotP_stable 7 (keepO_V _)) (AllStableD.cons (slotP_stable 8 (keepO_box)) (AllStableD.cons (keepO_stored (by decide) _) (AllStableD.nil))))))))))
          rotate_left 2
          · intro f; simp only [lay, List.setIfInBounds_toArray, List.set_cons_succ, List.set_cons_zero, Nat.reduceAdd]; exact rfl
          · refine AllToD.cons ?_ (slotP_local _ _ _) ?_
            · intro f w25 hS hT K hK
              simp only [Act.put, List.setIfInBounds_toArray, List.set_cons_succ, List.set_cons_zero] at hK
              go_simp
              exact hK.out _ _ (slotP_at (rfl)) hS (Or.inl (keep_refl _))
            refine AllToD.cons ?_ (slotP_local _ _ _) ?_
            · intro f w25 hS hT K hK
              simp only [Act.put, List.setIfInBounds_toArray, List.set_cons_succ, List.set_cons_zero] at hK
              go_simp
              exact hK.out _ _ (slotP_at (rfl)) hS (Or.inl (keep_refl _))
            refine AllToD.cons ?_ (slotP_local _ _ _) ?_
            · intro f w25 hS hT K hK
              have e1 := hT 1 _ rfl rfl
              dsimp only [slotP, isV] at e1
              have hsl := HSL.out
              simp only [Act.put, List.setIfInBounds_toArray, List.set_cons_succ, List.set_cons_zero, e1] at hK
              go_simp
              exact hK.out _ _ (slotP_at (rfl)) hS (Or.inl (keep_refl _))
            refine AllToD.cons ?_ (slotP_local _ _ _) ?_
            · intro f w25 hS hT K hK
              have hb5 := BM24.out.below (show Below w24.heap.size w24 w25 from hS) BM24.out.lt
              obtain ⟨hc0, hc1, hc2, hc3, hc4⟩ := cells_5 hb5
              clear hb5
              simp only [Act.put, List.setIfInBounds_toArray, List.set_cons_succ, List.set_cons_zero] at hK
              go_simp
              exact hK.out _ _ (slotP_at (rfl)) hS (Or.inl (keep_refl _))
            refine AllToD.cons ?_ (slotP_local _ _ _) ?_
            · intro f w25 hS hT K hK
              have e0 := hT 0 _ rfl rfl
              dsimp only [slotP, isV] at e0
              have e2 := hT 2 _ rfl rfl
              dsimp only [slotP, isV] at e2
              have e3 := hT 3 _ rfl rfl
              dsimp only [slotP, isV] at e3
              simp only [Act.put, List.setIfInBounds_toArray, List.set_cons_succ, List.set_cons_zero, e0, e2, e3] at hK
              go_simp
              refine (IRT.out w25 ⟨Reads.of_own (own_below OL24.out (show Below w24.heap.size w24 w25 from hS)), nL, NL.out⟩ ⟨Reads.of_own (own_below OM24.out (show Below w24.heap.size w24 w25 from hS)), nM, NM.out⟩ (Dr24.out.below (show Below w24.heap.size w24 w25 from hS))).mono ?_
              rintro e w1 ⟨vv, rfl, oo, b1⟩
              exact hK.out _ _ (slotP_at (⟨vv, rfl, own_mono oo hS.size⟩)) (hS.go b1) (Or.inl b1)
            refine AllToD.cons ?_ (slotP_local _ _ _) ?_
            · intro f w25 hS hT K hK
              obtain ⟨v4, e4, o4⟩ := hT 4 _ rfl rfl
              simp only [Act.put, List.setIfInBounds_toArray, List.set_cons_succ, List.set_cons_zero, e4] at hK
              go_simp
              exact hK.out _ _ (slotP_at (⟨v4, rfl, o4⟩)) hS (Or.inl (keep_refl _))
            refine AllToD.cons ?_ (slotP_local _ _ _) ?_
            · intro f w25 hS hT K hK
              obtain ⟨v5, e5, o5⟩ := hT 5 _ rfl rfl
              simp only [Act.put, List.setIfInBounds_toArray, List.set_cons_succ, List.set_cons_zero, e5] at hK
              go_simp
              exact hK.out _ _ (slotP_at (⟨v5, rfl, o5⟩)) hS (Or.inl (keep_refl _))
            refine AllToD.cons ?_ (slotP_local _ _ _) ?_
            · intro f w25 hS hT K hK
              obtain ⟨v5, e5, o5⟩ := hT 5 _ rfl rfl
              simp only [Act.put, List.setIfInBounds_toArray, List.set_cons_succ, List.set_cons_zero, e5] at hK
              go_simp
              exact hK.out _ _ (slotP_at (rfl)) hS (Or.inl (keep_refl _))
            refine AllToD.cons ?_ (slotP_local _ _ _) ?_
            · intro f w25 hS hT K hK
              simp only [Act.put, List.setIfInBounds_toArray, List.set_cons_succ, List.set_cons_zero] at hK
              go_simp
              exact hK.out _ _ (slotP_at (⟨w25.heap.size, _, rfl, hS.size, rfl, Blk.new _ _ _⟩)) (hS.new _) (Or.inl (keep_new _ _))
            refine AllToD.cons ?_ (storedO_local (by kernel_rfl)) ?_
            · intro f w25 hS hT K hK
              obtain ⟨b8, ds8, e8, hb8, hn8, hk8⟩ := hT 8 _ rfl rfl
              obtain ⟨v6, e6, o6⟩ := hT 6 _ rfl rfl
              simp only [Act.put, List.setIfInBounds_toArray, List.set_cons_succ, List.set_cons_zero, e8, e6] at hK
              obtain ⟨z0, z1, z2, z3, z4, rfl⟩ := arr_5 hn8
              obtain ⟨ff0, ff1, ff2, ff3, ff4, ff5, ff6, ff7, ff8, ff9, ff10, ff11, ff12, ff13, ff14⟩ := facts_5 hk8
              obtain ⟨Ax, cq, hvx, _⟩ := own_shape o6
              subst hvx
              go_simp
              exact hK.out (.bool true) _ ⟨b8, _, by rw [upd_ne _ _ (by decide)]; exact e8, hb8, blkS5 hk8 _ _ _ _ _, ownS5 hk8 (by decide) o6 _ _ _ _ _⟩ (below_5 hS hb8 _ _ _ _ _) (Or.inr (storeO_5 (by decide) hk8 o6))
            exact AllToD.nil
          · intro f w25 hS hT K hK
            have e2 := hT 7 _ rfl
            dsimp only [slotP, isV] at e2
            obtain ⟨rb, vr, e8, hrb, hkr, hor⟩ := hT 9 _ rfl
            go_simp
            refine hK.out _ _ ?_
            clear hT hK K
            (try simp only [e2, e8])
            clear e2 e8 IRT HSL
            obtain ⟨Au, cu, rfl, _⟩ := own_shape hor
            have b : Below w24.heap.size w24 w25 := hS
            clear hS xBM0 xBM1 xBM2 xBM3 xBM4
            have B25 := Lib.hid (B24.out.trans (b.mono B24.out.size))
            have Dr25 := Lib.hid (Dr24.out.below b)
            have OL25 := Lib.hid (own_below OL24.out b)
            have OM25 := Lib.hid (own_below OM24.out b)
            have BM25 := Lib.hid (BM24.out.below b BM24.out.lt)
            have OR25 := Lib.hid (own_below OR24.out b)
            have BR25 := Lib.hid (BR24.out.below b BR24.out.lt)
            have BB25 := Lib.hid (BB24.out.below b BB24.out.lt)
            have BU25 := Lib.hid (hkr)
            have OU25 := Lib.hid (hor)
            clear b B24 Dr24 OL24 OM24 BM24 OR24 BR24 BB24
            clear hkr hor
            obtain ⟨xBU0, xBU1, xBU2, xBU3, xBU4⟩ := cells_5 BU25.out
            go_wp2_with fail
            refine (CU.out Au cu _ (Reads.of_own OU25.out)).mono ?_
            rintro e w26 ⟨rfl, b⟩
            clear xBU0 xBU1 xBU2 xBU3 xBU4 CU
            have B26 := Lib.hid (B25.out.trans (b.mono B25.out.size))
            have Dr26 := Lib.hid (Dr25.out.below b)
            have OL26 := Lib.hid (own_below OL25.out b)
            have OM26 := Lib.hid (own_below OM25.out b)
            have BM26 := Lib.hid (BM25.out.below b BM25.out.lt)
            have OR26 := Lib.hid (own_below OR25.out b)
            have BR26 := Lib.hid (BR25.out.below b BR25.out.lt)
            have BB26 := Lib.hid (BB25.out.below b BB25.out.lt)
            have BU26 := Lib.hid (BU25.out.below b BU25.out.lt)
            have OU26 := Lib.hid (own_below OU25.out b)
            clear b B25 Dr25 OL25 OM25 BM25 OR25 BR25 BB25 BU25 OU25
            clear HTF
            obtain ⟨xBB0, xBB1⟩ := cells_2 BB26.out
            go_wp2_with fail
            refine (ICS.out _ ⟨Reads.of_own OL26.out, nL, NL.out⟩ ⟨Reads.of_own OM26.out, nM, NM.out⟩ Dr26.out).mono ?_
            rintro e w27 ⟨rfl, b⟩
            clear xBB0 xBB1 ICS
            have B27 := Lib.hid (B26.out.trans (b.mono B26.out.size))
            have Dr27 := Lib.hid (Dr26.out.below b)
            have OL27 := Lib.hid (own_below OL26.out b)
            have OM27 := Lib.hid (own_below OM26.out b)
            have BM27 := Lib.hid (BM26.out.below b BM26.out.lt)
            have OR27 := Lib.hid (own_below OR26.out b)
            have BR27 := Lib.hid (BR26.out.below b BR26.out.lt)
            have BB27 := Lib.hid (BB26.out.below b BB26.out.lt)
            have BU27 := Lib.hid (BU26.out.below b BU26.out.lt)
            have OU27 := Lib.hid (own_below OU26.out b)
            clear b B26 Dr26 OL26 OM26 BM26 OR26 BR26 BB26 BU26 OU26
            have hq := HQ.out
            go_wp2_with fail
            go_ret
            exact ⟨rfl, B27.out⟩
        · skip
          clear HTF
          obtain ⟨xBB0, xBB1⟩ := cells_2 BB24.out
          go_wp2_with fail
          refine (ICS.out _ ⟨Reads.of_own OL24.out, nL, NL.out⟩ ⟨Reads.of_own OM24.out, nM, NM.out⟩ Dr24.out).mono ?_
          rintro e w25 ⟨rfl, b⟩
          clear xBB0 xBB1 ICS
          have B25 := Lib.hid (B24.out.trans (b.mono B24.out.size))
          have Dr25 := Lib.hid (Dr24.out.below b)
          have OL25 := Lib.hid (own_below OL24.out b)
          have OM25 := Lib.hid (own_below OM24.out b)
          have BM25 := Lib.hid (BM24.out.below b BM24.out.lt)
          have OR25 := Lib.hid (own_below OR24.out b)
          have BR25 := Lib.hid (BR24.out.below b BR24.out.lt)
          have BB25 := Lib.hid (BB24.out.below b BB24.out.lt)
          clear b B24 Dr24 OL24 OM24 BM24 OR24 BR24 BB24
          have hq := HQ.out
          go_wp2_with fail
          go_ret
          exact ⟨rfl, B25.out⟩
end Go.Proofs.YtaaioengebaebaaGreatDoor
