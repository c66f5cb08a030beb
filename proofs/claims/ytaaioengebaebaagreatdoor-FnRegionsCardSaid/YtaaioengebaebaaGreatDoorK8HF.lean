/- How many descriptions a point satisfies: CountSatisfied of both. -/
import Derived.Test.YtaaioengebaebaaGreatDoorRows
import Derived.Test.YtaaioengebaebaaGreatDoorK8GA
import Derived.WalkKit
import Derived.ProofKit
import Derived.OpenShut
import Derived.BigQuiet
import Derived.Outline
import Derived.WalkSpells
import Derived.WalkLawsBesides
import Derived.Deep.DeepCutAuto
import Derived.Test.YtaaioengebaebaaGreatDoorK8HE
namespace Go.Proofs.YtaaioengebaebaaGreatDoor
open Go.ChangeShapes Go.WideShapes Go.ChangeAt Go.RowKit Go.Sort

def cntTo (xs : List Sit) (ds : List Dsc) (px py : Int) : Nat → Int
  | 0 => 0
  | k + 1 => match ds[k]? with
    | some d => if satV xs d px py = true then cntTo xs ds px py k + 1 else cntTo xs ds px py k
    | none => cntTo xs ds px py k
theorem cntTo_at {xs : List Sit} {ds : List Dsc} {px py : Int} {k : Nat} (h : k < ds.length) : cntTo xs ds px py (k + 1) = if satV xs ds[k] px py = true then cntTo xs ds px py k + 1 else cntTo xs ds px py k := by
  rw [cntTo, List.getElem?_eq_getElem h]
theorem cntTo_bd (xs : List Sit) (ds : List Dsc) (px py : Int) : ∀ k, 0 ≤ cntTo xs ds px py k ∧ cntTo xs ds px py k ≤ k
  | 0 => by simp [cntTo]
  | k + 1 => by
    have := cntTo_bd xs ds px py k
    rw [cntTo]
    split
    · split <;> omega
    · omega
set_option maxRecDepth 100000 in
set_option maxHeartbeats 4000000 in
theorem specCnt_any (xs : List Sit) (ds : List Dsc) (hz : codeS xs ds true = 0) (px py : Int) (hp : Co px) (hq : Co py) (A B : Option Addr) (c e : Nat) (w : World) (h : HasSit w xs A) (h2 : HasDsc w ds B) :
    Calls Tryz.prog 45 #[.slice A xs.length c, .slice B ds.length e, .agg #[.int .i64 px, .int .i64 py]] w fun e w' => e = .returned (.int .i64 (cntTo xs ds px py ds.length)) ∧ Below w.heap.size w w' := by
  obtain ⟨ha, _, hd, h8⟩ := codeS_zero hz
  have HS := Lib.hid (fun d (hm : d ∈ ds) W (hb : Below w.heap.size w W) => specSat_any xs ha d (h2.2.2 d hm) (hd d hm).1 (hd d hm).2.1 (hd d hm).2.2 px py hp hq A c W (h.below hb))
  have HD := Lib.hid (fun W (hb : Below w.heap.size w W) => (h2.below hb).1)
  have KN := Lib.hid (blks_one w 32 #[.int .i64 px, .int .i64 py])
  clear hz ha hd h h2 hp hq
  go_enter Tryz.func45, Tryz.ntmps45
  go_upto_region 2 with (fail)
  generalize hW : w.alloc (.cells #[.int .i64 px, .int .i64 py] 32) = W
  obtain ⟨kp, bw, hsz⟩ := KN.out W hW.symm
  clear hW hsz
  have KP := Lib.hid kp; have BW0 := Lib.hid bw; clear kp bw
  have zp := KP.out.lt
  go_wp2_with fail
  go_loopw [7, 8] (fun v7 v8 wr => ∃ (k : Nat) (n : Int), k ≤ ds.length ∧ 0 ≤ n ∧ n ≤ k ∧ Hid (cntTo xs ds px py k = n) ∧ Hid (Below W.heap.size W wr) ∧ v7 = .int .i64 n ∧ v8 = .int .i64 k) (fun _ i _ => ds.length - (intOf i).toNat)
  case atStart => exact ⟨0, 0, by omega, by omega, by omega, rfl, Below.refl _ _, rfl, rfl⟩
  case round =>
    obtain ⟨k, n, hk, hn0, hn1, HN, BW, rfl, rfl⟩ := hrel
    have BB := Lib.hid (BW0.out.trans (BW.out.mono BW0.out.size))
    by_cases hlt : k < ds.length
    · obtain ⟨ab, ao, rfl, hadb, hcell⟩ := (HD.out wr BB.out).2 (by omega)
      obtain ⟨e0, e1, e2, e3, e4, e5⟩ := dsC_get ds k hlt
      have c0 := hcell _ _ e0
      have c1 := hcell _ _ e1
      have c2 := hcell _ _ e2
      have c3 := hcell _ _ e3
      have c4 := hcell _ _ e4
      have c5 := hcell _ _ e5
      rw [← Nat.add_assoc] at c1 c2 c3 c4 c5
      clear hcell e0 e1 e2 e3 e4 e5
      have HT := Lib.hid (cntTo_at (xs := xs) (px := px) (py := py) hlt)
      have HSk := Lib.hid (HS.out ds[k] (List.getElem_mem hlt))
      unfold Dsc.val at HSk
      generalize ds[k] = b at c0 c1 c2 c3 c4 c5 HT HSk
      go_upto_region 5 with (fail)
      have k0 := cell_regrown c0
      have k1 := cell_regrown c1
      have k2 := cell_regrown c2
      have k3 := cell_regrown c3
      have k4 := cell_regrown c4
      have k5 := cell_regrown c5
      obtain ⟨y0, y1⟩ := two_regrown (KP.out.below BW.out zp)
      clear c0 c1 c2 c3 c4 c5
      have z0 : (0 : Int) ≤ (k : Int) := by omega
      have z1 : (k : Int) < (ds.length : Int) := by omega
      generalize satV xs b px py = sb at HT HSk
      have r1 : ∀ e os, Calls Tryz.prog 80 #[.slice A xs.length c, .agg #[.int .i64 b.kind, .int .i64 b.count, .string b.unit, .int .i64 b.dir, .string b.a, .string b.b], .agg #[.int .i64 px, .int .i64 py]] (grow (redrawn wr e) os) (fun e w'' => e = .returned (.bool sb) ∧ ∃ p : Regrown, w'' = grow (redrawn wr p.d) p.os) := fun e os => Calls.regrown_of (HSk.out _ (BB.out.trans ((below_regrown wr e os).mono BB.out.size)))
      cases sb
      · have HV := Lib.hid (show cntTo xs ds px py (k + 1) = n by rw [HT.out, HN.out]; rfl)
        refine wp_region_quiet_below (by kernel_rfl) (by kernel_rfl) ?_; (repeat (first | go_big_quiet_step ((first | with_reducible exact r1 _ _)))); refine wpQuiet_nil ?_; intro _ hw'; obtain ⟨⟨dq, osq⟩, rfl⟩ := hw'
        have B2 := Lib.hid (BW.out.trans ((below_regrown wr dq osq).mono BW.out.size))
        generalize grow (redrawn wr dq) osq = w2 at B2 ⊢
        clear r1 k0 k1 k2 k3 k4 k5 y0 y1
        go_wp2_with fail
        go_roundw
        case rel => exact ⟨k + 1, n, by omega, by omega, by omega, HV.out, B2.out, rfl, by go_num⟩
        case measure => simp [intOf]; omega
      · have HV := Lib.hid (show cntTo xs ds px py (k + 1) = n + 1 by rw [HT.out, HN.out]; rfl)
        refine wp_region_quiet_below (by kernel_rfl) (by kernel_rfl) ?_; (repeat (first | go_big_quiet_step ((first | with_reducible exact r1 _ _)))); refine wpQuiet_nil ?_; intro _ hw'; obtain ⟨⟨dq, osq⟩, rfl⟩ := hw'
        have B2 := Lib.hid (BW.out.trans ((below_regrown wr dq osq).mono BW.out.size))
        generalize grow (redrawn wr dq) osq = w2 at B2 ⊢
        clear r1 k0 k1 k2 k3 k4 k5 y0 y1
        go_wp2_with fail
        go_roundw
        case rel => exact ⟨k + 1, n + 1, by omega, by omega, by omega, HV.out, B2.out, by go_num, by go_num⟩
        case measure => simp [intOf]; omega
    · obtain rfl : k = ds.length := by omega
      go_wp2_with fail
      go_ret
      exact ⟨ret_int HN.out.symm, BB.out⟩
set_option maxRecDepth 100000 in
set_option maxHeartbeats 4000000 in
theorem implCnt_any (xs : List Sit) (ds : List Dsc) (ok : Bool) (hz : codeS xs ds ok = 0) (px py : Int) (hp : Co px) (hq : Co py) (A B : Option Addr) (c e : Nat) (w : World) (h : HasSit w xs A) (h2 : HasDsc w ds B) :
    Calls Tryz.prog 54 #[.slice A xs.length c, .slice B ds.length e, .agg #[.int .i64 px, .int .i64 py]] w fun e w' => e = .returned (.int .i64 (cntTo xs ds px py ds.length)) ∧ Below w.heap.size w w' := by
  obtain ⟨ha, _, hd, h8⟩ := codeS_zero hz
  have HS := Lib.hid (fun d (hm : d ∈ ds) W (hb : Below w.heap.size w W) => implSat_any xs ha d (h2.2.2 d hm) (hd d hm).1 px py hp hq A c W (h.below hb))
  have HD := Lib.hid (fun W (hb : Below w.heap.size w W) => (h2.below hb).1)
  have KN := Lib.hid (blks_one w 32 #[.int .i64 px, .int .i64 py])
  clear hz ha hd h h2 hp hq
  go_enter Tryz.func54, Tryz.ntmps54
  go_upto_region 2 with (fail)
  generalize hW : w.alloc (.cells #[.int .i64 px, .int .i64 py] 32) = W
  obtain ⟨kp, bw, hsz⟩ := KN.out W hW.symm
  clear hW hsz
  have KP := Lib.hid kp; have BW0 := Lib.hid bw; clear kp bw
  have zp := KP.out.lt
  go_wp2_with fail
  go_loopw [7, 12] (fun v7 v12 wr => ∃ (k : Nat) (n : Int), k ≤ ds.length ∧ 0 ≤ n ∧ n ≤ k ∧ Hid (cntTo xs ds px py k = n) ∧ Hid (Below W.heap.size W wr) ∧ v7 = .int .i64 n ∧ v12 = .int .i64 k) (fun _ i _ => ds.length - (intOf i).toNat)
  case atStart => exact ⟨0, 0, by omega, by omega, by omega, rfl, Below.refl _ _, rfl, rfl⟩
  case round =>
    obtain ⟨k, n, hk, hn0, hn1, HN, BW, rfl, rfl⟩ := hrel
    have BB := Lib.hid (BW0.out.trans (BW.out.mono BW0.out.size))
    by_cases hlt : k < ds.length
    · obtain ⟨ab, ao, rfl, hadb, hcell⟩ := (HD.out wr BB.out).2 (by omega)
      obtain ⟨e0, e1, e2, e3, e4, e5⟩ := dsC_get ds k hlt
      have c0 := hcell _ _ e0
      have c1 := hcell _ _ e1
      have c2 := hcell _ _ e2
      have c3 := hcell _ _ e3
      have c4 := hcell _ _ e4
      have c5 := hcell _ _ e5
      rw [← Nat.add_assoc] at c1 c2 c3 c4 c5
      clear hcell e0 e1 e2 e3 e4 e5
      have HT := Lib.hid (cntTo_at (xs := xs) (px := px) (py := py) hlt)
      have HSk := Lib.hid (HS.out ds[k] (List.getElem_mem hlt))
      unfold Dsc.val at HSk
      generalize ds[k] = b at c0 c1 c2 c3 c4 c5 HT HSk
      have T3 := Lib.hid (blks_one wr 79 #[.int .i64 b.kind, .int .i64 b.count, .string b.unit, .int .i64 b.dir, .string b.a, .string b.b])
      go_upto_region 5 with (fail)
      generalize hW : wr.alloc (.cells #[.int .i64 b.kind, .int .i64 b.count, .string b.unit, .int .i64 b.dir, .string b.a, .string b.b] 79) = W1
      obtain ⟨kb, bw, hsz⟩ := T3.out W1 hW.symm
      clear hW hsz c0 c1 c2 c3 c4 c5
      obtain ⟨x0, x1, x2, x3, x4, x5⟩ := cells_6 kb
      have B1 := Lib.hid (BW.out.trans (bw.mono BW.out.size)); clear kb bw
      have BB1 := Lib.hid (BW0.out.trans (B1.out.mono BW0.out.size))
      obtain ⟨y0, y1⟩ := cells_2 (KP.out.below B1.out zp)
      generalize satV xs b px py = sb at HT HSk
      cases sb
      · have HV := Lib.hid (show cntTo xs ds px py (k + 1) = n by rw [HT.out, HN.out]; rfl)
        go_wp2_with fail
        refine (HSk.out W1 BB1.out).mono ?_; rintro e w2 ⟨rfl, b2⟩
        have B2 := Lib.hid (B1.out.trans (b2.mono B1.out.size)); clear b2 x0 x1 x2 x3 x4 x5 y0 y1
        go_wp2_with fail
        go_roundw
        case rel => exact ⟨k + 1, n, by omega, by omega, by omega, HV.out, B2.out, rfl, by go_num⟩
        case measure => simp [intOf]; omega
      · have HV := Lib.hid (show cntTo xs ds px py (k + 1) = n + 1 by rw [HT.out, HN.out]; rfl)
        go_wp2_with fail
        refine (HSk.out W1 BB1.out).mono ?_; rintro e w2 ⟨rfl, b2⟩
        have B2 := Lib.hid (B1.out.trans (b2.mono B1.out.size)); clear b2 x0 x1 x2 x3 x4 x5 y0 y1
        go_wp2_with fail
        go_roundw
        case rel => exact ⟨k + 1, n + 1, by omega, by omega, by omega, HV.out, B2.out, by go_num, by go_num⟩
        case measure => simp [intOf]; omega
    · obtain rfl : k = ds.length := by omega
      go_wp2_with fail
      go_ret
      exact ⟨ret_int HN.out.symm, BB.out⟩
/-- What CountSatisfied returns. -/
def cntT (xs : List Sit) (ds : List Dsc) (px py : Int) : Int × Int := if codeS xs ds (ptB px py) = 0 then (cntTo xs ds px py ds.length, 0) else (0, codeS xs ds (ptB px py))
set_option maxRecDepth 100000 in
set_option maxHeartbeats 4000000 in
theorem implCntS_any (xs : List Sit) (ds : List Dsc) (px py : Int) (A B : Option Addr) (c e : Nat) (w : World) (h : HasSit w xs A) (h2 : HasDsc w ds B) (hdir : Dirs w) :
    Calls Tryz.prog 40 #[.slice A xs.length c, .slice B ds.length e, .agg #[.int .i64 px, .int .i64 py]] w fun e w' => e = .returned (.tuple #[.int .i64 (cntT xs ds px py).1, .int .i64 (cntT xs ds px py).2]) ∧ Below w.heap.size w w' := by
  have HP := Lib.hid (implPt_any px py)
  have HC := Lib.hid (fun W (hb : Below w.heap.size w W) => implCodeS_any xs ds (ptB px py) A B c e W (h.below hb) (h2.below hb) (hdir.below hb))
  have HX := Lib.hid (show cntT xs ds px py = if codeS xs ds (ptB px py) = 0 then (cntTo xs ds px py ds.length, 0) else (0, codeS xs ds (ptB px py)) from rfl)
  have HZ := Lib.hid (fun (hz : codeS xs ds (ptB px py) = 0) W (hb : Below w.heap.size w W) => implCnt_any xs ds _ hz px py (ptB_co (codeS_zero hz).2.1).1 (ptB_co (codeS_zero hz).2.1).2 A B c e W (h.below hb) (h2.below hb))
  have KN := Lib.hid (blks_one w 32 #[.int .i64 px, .int .i64 py])
  generalize cntT xs ds px py = r at HX ⊢
  clear h h2
  generalize cntTo xs ds px py ds.length = sv at *
  generalize codeS xs ds (ptB px py) = cz at *
  generalize ptB px py = pk at *
  by_cases hz : cz = 0
  · have HX2 := Lib.hid (show r = (sv, 0) by rw [HX.out, if_pos hz])
    have HZ3 := Lib.hid (HZ.out hz)
    subst hz
    clear HX HZ
    go_enter Tryz.func40, Tryz.ntmps40
    go_wp2_with fail
    generalize hW : w.alloc (.cells #[.int .i64 px, .int .i64 py] 32) = W
    obtain ⟨kp, bw, hsz⟩ := KN.out W hW.symm
    clear hW hsz
    refine (HP.out W).mono ?_; rintro e w1 ⟨rfl, b1⟩
    have KP := Lib.hid (kp.below b1 kp.lt); have B1 := Lib.hid (bw.trans (b1.mono bw.size)); clear kp bw b1
    go_wp2_with fail
    refine (HC.out w1 B1.out).mono ?_; rintro e w2 ⟨rfl, b2⟩
    obtain ⟨y0, y1⟩ := cells_2 (KP.out.below b2 KP.out.lt)
    have B2 := Lib.hid (B1.out.trans (b2.mono B1.out.size)); clear b2
    go_wp2_with fail
    refine (HZ3.out w2 B2.out).mono ?_; rintro e w3 ⟨rfl, b3⟩
    go_wp2_with fail
    go_ret2
    exact ⟨by rw [HX2.out]; first | done | rfl, B2.out.trans (b3.mono B2.out.size)⟩
  · have HX2 := Lib.hid (show r = (0, cz) by rw [HX.out, if_neg hz])
    have hne : (cz != 0) = true := by rw [bne_iff_ne]; exact hz
    clear hz HX HZ
    go_enter Tryz.func40, Tryz.ntmps40
    go_wp2_with fail
    generalize hW : w.alloc (.cells #[.int .i64 px, .int .i64 py] 32) = W
    obtain ⟨kp, bw, hsz⟩ := KN.out W hW.symm
    clear hW hsz
    refine (HP.out W).mono ?_; rintro e w1 ⟨rfl, b1⟩
    have B1 := Lib.hid (bw.trans (b1.mono bw.size)); clear kp bw b1
    go_wp2_with fail
    refine (HC.out w1 B1.out).mono ?_; rintro e w2 ⟨rfl, b2⟩
    go_wp2_with fail
    go_ret2
    exact ⟨by rw [HX2.out]; first | done | rfl, B1.out.trans (b2.mono B1.out.size)⟩
end Go.Proofs.YtaaioengebaebaaGreatDoor
