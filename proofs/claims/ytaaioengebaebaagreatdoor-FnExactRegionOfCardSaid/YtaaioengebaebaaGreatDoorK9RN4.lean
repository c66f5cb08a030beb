/- AreCompatible of both sides. -/
import Derived.Test.YtaaioengebaebaaGreatDoorRows
import Derived.Test.YtaaioengebaebaaGreatDoorK9GA
import Derived.WalkKit
import Derived.ProofKit
import Derived.OpenShut
import Derived.BigQuiet
import Derived.Outline
import Derived.WalkSpells
import Derived.WalkLawsBesides
import Derived.Deep.DeepCutAuto
import Derived.Test.YtaaioengebaebaaGreatDoorK9RN3
namespace Go.Proofs.YtaaioengebaebaaGreatDoor
open Go.ChangeShapes Go.WideShapes Go.ChangeAt Go.RowKit Go.Sort

theorem regB_len (xs : List Sit) (ds : List Dsc) (x y W : Int) (n : Nat) : (regB xs ds x y W n).length = n := by simp [regB]
/-- Whether one place satisfies all descriptions, and the code. -/
def compP (xs : List Sit) (ds : List Dsc) (x y W H : Int) (n : Nat) : Bool × Int :=
  if codeS xs ds (maskB x y W H n) = 0 then (decide (0 < cntM (regB xs ds x y W n)), 0) else (false, codeS xs ds (maskB x y W H n))
set_option maxRecDepth 100000 in
set_option maxHeartbeats 2000000 in
theorem specCompat_any (xs : List Sit) (ds : List Dsc) (x y W H : Int) (A B Am : Option Addr) (c d n cm : Nat) (hn : n ≤ 9223372036854775807) (w : World) (h : HasSit w xs A) (h2 : HasDsc w ds B) :
    Calls Tryz.prog 20 #[.slice A xs.length c, .slice B ds.length d, maskV x y W H Am n cm] w fun e w' => e = .returned (.tuple #[.bool (compP xs ds x y W H n).1, .int .i64 (compP xs ds x y W H n).2]) ∧ Below w.heap.size w w' := by
  have CB := Lib.hid (fun W' (hb : Below w.heap.size w W') => specBox_any xs ds x y W H A B Am c d n cm hn W' (h.below hb) (h2.below hb))
  have HV := Lib.hid (show compP xs ds x y W H n = if codeS xs ds (maskB x y W H n) = 0 then (decide (0 < cntM (regB xs ds x y W n)), 0) else (false, codeS xs ds (maskB x y W H n)) from rfl)
  have KN := Lib.hid (blks_one w 40 #[.int .i64 x, .int .i64 y, .int .i64 W, .int .i64 H, .slice Am n cm])
  generalize compP xs ds x y W H n = r at HV ⊢
  by_cases hz : codeS xs ds (maskB x y W H n) = 0
  rotate_left
  · rw [if_neg hz] at HV
    generalize codeS xs ds (maskB x y W H n) = code at hz CB HV
    have hz1 : (code != 0) = true := by simpa using hz
    clear hz h h2
    unfold maskV at CB ⊢
    go_enter Tryz.func20, Tryz.ntmps20
    go_wp2_with fail
    generalize hW : w.alloc (.cells #[.int .i64 x, .int .i64 y, .int .i64 W, .int .i64 H, .slice Am n cm] 40) = W0
    obtain ⟨km, bw, _⟩ := KN.out W0 hW.symm
    have KM := Lib.hid km; have BB := Lib.hid bw
    clear hW km bw KN
    obtain ⟨m0, m1, m2, m3, m4⟩ := cells_5 KM.out
    refine (CB.out W0 BB.out).mono ?_; rintro e w2 ⟨rfl, b2⟩
    have KM2 := Lib.hid (KM.out.below b2 KM.out.lt); have B2 := Lib.hid (BB.out.trans (b2.mono BB.out.size))
    clear m0 m1 m2 m3 m4 b2 KM BB
    go_wp2_with fail
    go_ret2
    exact ⟨by rw [HV.out]; rfl, B2.out⟩
  obtain ⟨hm, hz2⟩ := codeS_mask hz
  rw [if_pos hz] at HV
  rw [hz] at CB
  obtain ⟨_, _, _, _, _, _, _, _, hn6, _, _, _⟩ := mask_bd hm
  have CR := Lib.hid (fun W' (hb : Below w.heap.size w W') => specReg_any xs ds hz2 x y W H A B Am c d n cm hm W' (h.below hb) (h2.below hb))
  have HL := regB_len xs ds x y W n
  have CC := Lib.hid (fun g W' (hk : Blk W' g 4 (bC (regB xs ds x y W n)).toArray) => specCountM x y W H (some ⟨g, 0, none⟩) (regB xs ds x y W n).length (regB xs ds x y W n) (by rw [HL]; exact hn6) W' (blk_rd hk (bC_len _)))
  rw [HL] at CC
  clear h h2 hz hz2 hm HL
  generalize cntM (regB xs ds x y W n) = q at CC HV
  unfold maskV at CB CR CC ⊢
  go_enter Tryz.func20, Tryz.ntmps20
  go_wp2_with fail
  generalize hW : w.alloc (.cells #[.int .i64 x, .int .i64 y, .int .i64 W, .int .i64 H, .slice Am n cm] 40) = W0
  obtain ⟨km, bw, _⟩ := KN.out W0 hW.symm
  have KM := Lib.hid km; have BB := Lib.hid bw
  clear hW km bw KN
  obtain ⟨m0, m1, m2, m3, m4⟩ := cells_5 KM.out
  refine (CB.out W0 BB.out).mono ?_; rintro e w2 ⟨rfl, b2⟩
  have KM2 := Lib.hid (KM.out.below b2 KM.out.lt); have B2 := Lib.hid (BB.out.trans (b2.mono BB.out.size))
  clear m0 m1 m2 m3 m4 b2 KM BB
  obtain ⟨m0, m1, m2, m3, m4⟩ := cells_5 KM2.out
  go_wp2_with fail
  refine (CR.out w2 B2.out).mono ?_; rintro e w3 ⟨g, rfl, _, hk, b3⟩
  have B3 := Lib.hid (B2.out.trans (b3.mono B2.out.size)); have HK := Lib.hid hk
  clear b3 hk m0 m1 m2 m3 m4
  go_wp2_with fail
  refine (CC.out g w3 HK.out).mono ?_; rintro e w4 ⟨rfl, b4⟩
  have B4 := Lib.hid (B3.out.trans (b4.mono B3.out.size))
  clear b4
  go_wp2_with fail
  go_ret2
  exact ⟨by rw [HV.out]; rfl, B4.out⟩
set_option maxRecDepth 100000 in
set_option maxHeartbeats 2000000 in
theorem implCompat_any (xs : List Sit) (ds : List Dsc) (x y W H : Int) (A B Am : Option Addr) (c d n cm : Nat) (hn : n ≤ 9223372036854775807) (w : World) (h : HasSit w xs A) (h2 : HasDsc w ds B) (hdir : Dirs w) :
    Calls Tryz.prog 21 #[.slice A xs.length c, .slice B ds.length d, maskV x y W H Am n cm] w fun e w' => e = .returned (.tuple #[.bool (compP xs ds x y W H n).1, .int .i64 (compP xs ds x y W H n).2]) ∧ Below w.heap.size w w' := by
  have CM := Lib.hid (implMask x y W H Am n cm hn)
  have CB := Lib.hid (fun W' (hb : Below w.heap.size w W') => implCodeS_any xs ds (maskB x y W H n) A B c d W' (h.below hb) (h2.below hb) (hdir.below hb))
  have HV := Lib.hid (show compP xs ds x y W H n = if codeS xs ds (maskB x y W H n) = 0 then (decide (0 < cntM (regB xs ds x y W n)), 0) else (false, codeS xs ds (maskB x y W H n)) from rfl)
  have KN := Lib.hid (blks_one w 40 #[.int .i64 x, .int .i64 y, .int .i64 W, .int .i64 H, .slice Am n cm])
  generalize compP xs ds x y W H n = r at HV ⊢
  by_cases hz : codeS xs ds (maskB x y W H n) = 0
  rotate_left
  · rw [if_neg hz] at HV
    generalize codeS xs ds (maskB x y W H n) = code at hz CB HV
    have hz1 : (code != 0) = true := by simpa using hz
    clear hz h h2 hdir
    generalize maskB x y W H n = mb at CM CB
    unfold maskV at CM ⊢
    go_enter Tryz.func21, Tryz.ntmps21
    go_wp2_with fail
    generalize hW : w.alloc (.cells #[.int .i64 x, .int .i64 y, .int .i64 W, .int .i64 H, .slice Am n cm] 40) = W0
    obtain ⟨km, bw, _⟩ := KN.out W0 hW.symm
    have KM := Lib.hid km; have BB := Lib.hid bw
    clear hW km bw KN
    obtain ⟨m0, m1, m2, m3, m4⟩ := cells_5 KM.out
    refine (CM.out W0).mono ?_; rintro e w1 ⟨rfl, b1⟩
    have KM1 := Lib.hid (KM.out.below b1 KM.out.lt); have B1 := Lib.hid (BB.out.trans (b1.mono BB.out.size))
    clear m0 m1 m2 m3 m4 b1 KM BB
    go_wp2_with fail
    refine (CB.out w1 B1.out).mono ?_; rintro e w2 ⟨rfl, b2⟩
    have KM2 := Lib.hid (KM1.out.below b2 KM1.out.lt); have B2 := Lib.hid (B1.out.trans (b2.mono B1.out.size))
    clear b2 KM1 B1
    go_wp2_with fail
    go_ret2
    exact ⟨by rw [HV.out]; rfl, B2.out⟩
  obtain ⟨hm, hz2⟩ := codeS_mask hz
  rw [if_pos hz] at HV
  rw [hz] at CB
  rw [hm] at CM CB
  obtain ⟨_, _, _, _, _, _, _, _, hn6, _, _, _⟩ := mask_bd hm
  have CR := Lib.hid (fun W' (hb : Below w.heap.size w W') => implReg_any xs ds hz2 x y W H A B Am c d n cm hm W' (h.below hb) (h2.below hb))
  have HL := regB_len xs ds x y W n
  have CC := Lib.hid (fun g W' (hk : Blk W' g 4 (bC (regB xs ds x y W n)).toArray) => implCountM x y W H (some ⟨g, 0, none⟩) (regB xs ds x y W n).length (regB xs ds x y W n) (by rw [HL]; exact hn6) W' (blk_rd hk (bC_len _)))
  rw [HL] at CC
  clear h h2 hz hz2 hm HL hdir
  generalize cntM (regB xs ds x y W n) = q at CC HV
  unfold maskV at CM CR CC ⊢
  go_enter Tryz.func21, Tryz.ntmps21
  go_wp2_with fail
  generalize hW : w.alloc (.cells #[.int .i64 x, .int .i64 y, .int .i64 W, .int .i64 H, .slice Am n cm] 40) = W0
  obtain ⟨km, bw, _⟩ := KN.out W0 hW.symm
  have KM := Lib.hid km; have BB := Lib.hid bw
  clear hW km bw KN
  obtain ⟨m0, m1, m2, m3, m4⟩ := cells_5 KM.out
  refine (CM.out W0).mono ?_; rintro e w1 ⟨rfl, b1⟩
  have KM1 := Lib.hid (KM.out.below b1 KM.out.lt); have B1 := Lib.hid (BB.out.trans (b1.mono BB.out.size))
  clear m0 m1 m2 m3 m4 b1 KM BB
  go_wp2_with fail
  refine (CB.out w1 B1.out).mono ?_; rintro e w2 ⟨rfl, b2⟩
  have KM2 := Lib.hid (KM1.out.below b2 KM1.out.lt); have B2 := Lib.hid (B1.out.trans (b2.mono B1.out.size))
  clear b2 KM1 B1
  obtain ⟨m0, m1, m2, m3, m4⟩ := cells_5 KM2.out
  go_wp2_with fail
  refine (CR.out w2 B2.out).mono ?_; rintro e w3 ⟨g, rfl, _, hk, b3⟩
  have B3 := Lib.hid (B2.out.trans (b3.mono B2.out.size)); have HK := Lib.hid hk
  clear b3 hk m0 m1 m2 m3 m4
  go_wp2_with fail
  refine (CC.out g w3 HK.out).mono ?_; rintro e w4 ⟨rfl, b4⟩
  have B4 := Lib.hid (B3.out.trans (b4.mono B3.out.size))
  clear b4
  go_wp2_with fail
  go_ret2
  exact ⟨by rw [HV.out]; rfl, B4.out⟩
end Go.Proofs.YtaaioengebaebaaGreatDoor
