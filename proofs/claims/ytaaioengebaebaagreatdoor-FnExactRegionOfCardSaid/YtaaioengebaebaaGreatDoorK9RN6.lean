/- RegionOf of both sides. -/
import Derived.Test.YtaaioengebaebaaGreatDoorRows
import Derived.Test.YtaaioengebaebaaGreatDoorK9GA
import Derived.WalkKit
import Derived.ProofKit
import Derived.OpenShut
import Derived.BigQuiet
import Derived.Outline
import Derived.WalkSpells
import Derived.WalkLawsBesides
import Derived.Deep.DeepCutAuto
import Derived.Test.YtaaioengebaebaaGreatDoorK9RN4
import Derived.Test.YtaaioengebaebaaGreatDoorK9Q6
namespace Go.Proofs.YtaaioengebaebaaGreatDoor
open Go.ChangeShapes Go.WideShapes Go.ChangeAt Go.RowKit Go.Sort

/-- The mask of RegionOf, its cells, and the code. -/
def rgP (xs : List Sit) (ds : List Dsc) (x y W H : Int) (n : Nat) : Int × Int × Int × Int × List Bool × Int :=
  if codeS xs ds (maskB x y W H n) = 0 then (x, y, W, H, regB xs ds x y W n, 0) else (0, 0, 0, 0, [], codeS xs ds (maskB x y W H n))
set_option maxRecDepth 100000 in
set_option maxHeartbeats 2000000 in
theorem specRegOf_any (xs : List Sit) (ds : List Dsc) (x y W H : Int) (A B Am : Option Addr) (c d n cm : Nat) (hn : n ≤ 9223372036854775807) (w : World) (h : HasSit w xs A) (h2 : HasDsc w ds B) :
    Calls Tryz.prog 24 #[.slice A xs.length c, .slice B ds.length d, maskV x y W H Am n cm] w fun e w' => ∃ v, e = .returned (.tuple #[.agg #[.int .i64 (rgP xs ds x y W H n).1, .int .i64 (rgP xs ds x y W H n).2.1, .int .i64 (rgP xs ds x y W H n).2.2.1, .int .i64 (rgP xs ds x y W H n).2.2.2.1, v], .int .i64 (rgP xs ds x y W H n).2.2.2.2.2]) ∧ w'.ownsRow w.heap.size 4 1 v (rgP xs ds x y W H n).2.2.2.2.1.length (bC (rgP xs ds x y W H n).2.2.2.2.1) ∧ Below w.heap.size w w' := by
  have CB := Lib.hid (fun W' (hb : Below w.heap.size w W') => specBox_any xs ds x y W H A B Am c d n cm hn W' (h.below hb) (h2.below hb))
  have HV := Lib.hid (show rgP xs ds x y W H n = if codeS xs ds (maskB x y W H n) = 0 then (x, y, W, H, regB xs ds x y W n, 0) else (0, 0, 0, 0, [], codeS xs ds (maskB x y W H n)) from rfl)
  have KN := Lib.hid (blks_two w 40 40 #[.int .i64 x, .int .i64 y, .int .i64 W, .int .i64 H, .slice Am n cm] #[.int .i64 0, .int .i64 0, .int .i64 0, .int .i64 0, .slice none 0 0])
  generalize rgP xs ds x y W H n = r at HV ⊢
  by_cases hz : codeS xs ds (maskB x y W H n) = 0
  rotate_left
  · rw [if_neg hz] at HV
    generalize codeS xs ds (maskB x y W H n) = code at hz CB HV
    have hz1 : (code != 0) = true := by simpa using hz
    clear hz h h2
    unfold maskV at CB ⊢
    go_enter Tryz.func24, Tryz.ntmps24
    go_wp2_with fail
    generalize hW : (w.alloc (.cells #[.int .i64 x, .int .i64 y, .int .i64 W, .int .i64 H, .slice Am n cm] 40)).alloc (.cells #[.int .i64 0, .int .i64 0, .int .i64 0, .int .i64 0, .slice none 0 0] 40) = W0
    obtain ⟨km, kr, bw, _⟩ := KN.out W0 hW.symm
    have KM := Lib.hid km; have KR := Lib.hid kr; have BB := Lib.hid bw
    clear hW km kr bw KN
    obtain ⟨m0, m1, m2, m3, m4⟩ := cells_5 KM.out
    refine (CB.out W0 BB.out).mono ?_; rintro e w2 ⟨rfl, b2⟩
    have KM2 := Lib.hid (KM.out.below b2 KM.out.lt); have KR2 := Lib.hid (KR.out.below b2 KR.out.lt); have B2 := Lib.hid (BB.out.trans (b2.mono BB.out.size))
    clear m0 m1 m2 m3 m4 b2 KM KR BB
    obtain ⟨f0, f1, f2, f3, f4, f5, f6, f7, f8, f9, f10, f11, f12, f13, f14⟩ := facts_5 KR2.out
    go_wp2_with fail
    exact bodyPost_ret (v := .tuple #[.agg #[.int .i64 0, .int .i64 0, .int .i64 0, .int .i64 0, .slice none 0 0], .int .i64 code]) (by simp [results, Tryz.results24, go_sem, f10, f11, f12, f13, f14]) rfl ⟨.slice none 0 0, by rw [HV.out], by rw [HV.out]; exact World.ownsRow_nil _ _ _ _, below_5 B2.out (by omega) _ _ _ _ _⟩
  obtain ⟨hm, hz2⟩ := codeS_mask hz
  rw [if_pos hz] at HV
  rw [hz] at CB
  obtain ⟨_, _, _, _, _, _, _, _, hn6, _, _, _⟩ := mask_bd hm
  have CR := Lib.hid (fun W' (hb : Below w.heap.size w W') => specReg_any xs ds hz2 x y W H A B Am c d n cm hm W' (h.below hb) (h2.below hb))
  have HL := Lib.hid (regB_len xs ds x y W n)
  clear h h2 hz hz2 hm
  generalize regB xs ds x y W n = L at CR HV HL
  unfold maskV at CB CR ⊢
  go_enter Tryz.func24, Tryz.ntmps24
  go_wp2_with fail
  generalize hW : (w.alloc (.cells #[.int .i64 x, .int .i64 y, .int .i64 W, .int .i64 H, .slice Am n cm] 40)).alloc (.cells #[.int .i64 0, .int .i64 0, .int .i64 0, .int .i64 0, .slice none 0 0] 40) = W0
  obtain ⟨km, kr, bw, _⟩ := KN.out W0 hW.symm
  have KM := Lib.hid km; have KR := Lib.hid kr; have BB := Lib.hid bw
  clear hW km kr bw KN
  obtain ⟨m0, m1, m2, m3, m4⟩ := cells_5 KM.out
  refine (CB.out W0 BB.out).mono ?_; rintro e w2 ⟨rfl, b2⟩
  have KM2 := Lib.hid (KM.out.below b2 KM.out.lt); have KR2 := Lib.hid (KR.out.below b2 KR.out.lt); have B2 := Lib.hid (BB.out.trans (b2.mono BB.out.size))
  clear m0 m1 m2 m3 m4 b2 KM KR BB
  obtain ⟨m0, m1, m2, m3, m4⟩ := cells_5 KM2.out
  go_wp2_with fail
  refine (CR.out w2 B2.out).mono ?_; rintro e w3 ⟨g, rfl, hgw, hk, b3⟩
  have B3 := Lib.hid (B2.out.trans (b3.mono B2.out.size)); have HK := Lib.hid hk; have KR3 := Lib.hid (KR2.out.below b3 KR2.out.lt)
  have hrl := KR2.out.lt
  clear b3 hk m0 m1 m2 m3 m4 KM2 KR2 B2
  obtain ⟨f0, f1, f2, f3, f4, f5, f6, f7, f8, f9, f10, f11, f12, f13, f14⟩ := facts_5 KR3.out
  go_wp2_with fail
  exact bodyPost_ret (v := .tuple #[.agg #[.int .i64 x, .int .i64 y, .int .i64 W, .int .i64 H, .slice (some ⟨g, 0, none⟩) n n], .int .i64 0]) (by simp [results, Tryz.results24, go_sem, f10, f11, f12, f13, f14]) rfl ⟨.slice (some ⟨g, 0, none⟩) n n, by rw [HV.out], by rw [HV.out]; dsimp only; rw [HL.out]; exact own_blk (blk_far5 HK.out (by omega) _ _ _ _ _) (by rw [bC_len, HL.out]) (by omega) (by unfold maxLen; omega), below_5 B3.out (by omega) _ _ _ _ _⟩
set_option maxRecDepth 100000 in
set_option maxHeartbeats 2000000 in
theorem implRegOf_any (xs : List Sit) (ds : List Dsc) (x y W H : Int) (A B Am : Option Addr) (c d n cm : Nat) (hn : n ≤ 9223372036854775807) (w : World) (h : HasSit w xs A) (h2 : HasDsc w ds B) (hdir : Dirs w) :
    Calls Tryz.prog 25 #[.slice A xs.length c, .slice B ds.length d, maskV x y W H Am n cm] w fun e w' => ∃ v, e = .returned (.tuple #[.agg #[.int .i64 (rgP xs ds x y W H n).1, .int .i64 (rgP xs ds x y W H n).2.1, .int .i64 (rgP xs ds x y W H n).2.2.1, .int .i64 (rgP xs ds x y W H n).2.2.2.1, v], .int .i64 (rgP xs ds x y W H n).2.2.2.2.2]) ∧ w'.ownsRow w.heap.size 4 1 v (rgP xs ds x y W H n).2.2.2.2.1.length (bC (rgP xs ds x y W H n).2.2.2.2.1) ∧ Below w.heap.size w w' := by
  have CM := Lib.hid (implMask x y W H Am n cm hn)
  have CB := Lib.hid (fun W' (hb : Below w.heap.size w W') => implCodeS_any xs ds (maskB x y W H n) A B c d W' (h.below hb) (h2.below hb) (hdir.below hb))
  have HV := Lib.hid (show rgP xs ds x y W H n = if codeS xs ds (maskB x y W H n) = 0 then (x, y, W, H, regB xs ds x y W n, 0) else (0, 0, 0, 0, [], codeS xs ds (maskB x y W H n)) from rfl)
  have KN := Lib.hid (blks_two w 40 40 #[.int .i64 x, .int .i64 y, .int .i64 W, .int .i64 H, .slice Am n cm] #[.int .i64 0, .int .i64 0, .int .i64 0, .int .i64 0, .slice none 0 0])
  generalize rgP xs ds x y W H n = r at HV ⊢
  by_cases hz : codeS xs ds (maskB x y W H n) = 0
  rotate_left
  · rw [if_neg hz] at HV
    generalize codeS xs ds (maskB x y W H n) = code at hz CB HV
    have hz1 : (code != 0) = true := by simpa using hz
    clear hz h h2 hdir
    generalize maskB x y W H n = mb at CM CB
    unfold maskV at CM ⊢
    go_enter Tryz.func25, Tryz.ntmps25
    go_wp2_with fail
    generalize hW : (w.alloc (.cells #[.int .i64 x, .int .i64 y, .int .i64 W, .int .i64 H, .slice Am n cm] 40)).alloc (.cells #[.int .i64 0, .int .i64 0, .int .i64 0, .int .i64 0, .slice none 0 0] 40) = W0
    obtain ⟨km, kr, bw, _⟩ := KN.out W0 hW.symm
    have KM := Lib.hid km; have KR := Lib.hid kr; have BB := Lib.hid bw
    clear hW km kr bw KN
    obtain ⟨m0, m1, m2, m3, m4⟩ := cells_5 KM.out
    refine (CM.out W0).mono ?_; rintro e w1 ⟨rfl, b1⟩
    have KM1 := Lib.hid (KM.out.below b1 KM.out.lt); have KR1 := Lib.hid (KR.out.below b1 KR.out.lt); have B1 := Lib.hid (BB.out.trans (b1.mono BB.out.size))
    clear m0 m1 m2 m3 m4 b1 KM KR BB
    go_wp2_with fail
    refine (CB.out w1 B1.out).mono ?_; rintro e w2 ⟨rfl, b2⟩
    have KM2 := Lib.hid (KM1.out.below b2 KM1.out.lt); have KR2 := Lib.hid (KR1.out.below b2 KR1.out.lt); have B2 := Lib.hid (B1.out.trans (b2.mono B1.out.size))
    clear b2 KM1 KR1 B1
    obtain ⟨f0, f1, f2, f3, f4, f5, f6, f7, f8, f9, f10, f11, f12, f13, f14⟩ := facts_5 KR2.out
    go_wp2_with fail
    exact bodyPost_ret (v := .tuple #[.agg #[.int .i64 0, .int .i64 0, .int .i64 0, .int .i64 0, .slice none 0 0], .int .i64 code]) (by simp [results, Tryz.results25, go_sem, f10, f11, f12, f13, f14]) rfl ⟨.slice none 0 0, by rw [HV.out], by rw [HV.out]; exact World.ownsRow_nil _ _ _ _, below_5 B2.out (by omega) _ _ _ _ _⟩
  obtain ⟨hm, hz2⟩ := codeS_mask hz
  rw [if_pos hz] at HV
  rw [hz] at CB
  rw [hm] at CM CB
  obtain ⟨_, _, _, _, _, _, _, _, hn6, _, _, _⟩ := mask_bd hm
  have CR := Lib.hid (fun W' (hb : Below w.heap.size w W') => implReg_any xs ds hz2 x y W H A B Am c d n cm hm W' (h.below hb) (h2.below hb))
  have HL := Lib.hid (regB_len xs ds x y W n)
  clear h h2 hz hz2 hm hdir
  generalize regB xs ds x y W n = L at CR HV HL
  unfold maskV at CM CR ⊢
  go_enter Tryz.func25, Tryz.ntmps25
  go_wp2_with fail
  generalize hW : (w.alloc (.cells #[.int .i64 x, .int .i64 y, .int .i64 W, .int .i64 H, .slice Am n cm] 40)).alloc (.cells #[.int .i64 0, .int .i64 0, .int .i64 0, .int .i64 0, .slice none 0 0] 40) = W0
  obtain ⟨km, kr, bw, _⟩ := KN.out W0 hW.symm
  have KM := Lib.hid km; have KR := Lib.hid kr; have BB := Lib.hid bw
  clear hW km kr bw KN
  obtain ⟨m0, m1, m2, m3, m4⟩ := cells_5 KM.out
  refine (CM.out W0).mono ?_; rintro e w1 ⟨rfl, b1⟩
  have KM1 := Lib.hid (KM.out.below b1 KM.out.lt); have KR1 := Lib.hid (KR.out.below b1 KR.out.lt); have B1 := Lib.hid (BB.out.trans (b1.mono BB.out.size))
  clear m0 m1 m2 m3 m4 b1 KM KR BB
  go_wp2_with fail
  refine (CB.out w1 B1.out).mono ?_; rintro e w2 ⟨rfl, b2⟩
  have KM2 := Lib.hid (KM1.out.below b2 KM1.out.lt); have KR2 := Lib.hid (KR1.out.below b2 KR1.out.lt); have B2 := Lib.hid (B1.out.trans (b2.mono B1.out.size))
  clear b2 KM1 KR1 B1
  obtain ⟨m0, m1, m2, m3, m4⟩ := cells_5 KM2.out
  go_wp2_with fail
  refine (CR.out w2 B2.out).mono ?_; rintro e w3 ⟨g, rfl, hgw, hk, b3⟩
  have B3 := Lib.hid (B2.out.trans (b3.mono B2.out.size)); have HK := Lib.hid hk; have KR3 := Lib.hid (KR2.out.below b3 KR2.out.lt)
  have hrl := KR2.out.lt
  clear b3 hk m0 m1 m2 m3 m4 KM2 KR2 B2
  obtain ⟨f0, f1, f2, f3, f4, f5, f6, f7, f8, f9, f10, f11, f12, f13, f14⟩ := facts_5 KR3.out
  go_wp2_with fail
  exact bodyPost_ret (v := .tuple #[.agg #[.int .i64 x, .int .i64 y, .int .i64 W, .int .i64 H, .slice (some ⟨g, 0, none⟩) n n], .int .i64 0]) (by simp [results, Tryz.results25, go_sem, f10, f11, f12, f13, f14]) rfl ⟨.slice (some ⟨g, 0, none⟩) n n, by rw [HV.out], by rw [HV.out]; dsimp only; rw [HL.out]; exact own_blk (blk_far5 HK.out (by omega) _ _ _ _ _) (by rw [bC_len, HL.out]) (by omega) (by unfold maxLen; omega), below_5 B3.out (by omega) _ _ _ _ _⟩
end Go.Proofs.YtaaioengebaebaaGreatDoor
