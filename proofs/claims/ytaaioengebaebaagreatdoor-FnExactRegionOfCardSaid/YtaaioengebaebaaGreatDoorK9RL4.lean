/- The law of RegionOf returns true for all arguments: the walk of the law. -/
import Derived.Test.YtaaioengebaebaaGreatDoorRows
import Derived.Test.YtaaioengebaebaaGreatDoorK9GA
import Derived.WalkKit
import Derived.ProofKit
import Derived.OpenShut
import Derived.BigQuiet
import Derived.Outline
import Derived.WalkSpells
import Derived.WalkLawsBesides
import Derived.Deep.DeepCutAuto
import Derived.Test.YtaaioengebaebaaGreatDoorK9RN8
import Derived.Test.YtaaioengebaebaaGreatDoorK9RM3
import Derived.Test.YtaaioengebaebaaGreatDoorK9GB
import Derived.Test.YtaaioengebaebaaGreatDoorK9GD
import Derived.Test.YtaaioengebaebaaGreatDoorK9GE
namespace Go.Proofs.YtaaioengebaebaaGreatDoor
open Go.ChangeShapes Go.WideShapes Go.ChangeAt Go.RowKit Go.Sort

theorem blk_set5 {w : World} {b : Nat} {t : TypeId} {z0 z1 z2 z3 z4 : Value} (h : Blk w b t #[z0, z1, z2, z3, z4]) (v0 v1 v2 v3 v4 : Value) : Blk (((((w.setCell ⟨b, 0, none⟩ v0).setCell ⟨b, 1, none⟩ v1).setCell ⟨b, 2, none⟩ v2).setCell ⟨b, 3, none⟩ v3).setCell ⟨b, 4, none⟩ v4) b t #[v0, v1, v2, v3, v4] := by
  have b1 : Blk (w.setCell ⟨b, 0, none⟩ v0) b t #[v0, z1, z2, z3, z4] := by simpa using h.set_ 0 v0
  have b2 : Blk ((w.setCell ⟨b, 0, none⟩ v0).setCell ⟨b, 1, none⟩ v1) b t #[v0, v1, z2, z3, z4] := by simpa using b1.set_ 1 v1
  have b3 : Blk (((w.setCell ⟨b, 0, none⟩ v0).setCell ⟨b, 1, none⟩ v1).setCell ⟨b, 2, none⟩ v2) b t #[v0, v1, v2, z3, z4] := by simpa using b2.set_ 2 v2
  have b4 : Blk ((((w.setCell ⟨b, 0, none⟩ v0).setCell ⟨b, 1, none⟩ v1).setCell ⟨b, 2, none⟩ v2).setCell ⟨b, 3, none⟩ v3) b t #[v0, v1, v2, v3, z4] := by simpa using b3.set_ 3 v3
  simpa using b4.set_ 4 v4
theorem own_set5 {w : World} {b base n : Nat} {t u : TypeId} {cs : Array Value} {v : Value} {es : List Value} (h : Blk w b t cs) (hu : u ≠ t) (o : w.ownsRow base u 1 v n es) (v0 v1 v2 v3 v4 : Value) : (((((w.setCell ⟨b, 0, none⟩ v0).setCell ⟨b, 1, none⟩ v1).setCell ⟨b, 2, none⟩ v2).setCell ⟨b, 3, none⟩ v3).setCell ⟨b, 4, none⟩ v4).ownsRow base u 1 v n es :=
  own_blks o (fun g es hg => blk_far5 hg (fun e => by subst e; exact hu (blk_tag hg h)) _ _ _ _ _)
theorem ne_tag {w : World} {g h : Nat} {t u : TypeId} {cs ds : Array Value} (h1 : Blk w g t cs) (h2 : Blk w h u ds) (hn : t ≠ u) : some g ≠ some h := by
  intro e; injection e with e; subst e; exact hn (blk_tag h1 h2)
theorem own_ne {w : World} {base n g : Nat} {t u : TypeId} {v : Value} {es : List Value} {cs : Array Value} (h : w.ownsRow base u 1 v n es) (h1 : Blk w g t cs) (hn : u ≠ t) : v.ownBlock = none ∨ v.ownBlock ≠ some g := by
  rcases h.2 with ⟨e, _⟩ | ⟨g', cap, cur, e, _, hc, _⟩
  · subst e; exact .inl rfl
  · subst e; refine .inr (fun e => ?_)
    have e3 : g' = g := by injection e
    subst e3
    exact hn (blk_tag hc h1)
theorem ne_own {w : World} {base n g : Nat} {t u : TypeId} {v : Value} {es : List Value} {cs : Array Value} (h1 : Blk w g t cs) (h : w.ownsRow base u 1 v n es) (hn : u ≠ t) : some g ≠ v.ownBlock := by
  rcases own_ne h h1 hn with e | e
  · rw [e]; exact fun h => by cases h
  · exact fun h => e h.symm
theorem far_ne {v : Value} {g : Nat} (h : ∀ q, v.ownBlock = some q → q ≠ g) : v.ownBlock = none ∨ v.ownBlock ≠ some g := by
  cases e : v.ownBlock with
  | none => exact .inl rfl
  | some q => exact .inr (fun e2 => h q e (by injection e2))
theorem far_two {a b : Value} {m : Nat} (h1 : ∀ k, a.ownBlock = some k → k < m) (h2 : ∀ k, b.ownBlock = some k → m < k) : a.ownBlock = none ∨ a.ownBlock ≠ b.ownBlock := by
  cases ha : a.ownBlock with
  | none => exact .inl rfl
  | some k => exact .inr (fun h => by have := h1 k ha; have := h2 k h.symm; omega)
theorem rgP_len (xs : List Sit) (ds : List Dsc) (x y W H : Int) (n : Nat) : (rgP xs ds x y W H n).2.2.2.2.1.length ≤ n := by
  unfold rgP
  split
  · simp [regB]
  · simp
set_option maxRecDepth 100000 in
set_option maxHeartbeats 4000000 in
theorem toMaskG_any (x y W H : Int) (xs : List Bool) (A : Option Addr) (c : Nat) (w : World) (hr : Reads w w.heap.size 1 A xs.length (bC xs)) (hm : xs.length ≤ 1048576) :
    Calls Tryz.prog 14 #[maskV x y W H A xs.length c] w fun e w' => ∃ g : Nat, e = .returned (maskV x y W H (some ⟨g, 0, none⟩) xs.length xs.length) ∧ w.heap.size ≤ g ∧ Blk w' g 4 (bC xs).toArray ∧ Below w.heap.size w w' := by
  unfold maskV
  have HR := Lib.hid hr; clear hr
  go_enter Tryz.func14, Tryz.ntmps14
  go_wp2_with (go_at_call 49; refine (toPoint_any _ _ _).mono ?_; rintro e w1 ⟨rfl, b1⟩; obtain ⟨q1, q2⟩ := bcell b1; have z1 := b1.size; simp at z1)
  have y0 : w.heap.size < w1.heap.size := by omega
  have y1 : w.heap.size + 1 < w1.heap.size := by omega
  have y2 : w.heap.size + 1 + 1 < w1.heap.size := by omega
  have hb1 : Below w.heap.size w w1 := ((((Below.refl _ _).alloc (Nat.le_refl _) _).alloc (by simp) _).alloc (by simp; omega) _).trans (b1.mono (by simp; omega))
  clear b1
  have hb3 : Below w.heap.size w ((((w1.setCell ⟨w.heap.size + 1 + 1, 0, none⟩ (.int .i64 x)).setCell ⟨w.heap.size + 1 + 1, 1, none⟩ (.int .i64 y)).setCell ⟨w.heap.size + 1 + 1, 2, none⟩ (.int .i64 W)).setCell ⟨w.heap.size + 1 + 1, 3, none⟩ (.int .i64 H)) := by
    refine (((hb1.setCell ?_ _).setCell ?_ _).setCell ?_ _).setCell ?_ _ <;> (simp; try omega)
  refine (toBoolS_any xs A c _ ((HR.out.below hb3).more hb3.size) hm).mono ?_
  rintro e w5 ⟨rfl, h5, b5⟩
  obtain ⟨q3, q4⟩ := bcell b5
  have hb5 := hb3.trans (b5.mono hb3.size)
  clear b5 hb3 hb1
  simp only [World.size_setCell] at h5 hb5 q3 q4 ⊢
  have H5 := Lib.hid h5; clear h5
  have HB5 := Lib.hid hb5; clear hb5
  go_wp2_with fail
  refine bodyPost_ret (v := .agg #[.int .i64 x, .int .i64 y, .int .i64 W, .int .i64 H, .slice (some ⟨w1.heap.size, 0, none⟩) xs.length xs.length]) (by simp [results, Tryz.results14, go_sem, *]) rfl ⟨w1.heap.size, rfl, by first | omega | (simp; omega), ?_, ?_⟩
  · exact (((((H5.out.far (by simp; omega) _).far (by simp; omega) _).far (by simp; omega) _).far (by simp; omega) _).far (by simp; omega) _).far (by simp; omega) _
  · exact (((((HB5.out.setCell (by simp; omega) _).setCell (by simp) _).setCell (by simp) _).setCell (by simp) _).setCell (by simp) _).setCell (by simp) _
set_option maxRecDepth 100000 in
set_option maxHeartbeats 8000000 in
theorem lawReg_any (xs : List Sit) (ds : List Dsc) (cs : List Bool) (x y W H : Int) (A B Am : Option Addr) (c d cm : Nat) (w : World) (h : HasSit w xs A) (h2 : HasDsc w ds B) (h3 : Reads w w.heap.size 1 Am cs.length (bC cs)) (hn : cs.length ≤ 9223372036854775807) (hdir : Dirs w) :
    Calls Tryz.prog 6 #[.slice A xs.length c, .slice B ds.length d, maskV x y W H Am cs.length cm] w fun e w' => e = .returned (.bool true) ∧ Below w.heap.size w w' := by
  have mixed : Tryz.prog.follows Departure.mixedOrders = true := by kernel_rfl
  obtain ⟨rx, ry, rW, rH, L, rc, hres⟩ : ∃ a b c d e f, rgP xs ds x y W H cs.length = (a, b, c, d, e, f) := ⟨_, _, _, _, _, _, rfl⟩
  have hLn : L.length ≤ cs.length := by have := rgP_len xs ds x y W H cs.length; rw [hres] at this; exact this
  have HZ0 := Lib.hid (fun W' (hb : Below w.heap.size w W') => szSitS_any xs A c W' (h.below hb).1 (h.below hb).2.1 (h.below hb).2.2)
  have KN := Lib.hid (blks_one w 28 #[.int .i64 x, .int .i64 y, .int .i64 W, .int .i64 H, .slice Am cs.length cm])
  by_cases hz0 : szSi xs < 0
  · skip
    unfold maskV
    generalize szSi xs = z0 at *
    go_enter Tryz.func6, Tryz.ntmps6
    go_wp2_with fail
    generalize hW : (w.alloc (.cells #[.int .i64 x, .int .i64 y, .int .i64 W, .int .i64 H, .slice Am cs.length cm] 28)) = W0
    obtain ⟨km, b, hz0⟩ := KN.out W0 hW.symm
    clear hW
    have z0 := Nat.le_of_eq hz0.symm; clear hz0
    have B1 := Lib.hid (show Below w.heap.size w W0 from b)
    have Km1 := Lib.hid (km)
    clear b
    clear km
    refine (HZ0.out W0 B1.out).mono ?_
    rintro e w2 ⟨rfl, b⟩
    have B2 := Lib.hid (B1.out.trans (b.mono B1.out.size))
    have Km2 := Lib.hid (Km1.out.below b Km1.out.lt)
    clear b B1 Km1
    go_wp2_with fail
    go_ret
    exact ⟨rfl, B2.out⟩
  have q0 := szSi_all (xs := xs) (by omega)
  have HZ1 := Lib.hid (fun W' (hb : Below w.heap.size w W') => szDscS_any ds B d (szSi xs) (by omega) (by omega) W' (h2.below hb).1 (h2.below hb).2.1 (h2.below hb).2.2)
  by_cases hz1 : szDscS (szSi xs) ds < 0
  · skip
    unfold maskV
    generalize szDscS (szSi xs) ds = z1 at *
    generalize szSi xs = z0 at *
    go_enter Tryz.func6, Tryz.ntmps6
    go_wp2_with fail
    generalize hW : (w.alloc (.cells #[.int .i64 x, .int .i64 y, .int .i64 W, .int .i64 H, .slice Am cs.length cm] 28)) = W0
    obtain ⟨km, b, hz0⟩ := KN.out W0 hW.symm
    clear hW
    have z0 := Nat.le_of_eq hz0.symm; clear hz0
    have B1 := Lib.hid (show Below w.heap.size w W0 from b)
    have Km1 := Lib.hid (km)
    clear b
    clear km
    refine (HZ0.out W0 B1.out).mono ?_
    rintro e w2 ⟨rfl, b⟩
    have B2 := Lib.hid (B1.out.trans (b.mono B1.out.size))
    have Km2 := Lib.hid (Km1.out.below b Km1.out.lt)
    clear b B1 Km1
    go_wp2_with fail
    refine (HZ1.out w2 B2.out).mono ?_
    rintro e w3 ⟨rfl, b⟩
    have B3 := Lib.hid (B2.out.trans (b.mono B2.out.size))
    have Km3 := Lib.hid (Km2.out.below b Km2.out.lt)
    clear b B2 Km2
    go_wp2_with fail
    go_ret
    exact ⟨rfl, B3.out⟩
  have q1 := szDscS_pos (left := szSi xs) (xs := ds) (by omega) (by omega)
  have HZ2 := Lib.hid (fun W' => szML_any x y W H Am cs.length cm (szDscS (szSi xs) ds) (by omega) (by omega) hn W')
  unfold maskV at HZ2
  by_cases hz2 : szM (szDscS (szSi xs) ds) cs.length < 0
  · skip
    unfold maskV
    generalize szM (szDscS (szSi xs) ds) cs.length = z2 at *
    generalize szDscS (szSi xs) ds = z1 at *
    generalize szSi xs = z0 at *
    go_enter Tryz.func6, Tryz.ntmps6
    go_wp2_with fail
    generalize hW : (w.alloc (.cells #[.int .i64 x, .int .i64 y, .int .i64 W, .int .i64 H, .slice Am cs.length cm] 28)) = W0
    obtain ⟨km, b, hz0⟩ := KN.out W0 hW.symm
    clear hW
    have z0 := Nat.le_of_eq hz0.symm; clear hz0
    have B1 := Lib.hid (show Below w.heap.size w W0 from b)
    have Km1 := Lib.hid (km)
    clear b
    clear km
    refine (HZ0.out W0 B1.out).mono ?_
    rintro e w2 ⟨rfl, b⟩
    have B2 := Lib.hid (B1.out.trans (b.mono B1.out.size))
    have Km2 := Lib.hid (Km1.out.below b Km1.out.lt)
    clear b B1 Km1
    go_wp2_with fail
    refine (HZ1.out w2 B2.out).mono ?_
    rintro e w3 ⟨rfl, b⟩
    have B3 := Lib.hid (B2.out.trans (b.mono B2.out.size))
    have Km3 := Lib.hid (Km2.out.below b Km2.out.lt)
    clear b B2 Km2
    obtain ⟨cm0, cm1, cm2, cm3, cm4⟩ := cells_5 Km3.out
    go_wp2_with fail
    refine (HZ2.out w3).mono ?_
    rintro e w4 ⟨rfl, b⟩
    have B4 := Lib.hid (B3.out.trans (b.mono B3.out.size))
    have Km4 := Lib.hid (Km3.out.below b Km3.out.lt)
    clear b B3 Km3
    clear cm0 cm1 cm2 cm3 cm4
    go_wp2_with fail
    go_ret
    exact ⟨rfl, B4.out⟩
  have q2 : cs.length ≤ 1048576 := by unfold szM at hz2; split at hz2 <;> omega
  have NX : xs.length ≤ 1048576 := q0.1
  have ND : ds.length ≤ 1048576 := q1.1
  have hcs : cs.length ≤ 9223372036854775807 := hn
  have sX := h.2.2; have sD := h2.2.2; have lX := h.2.1; have lD := h2.2.1
  have HTS := Lib.hid (fun W' (hb : Below w.heap.size w W') => toSitS_any xs A c W' (h.below hb).1 NX)
  have HTD := Lib.hid (fun W' (hb : Below w.heap.size w W') => toDscS_any ds B d W' (h2.below hb).1 ND)
  have HTM := Lib.hid (fun W' (hb : Below w.heap.size w W') => toMask_any x y W H cs Am cm W' ((h3.below hb).more hb.size) q2)
  have HTG := Lib.hid (fun W' (hb : Below w.heap.size w W') => toMaskG_any x y W H cs Am cm W' ((h3.below hb).more hb.size) q2)
  have HEM := Lib.hid (fun g g' W' (r1 : Blk W' g 4 (bC cs).toArray) (r2 : Blk W' g' 4 (bC cs).toArray) => eqMask_same x y W H cs (some ⟨g, 0, none⟩) (some ⟨g', 0, none⟩) cs.length cs.length W' (blk_rd r1 (bC_len cs)) (blk_rd r2 (bC_len cs)) hn)
  have mkX := Lib.hid (fun W' b (hk : Blk W' b 77 (siC xs).toArray) => (⟨blk_rd hk (siC_len xs), lX, sX⟩ : HasSit W' xs (some ⟨b, 0, none⟩)))
  have mkD := Lib.hid (fun W' b (hk : Blk W' b 79 (dsC ds).toArray) => (⟨blk_rd hk (dsC_len ds), lD, sD⟩ : HasDsc W' ds (some ⟨b, 0, none⟩)))
  have HS := Lib.hid (fun A' B' g c' d' cm' W' (h1 : HasSit W' xs A') (h2' : HasDsc W' ds B') => (show Calls Tryz.prog 24 #[.slice A' xs.length c', .slice B' ds.length d', maskV x y W H g cs.length cm'] W' (fun e w' => ∃ v, e = .returned (.tuple #[.agg #[.int .i64 rx, .int .i64 ry, .int .i64 rW, .int .i64 rH, v], .int .i64 rc]) ∧ w'.ownsRow W'.heap.size 4 1 v L.length (bC L) ∧ Below W'.heap.size W' w') from by have := specRegOf_any xs ds x y W H A' B' g c' d' cs.length cm' hn W' h1 h2'; rw [hres] at this; exact this))
  have HI := Lib.hid (fun A' B' g c' d' cm' W' (h1 : HasSit W' xs A') (h2' : HasDsc W' ds B') (hd : Dirs W') => (show Calls Tryz.prog 25 #[.slice A' xs.length c', .slice B' ds.length d', maskV x y W H g cs.length cm'] W' (fun e w' => ∃ v, e = .returned (.tuple #[.agg #[.int .i64 rx, .int .i64 ry, .int .i64 rW, .int .i64 rH, v], .int .i64 rc]) ∧ w'.ownsRow W'.heap.size 4 1 v L.length (bC L) ∧ Below W'.heap.size W' w') from by have := implRegOf_any xs ds x y W H A' B' g c' d' cs.length cm' hn W' h1 h2' hd; rw [hres] at this; exact this))
  clear hres
  have hLz : L.length ≤ 1048576 := by omega
  have HEL := Lib.hid (fun A1 A2 c1 c2 W' (r1 : Reads W' W'.heap.size 1 A1 L.length (bC L)) (r2 : Reads W' W'.heap.size 1 A2 L.length (bC L)) => eqMask_same rx ry rW rH L A1 A2 c1 c2 W' r1 r2 (by omega))
  unfold maskV at HS HI HEL
  have HDir := Lib.hid hdir
  clear h h2 h3 hdir sX sD lX lD
  unfold maskV at HTM HTG HEM ⊢
  generalize szM (szDscS (szSi xs) ds) cs.length = z2 at *
  generalize szDscS (szSi xs) ds = z1 at *
  generalize szSi xs = z0 at *
  go_enter Tryz.func6, Tryz.ntmps6
  go_wp2_with fail
  generalize hW : (w.alloc (.cells #[.int .i64 x, .int .i64 y, .int .i64 W, .int .i64 H, .slice Am cs.length cm] 28)) = W0
  obtain ⟨km, b, hz0⟩ := KN.out W0 hW.symm
  clear hW
  have z0 := Nat.le_of_eq hz0.symm; clear hz0
  have B1 := Lib.hid (show Below w.heap.size w W0 from b)
  have Km1 := Lib.hid (km)
  clear b
  clear km
  refine (HZ0.out W0 B1.out).mono ?_
  rintro e w2 ⟨rfl, b⟩
  have B2 := Lib.hid (B1.out.trans (b.mono B1.out.size))
  have Km2 := Lib.hid (Km1.out.below b Km1.out.lt)
  clear b B1 Km1
  go_wp2_with fail
  refine (HZ1.out w2 B2.out).mono ?_
  rintro e w3 ⟨rfl, b⟩
  have B3 := Lib.hid (B2.out.trans (b.mono B2.out.size))
  have Km3 := Lib.hid (Km2.out.below b Km2.out.lt)
  clear b B2 Km2
  obtain ⟨cm0, cm1, cm2, cm3, cm4⟩ := cells_5 Km3.out
  go_wp2_with fail
  refine (HZ2.out w3).mono ?_
  rintro e w4 ⟨rfl, b⟩
  have B4 := Lib.hid (B3.out.trans (b.mono B3.out.size))
  have Km4 := Lib.hid (Km3.out.below b Km3.out.lt)
  clear b B3 Km3
  clear cm0 cm1 cm2 cm3 cm4
  obtain ⟨cm0, cm1, cm2, cm3, cm4⟩ := cells_5 Km4.out
  go_upto_region 11 with (fail)
  refine' wp_region_dep (OverW w4) (KeepO w4 40 4 rx ry rW rH L.length (bC L)) [slotP 0 (isV (.slice A xs.length c)), slotP 1 (isRowL w4 77 xs.length (siC xs)), slotP 2 (isV (.slice B ds.length d)), slotP 3 (isRowL w4 79 ds.length (dsC ds)), slotP 4 (isV (.agg #[.int .i64 x, .int .i64 y, .int .i64 W, .int .i64 H, .slice Am cs.length cm])), slotP 5 (isMaskL x y W H 4 cs.length (bC cs)), slotP 6 (isRegT w4 4 rx ry rW rH rc L.length (bC L)), slotP 7 (isRegT w4 4 rx ry rW rH rc L.length (bC L)), slotP 8 (isRegA w4 4 rx ry rW rH L.length (bC L)), slotP 9 (isV (.int .i64 rc)), slotP 10 (isBoxS w4 40 5), storedO w4 10 40 4 rx ry rW rH L.length (bC L)] mixed (by kernel_rfl) (by kernel_rfl) (OverW.drew (Below.refl _ _)) ?_ _ _ ?_ ?_ ?_
  · exact AllStableD.cons (slotP_stable 0 (keepO_V _)) (AllStableD.cons (slotP_stable 1 (keepO_rowL (by decide) _ _)) (AllStableD.cons (slotP_stable 2 (keepO_V _)) (AllStableD.cons (slotP_stable 3 (keepO_rowL (by decide) _ _)) (AllStableD.cons (slotP_stable 4 (keepO_V _)) (AllStableD.cons (slotP_stable 5 (keepO_maskL _ _ _ _ (by decide) _ _)) (AllStableD.cons (slotP_stable 6 (keepO_regT (by decide) _)) (AllStableD.cons (slotP_stable 7 (keepO_regT (by decide) _)) (AllStableD.cons (slotP_stable 8 (keepO_regA (by decide))) (AllStableD.cons (slotP_stable 9 (keepO_V _)) (AllStableD.cons (slotP_stable 10 (keepO_box)) (AllStableD.cons (keepO_stored (by decide) _) (AllStableD.nil))))))))))))
  rotate_left 2
  · intro f; simp only [lay, List.setIfInBounds_toArray, List.set_cons_succ, List.set_cons_zero, Nat.reduceAdd]; exact rfl
  · refine AllToD.cons ?_ (slotP_local _ _ _) ?_
    · intro f v hS hT K hK
      simp only [Act.put, List.setIfInBounds_toArray, List.set_cons_succ, List.set_cons_zero] at hK
      go_simp
      exact hK.out _ _ (slotP_at (rfl)) hS (Or.inl (keep_refl _))
    refine AllToD.cons ?_ (slotP_local _ _ _) ?_
    · intro f v hS hT K hK
      have e0 := hT 0 _ rfl rfl
      dsimp only [slotP, isV] at e0
      simp only [Act.put, List.setIfInBounds_toArray, List.set_cons_succ, List.set_cons_zero, e0] at hK
      go_simp
      refine (HTS.out v (B4.out.trans (hS.mono B4.out.size))).mono ?_
      rintro e w1 ⟨rfl, hk, b1⟩
      exact hK.out _ _ (slotP_at (⟨v.heap.size, rfl, hS.size, hk⟩)) (hS.go b1) (Or.inl b1)
    refine AllToD.cons ?_ (slotP_local _ _ _) ?_
    · intro f v hS hT K hK
      simp only [Act.put, List.setIfInBounds_toArray, List.set_cons_succ, List.set_cons_zero] at hK
      go_simp
      exact hK.out _ _ (slotP_at (rfl)) hS (Or.inl (keep_refl _))
    refine AllToD.cons ?_ (slotP_local _ _ _) ?_
    · intro f v hS hT K hK
      have e2 := hT 2 _ rfl rfl
      dsimp only [slotP, isV] at e2
      simp only [Act.put, List.setIfInBounds_toArray, List.set_cons_succ, List.set_cons_zero, e2] at hK
      go_simp
      refine (HTD.out v (B4.out.trans (hS.mono B4.out.size))).mono ?_
      rintro e w1 ⟨rfl, hk, b1⟩
      exact hK.out _ _ (slotP_at (⟨v.heap.size, rfl, hS.size, hk⟩)) (hS.go b1) (Or.inl b1)
    refine AllToD.cons ?_ (slotP_local _ _ _) ?_
    · intro f v hS hT K hK
      have hc0 : v.cell? ⟨w.heap.size, 0, none⟩ = some (.int .i64 x) := (Below.cell hS (p := ⟨w.heap.size, 0, none⟩) Km4.out.lt).trans cm0
      have hc1 : v.cell? ⟨w.heap.size, 1, none⟩ = some (.int .i64 y) := (Below.cell hS (p := ⟨w.heap.size, 1, none⟩) Km4.out.lt).trans cm1
      have hc2 : v.cell? ⟨w.heap.size, 2, none⟩ = some (.int .i64 W) := (Below.cell hS (p := ⟨w.heap.size, 2, none⟩) Km4.out.lt).trans cm2
      have hc3 : v.cell? ⟨w.heap.size, 3, none⟩ = some (.int .i64 H) := (Below.cell hS (p := ⟨w.heap.size, 3, none⟩) Km4.out.lt).trans cm3
      have hc4 : v.cell? ⟨w.heap.size, 4, none⟩ = some (.slice Am cs.length cm) := (Below.cell hS (p := ⟨w.heap.size, 4, none⟩) Km4.out.lt).trans cm4
      simp only [Act.put, List.setIfInBounds_toArray, List.set_cons_succ, List.set_cons_zero] at hK
      go_simp
      exact hK.out _ _ (slotP_at (rfl)) hS (Or.inl (keep_refl _))
    refine AllToD.cons ?_ (slotP_local _ _ _) ?_
    · intro f v hS hT K hK
      have e4 := hT 4 _ rfl rfl
      dsimp only [slotP, isV] at e4
      simp only [Act.put, List.setIfInBounds_toArray, List.set_cons_succ, List.set_cons_zero, e4] at hK
      go_simp
      refine (HTM.out v (B4.out.trans (hS.mono B4.out.size))).mono ?_
      rintro e w1 ⟨g, rfl, hk, b1⟩
      exact hK.out _ _ (slotP_at (⟨g, rfl, hk⟩)) (hS.go b1) (Or.inl b1)
    refine AllToD.cons ?_ (slotP_local _ _ _) ?_
    · intro f v hS hT K hK
      obtain ⟨b1, e1, hb1, hk1⟩ := hT 1 _ rfl rfl
      obtain ⟨b3, e3, hb3, hk3⟩ := hT 3 _ rfl rfl
      obtain ⟨b5, e5, hk5⟩ := hT 5 _ rfl rfl
      simp only [Act.put, List.setIfInBounds_toArray, List.set_cons_succ, List.set_cons_zero, e1, e3, e5] at hK
      go_simp
      refine (HS.out _ _ _ _ _ _ v (mkX.out v b1 hk1) (mkD.out v b3 hk3)).mono ?_
      rintro e w1 ⟨vv, rfl, oo, b1⟩
      exact hK.out _ _ (slotP_at (⟨vv, rfl, own_mono oo hS.size⟩)) (hS.go b1) (Or.inl b1)
    refine AllToD.cons ?_ (slotP_local _ _ _) ?_
    · intro f v hS hT K hK
      obtain ⟨v6, e6, o6⟩ := hT 6 _ rfl rfl
      simp only [Act.put, List.setIfInBounds_toArray, List.set_cons_succ, List.set_cons_zero, e6] at hK
      go_simp
      exact hK.out _ _ (slotP_at (⟨v6, rfl, o6⟩)) hS (Or.inl (keep_refl _))
    refine AllToD.cons ?_ (slotP_local _ _ _) ?_
    · intro f v hS hT K hK
      obtain ⟨v7, e7, o7⟩ := hT 7 _ rfl rfl
      simp only [Act.put, List.setIfInBounds_toArray, List.set_cons_succ, List.set_cons_zero, e7] at hK
      go_simp
      exact hK.out _ _ (slotP_at (⟨v7, rfl, o7⟩)) hS (Or.inl (keep_refl _))
    refine AllToD.cons ?_ (slotP_local _ _ _) ?_
    · intro f v hS hT K hK
      obtain ⟨v7, e7, o7⟩ := hT 7 _ rfl rfl
      simp only [Act.put, List.setIfInBounds_toArray, List.set_cons_succ, List.set_cons_zero, e7] at hK
      go_simp
      exact hK.out _ _ (slotP_at (rfl)) hS (Or.inl (keep_refl _))
    refine AllToD.cons ?_ (slotP_local _ _ _) ?_
    · intro f v hS hT K hK
      simp only [Act.put, List.setIfInBounds_toArray, List.set_cons_succ, List.set_cons_zero] at hK
      go_simp
      exact hK.out _ _ (slotP_at (⟨v.heap.size, _, rfl, hS.size, rfl, Blk.new _ _ _⟩)) (hS.new _) (Or.inl (keep_new _ _))
    refine AllToD.cons ?_ (storedO_local (by kernel_rfl)) ?_
    · intro f v hS hT K hK
      obtain ⟨b10, ds10, e10, hb10, hn10, hk10⟩ := hT 10 _ rfl rfl
      obtain ⟨v8, e8, o8⟩ := hT 8 _ rfl rfl
      simp only [Act.put, List.setIfInBounds_toArray, List.set_cons_succ, List.set_cons_zero, e10, e8] at hK
      obtain ⟨z0, z1, z2, z3, z4, rfl⟩ := arr_5 hn10
      obtain ⟨ff0, ff1, ff2, ff3, ff4, ff5, ff6, ff7, ff8, ff9, ff10, ff11, ff12, ff13, ff14⟩ := facts_5 hk10
      obtain ⟨Ax, cx, hvx, _⟩ := own_shape o8
      subst hvx
      go_simp
      exact hK.out (.bool true) _ ⟨b10, _, by rw [upd_ne _ _ (by decide)]; exact e10, hb10, blk_set5 hk10 _ _ _ _ _, own_set5 hk10 (by decide) o8 _ _ _ _ _⟩ (below_5 hS hb10 _ _ _ _ _) (Or.inr (storeO_5 (by decide) hk10 o8))
    exact AllToD.nil
  · intro f v hS hT K hK
    have e2 := hT 9 _ rfl
    dsimp only [slotP, isV] at e2
    obtain ⟨rb, vr, e8, hrb, hkr, hor⟩ := hT 11 _ rfl
    go_simp
    refine hK.out _ _ ?_
    clear hT hK K
    (try simp only [e2, e8])
    clear e2 e8
    clear cm0 cm1 cm2 cm3 cm4
    have b : Below w4.heap.size w4 v := hS
    clear hS
    obtain ⟨Ar, cr, rfl, _⟩ := own_shape hor
    have B5 := Lib.hid (B4.out.trans (b.mono B4.out.size))
    have Km5 := Lib.hid (Km4.out.below b Km4.out.lt)
    have Kr5 := Lib.hid (hkr)
    clear b B4 Km4
    have Or5 := Lib.hid hor
    clear hkr hor
    have zq := B5.out.size
    go_wp2_with fail
    refine (HTS.out v B5.out).mono ?_
    rintro e w6 ⟨rfl, hkx, b⟩
    have B6 := Lib.hid (B5.out.trans (b.mono B5.out.size))
    have Km6 := Lib.hid (Km5.out.below b Km5.out.lt)
    have Kr6 := Lib.hid (Kr5.out.below b Kr5.out.lt)
    have Or6 := Lib.hid (own_below Or5.out b)
    have Kx6 := Lib.hid (hkx)
    clear b B5 Km5 Kr5 Or5
    obtain ⟨bx, hbx⟩ : ∃ b, b = v.heap.size := ⟨_, rfl⟩
    clear hkx
    rw [← hbx] at Kx6 ⊢
    have zx : w.heap.size ≤ bx := by rw [hbx]; exact zq
    clear hbx zq
    have zq := B6.out.size
    go_wp2_with fail
    refine (HTD.out w6 B6.out).mono ?_
    rintro e w7 ⟨rfl, hkd, b⟩
    have B7 := Lib.hid (B6.out.trans (b.mono B6.out.size))
    have Km7 := Lib.hid (Km6.out.below b Km6.out.lt)
    have Kr7 := Lib.hid (Kr6.out.below b Kr6.out.lt)
    have Kx7 := Lib.hid (Kx6.out.below b Kx6.out.lt)
    have Or7 := Lib.hid (own_below Or6.out b)
    have Kd7 := Lib.hid (hkd)
    clear b B6 Km6 Kr6 Kx6 Or6
    obtain ⟨bd, hbx⟩ : ∃ b, b = w6.heap.size := ⟨_, rfl⟩
    clear hkd
    rw [← hbx] at Kd7 ⊢
    have zd : w.heap.size ≤ bd := by rw [hbx]; exact zq
    clear hbx zq
    obtain ⟨cm0, cm1, cm2, cm3, cm4⟩ := cells_5 Km7.out
    have zq := B7.out.size
    go_wp2_with fail
    refine (HTG.out w7 B7.out).mono ?_
    rintro e w8 ⟨gm, rfl, hgm, hkm, b⟩
    have FR := Lib.hid (fun q hq => Nat.lt_of_lt_of_le (own_lt Or7.out q hq).2 hgm)
    have B8 := Lib.hid (B7.out.trans (b.mono B7.out.size))
    have Km8 := Lib.hid (Km7.out.below b Km7.out.lt)
    have Kr8 := Lib.hid (Kr7.out.below b Kr7.out.lt)
    have Kx8 := Lib.hid (Kx7.out.below b Kx7.out.lt)
    have Kd8 := Lib.hid (Kd7.out.below b Kd7.out.lt)
    have Or8 := Lib.hid (own_below Or7.out b)
    have Kc8 := Lib.hid (hkm)
    clear b B7 Km7 Kr7 Kx7 Kd7 Or7
    clear hkm
    clear cm0 cm1 cm2 cm3 cm4
    have zc : w.heap.size ≤ gm := Nat.le_trans zq hgm
    clear zq hgm
    go_upto_region 15 with (fail)
    have b : Below w8.heap.size w8 (w8.alloc (.cells #[.int .i64 x, .int .i64 y, .int .i64 W, .int .i64 H, .slice (some ⟨gm, 0, none⟩) cs.length cs.length] 40)) := (Below.refl _ _).alloc (Nat.le_refl _) _
    have nk := Blk.new w8 40 #[.int .i64 x, .int .i64 y, .int .i64 W, .int .i64 H, .slice (some ⟨gm, 0, none⟩) cs.length cs.length]
    generalize w8.alloc (.cells #[.int .i64 x, .int .i64 y, .int .i64 W, .int .i64 H, .slice (some ⟨gm, 0, none⟩) cs.length cs.length] 40) = w9 at b nk ⊢
    obtain ⟨bbi, hbb⟩ : ∃ b, b = w8.heap.size := ⟨_, rfl⟩
    rw [← hbb] at nk ⊢
    have nk := Lib.hid nk
    have B9 := Lib.hid (B8.out.trans (b.mono B8.out.size))
    have Km9 := Lib.hid (Km8.out.below b Km8.out.lt)
    have Kr9 := Lib.hid (Kr8.out.below b Kr8.out.lt)
    have Kx9 := Lib.hid (Kx8.out.below b Kx8.out.lt)
    have Kd9 := Lib.hid (Kd8.out.below b Kd8.out.lt)
    have Kc9 := Lib.hid (Kc8.out.below b Kc8.out.lt)
    have Or9 := Lib.hid (own_below Or8.out b)
    have Ki9 := Lib.hid (nk.out)
    clear b B8 Km8 Kr8 Kx8 Kd8 Kc8 Or8
    clear nk hbb
    obtain ⟨ci0, ci1, ci2, ci3, ci4⟩ := cells_5 Ki9.out
    have zHI := B9.out.size
    go_wp2_with fail
    refine (HI.out _ _ _ _ _ _ w9 (mkX.out _ _ Kx9.out) (mkD.out _ _ Kd9.out) (HDir.out.below B9.out)).mono ?_
    rintro e w10 ⟨vt, rfl, ot, b⟩
    obtain ⟨At, ct, rfl, _⟩ := own_shape ot
    have FT := Lib.hid (fun q hq => Nat.lt_of_lt_of_le Kc9.out.lt (own_lt ot q hq).1)
    have B10 := Lib.hid (B9.out.trans (b.mono B9.out.size))
    have Km10 := Lib.hid (Km9.out.below b Km9.out.lt)
    have Kr10 := Lib.hid (Kr9.out.below b Kr9.out.lt)
    have Kx10 := Lib.hid (Kx9.out.below b Kx9.out.lt)
    have Kd10 := Lib.hid (Kd9.out.below b Kd9.out.lt)
    have Kc10 := Lib.hid (Kc9.out.below b Kc9.out.lt)
    have Ki10 := Lib.hid (Ki9.out.below b Ki9.out.lt)
    have Or10 := Lib.hid (own_below Or9.out b)
    clear b B9 Km9 Kr9 Kx9 Kd9 Kc9 Ki9 Or9
    clear ci0 ci1 ci2 ci3 ci4
    have Ot10 := Lib.hid ot
    have HTb := Lib.hid (show w.heap.size ≤ w9.heap.size from zHI)
    clear ot
    go_upto_region 16 with (fail)
    have b : Below w10.heap.size w10 (w10.alloc (.cells #[.int .i64 rx, .int .i64 ry, .int .i64 rW, .int .i64 rH, .slice At L.length ct] 40)) := (Below.refl _ _).alloc (Nat.le_refl _) _
    have nk := Blk.new w10 40 #[.int .i64 rx, .int .i64 ry, .int .i64 rW, .int .i64 rH, .slice At L.length ct]
    generalize w10.alloc (.cells #[.int .i64 rx, .int .i64 ry, .int .i64 rW, .int .i64 rH, .slice At L.length ct] 40) = w11 at b nk ⊢
    obtain ⟨bbg, hbb⟩ : ∃ b, b = w10.heap.size := ⟨_, rfl⟩
    rw [← hbb] at nk ⊢
    have nk := Lib.hid nk
    have B11 := Lib.hid (B10.out.trans (b.mono B10.out.size))
    have Km11 := Lib.hid (Km10.out.below b Km10.out.lt)
    have Kr11 := Lib.hid (Kr10.out.below b Kr10.out.lt)
    have Kx11 := Lib.hid (Kx10.out.below b Kx10.out.lt)
    have Kd11 := Lib.hid (Kd10.out.below b Kd10.out.lt)
    have Kc11 := Lib.hid (Kc10.out.below b Kc10.out.lt)
    have Ki11 := Lib.hid (Ki10.out.below b Ki10.out.lt)
    have Or11 := Lib.hid (own_below Or10.out b)
    have Ot11 := Lib.hid (own_below Ot10.out b)
    have Kg11 := Lib.hid (nk.out)
    clear b B10 Km10 Kr10 Kx10 Kd10 Kc10 Ki10 Or10 Ot10
    clear nk hbb
    obtain ⟨cr0, cr1, cr2, cr3, cr4⟩ := cells_5 Kr11.out
    obtain ⟨cg0, cg1, cg2, cg3, cg4⟩ := cells_5 Kg11.out
    go_wp2_with fail
    refine (HEL.out _ _ _ _ w11 (Reads.of_own Ot11.out) (Reads.of_own Or11.out)).mono ?_
    rintro e w12 ⟨rfl, b⟩
    have B12 := Lib.hid (B11.out.trans (b.mono B11.out.size))
    have Km12 := Lib.hid (Km11.out.below b Km11.out.lt)
    have Kr12 := Lib.hid (Kr11.out.below b Kr11.out.lt)
    have Kx12 := Lib.hid (Kx11.out.below b Kx11.out.lt)
    have Kd12 := Lib.hid (Kd11.out.below b Kd11.out.lt)
    have Kc12 := Lib.hid (Kc11.out.below b Kc11.out.lt)
    have Ki12 := Lib.hid (Ki11.out.below b Ki11.out.lt)
    have Kg12 := Lib.hid (Kg11.out.below b Kg11.out.lt)
    have Or12 := Lib.hid (own_below Or11.out b)
    have Ot12 := Lib.hid (own_below Ot11.out b)
    clear b B11 Km11 Kr11 Kx11 Kd11 Kc11 Ki11 Kg11 Or11 Ot11
    clear cr0 cr1 cr2 cr3 cr4 cg0 cg1 cg2 cg3 cg4
    go_wp2_with fail
    refine (HTS.out w12 B12.out).mono ?_
    rintro e w13 ⟨rfl, hky, b⟩
    have B13 := Lib.hid (B12.out.trans (b.mono B12.out.size))
    have Km13 := Lib.hid (Km12.out.below b Km12.out.lt)
    have Kr13 := Lib.hid (Kr12.out.below b Kr12.out.lt)
    have Kx13 := Lib.hid (Kx12.out.below b Kx12.out.lt)
    have Kd13 := Lib.hid (Kd12.out.below b Kd12.out.lt)
    have Kc13 := Lib.hid (Kc12.out.below b Kc12.out.lt)
    have Ki13 := Lib.hid (Ki12.out.below b Ki12.out.lt)
    have Kg13 := Lib.hid (Kg12.out.below b Kg12.out.lt)
    have Or13 := Lib.hid (own_below Or12.out b)
    have Ot13 := Lib.hid (own_below Ot12.out b)
    have Ky13 := Lib.hid (hky)
    clear b B12 Km12 Kr12 Kx12 Kd12 Kc12 Ki12 Kg12 Or12 Ot12
    clear hky
    go_wp2_with fail
    refine (eqSitS_any xs xs _ _ _ _ w13 (blk_rd Kx13.out (siC_len xs)) (blk_rd Ky13.out (siC_len xs)) (by omega)).mono ?_
    rintro e w14 ⟨rfl, b⟩
    rw [decide_eq_true rfl]
    have B14 := Lib.hid (B13.out.trans (b.mono B13.out.size))
    have Km14 := Lib.hid (Km13.out.below b Km13.out.lt)
    have Kr14 := Lib.hid (Kr13.out.below b Kr13.out.lt)
    have Kx14 := Lib.hid (Kx13.out.below b Kx13.out.lt)
    have Kd14 := Lib.hid (Kd13.out.below b Kd13.out.lt)
    have Kc14 := Lib.hid (Kc13.out.below b Kc13.out.lt)
    have Ki14 := Lib.hid (Ki13.out.below b Ki13.out.lt)
    have Kg14 := Lib.hid (Kg13.out.below b Kg13.out.lt)
    have Ky14 := Lib.hid (Ky13.out.below b Ky13.out.lt)
    have Or14 := Lib.hid (own_below Or13.out b)
    have Ot14 := Lib.hid (own_below Ot13.out b)
    clear b B13 Km13 Kr13 Kx13 Kd13 Kc13 Ki13 Kg13 Ky13 Or13 Ot13
    clear Ky14
    go_wp2_with fail
    refine (HTD.out w14 B14.out).mono ?_
    rintro e w15 ⟨rfl, hky, b⟩
    have B15 := Lib.hid (B14.out.trans (b.mono B14.out.size))
    have Km15 := Lib.hid (Km14.out.below b Km14.out.lt)
    have Kr15 := Lib.hid (Kr14.out.below b Kr14.out.lt)
    have Kx15 := Lib.hid (Kx14.out.below b Kx14.out.lt)
    have Kd15 := Lib.hid (Kd14.out.below b Kd14.out.lt)
    have Kc15 := Lib.hid (Kc14.out.below b Kc14.out.lt)
    have Ki15 := Lib.hid (Ki14.out.below b Ki14.out.lt)
    have Kg15 := Lib.hid (Kg14.out.below b Kg14.out.lt)
    have Or15 := Lib.hid (own_below Or14.out b)
    have Ot15 := Lib.hid (own_below Ot14.out b)
    have Ky15 := Lib.hid (hky)
    clear b B14 Km14 Kr14 Kx14 Kd14 Kc14 Ki14 Kg14 Or14 Ot14
    clear hky
    go_wp2_with fail
    refine (eqDscS_any ds ds _ _ _ _ w15 (blk_rd Kd15.out (dsC_len ds)) (blk_rd Ky15.out (dsC_len ds)) (by omega)).mono ?_
    rintro e w16 ⟨rfl, b⟩
    rw [decide_eq_true rfl]
    have B16 := Lib.hid (B15.out.trans (b.mono B15.out.size))
    have Km16 := Lib.hid (Km15.out.below b Km15.out.lt)
    have Kr16 := Lib.hid (Kr15.out.below b Kr15.out.lt)
    have Kx16 := Lib.hid (Kx15.out.below b Kx15.out.lt)
    have Kd16 := Lib.hid (Kd15.out.below b Kd15.out.lt)
    have Kc16 := Lib.hid (Kc15.out.below b Kc15.out.lt)
    have Ki16 := Lib.hid (Ki15.out.below b Ki15.out.lt)
    have Kg16 := Lib.hid (Kg15.out.below b Kg15.out.lt)
    have Ky16 := Lib.hid (Ky15.out.below b Ky15.out.lt)
    have Or16 := Lib.hid (own_below Or15.out b)
    have Ot16 := Lib.hid (own_below Ot15.out b)
    clear b B15 Km15 Kr15 Kx15 Kd15 Kc15 Ki15 Kg15 Ky15 Or15 Ot15
    clear Ky16
    obtain ⟨cm0, cm1, cm2, cm3, cm4⟩ := cells_5 Km16.out
    obtain ⟨ci0, ci1, ci2, ci3, ci4⟩ := cells_5 Ki16.out
    go_upto_region 22 with (fail)
    refine' wp_region_slots (OverW w16) KeepW [isV (.agg #[.int .i64 x, .int .i64 y, .int .i64 W, .int .i64 H, .slice (some ⟨gm, 0, none⟩) cs.length cs.length]), isV (.agg #[.int .i64 x, .int .i64 y, .int .i64 W, .int .i64 H, .slice Am cs.length cm]), isMaskL x y W H 4 cs.length (bC cs), isV (.bool true)] mixed (by kernel_rfl) (by kernel_rfl) (OverW.drew (Below.refl _ _)) ?_ _ _ ?_ ?_ ?_
    · exact AllStable.cons (keep_V _) (AllStable.cons (keep_V _) (AllStable.cons (keep_maskL _ _ _ _ _ _ _) (AllStable.cons (keep_V _) (AllStable.nil))))
    rotate_left 2
    · intro f; simp only [lay, List.setIfInBounds_toArray, List.set_cons_succ, List.set_cons_zero, Nat.reduceAdd]; exact rfl
    · refine AllTo.cons ?_ ?_
      · intro f v' hS hT K hK
        have hc0 : v'.cell? ⟨bbi, 0, none⟩ = some (.int .i64 x) := (Below.cell hS (p := ⟨bbi, 0, none⟩) Ki16.out.lt).trans ci0
        have hc1 : v'.cell? ⟨bbi, 1, none⟩ = some (.int .i64 y) := (Below.cell hS (p := ⟨bbi, 1, none⟩) Ki16.out.lt).trans ci1
        have hc2 : v'.cell? ⟨bbi, 2, none⟩ = some (.int .i64 W) := (Below.cell hS (p := ⟨bbi, 2, none⟩) Ki16.out.lt).trans ci2
        have hc3 : v'.cell? ⟨bbi, 3, none⟩ = some (.int .i64 H) := (Below.cell hS (p := ⟨bbi, 3, none⟩) Ki16.out.lt).trans ci3
        have hc4 : v'.cell? ⟨bbi, 4, none⟩ = some (.slice (some ⟨gm, 0, none⟩) cs.length cs.length) := (Below.cell hS (p := ⟨bbi, 4, none⟩) Ki16.out.lt).trans ci4
        simp only [Act.put, List.setIfInBounds_toArray, List.set_cons_succ, List.set_cons_zero] at hK
        go_simp
        exact hK.out _ _ (rfl) hS (keep_refl _)
      refine AllTo.cons ?_ ?_
      · intro f v' hS hT K hK
        have hc0 : v'.cell? ⟨w.heap.size, 0, none⟩ = some (.int .i64 x) := (Below.cell hS (p := ⟨w.heap.size, 0, none⟩) Km16.out.lt).trans cm0
        have hc1 : v'.cell? ⟨w.heap.size, 1, none⟩ = some (.int .i64 y) := (Below.cell hS (p := ⟨w.heap.size, 1, none⟩) Km16.out.lt).trans cm1
        have hc2 : v'.cell? ⟨w.heap.size, 2, none⟩ = some (.int .i64 W) := (Below.cell hS (p := ⟨w.heap.size, 2, none⟩) Km16.out.lt).trans cm2
        have hc3 : v'.cell? ⟨w.heap.size, 3, none⟩ = some (.int .i64 H) := (Below.cell hS (p := ⟨w.heap.size, 3, none⟩) Km16.out.lt).trans cm3
        have hc4 : v'.cell? ⟨w.heap.size, 4, none⟩ = some (.slice Am cs.length cm) := (Below.cell hS (p := ⟨w.heap.size, 4, none⟩) Km16.out.lt).trans cm4
        simp only [Act.put, List.setIfInBounds_toArray, List.set_cons_succ, List.set_cons_zero] at hK
        go_simp
        exact hK.out _ _ (rfl) hS (keep_refl _)
      refine AllTo.cons ?_ ?_
      · intro f v' hS hT K hK
        have e1 := hT 1 _ rfl rfl
        dsimp only [isV] at e1
        simp only [Act.put, List.setIfInBounds_toArray, List.set_cons_succ, List.set_cons_zero, e1] at hK
        go_simp
        refine (HTM.out v' (B16.out.trans (hS.mono B16.out.size))).mono ?_
        rintro e w1 ⟨g, rfl, hk, b1⟩
        exact hK.out _ _ (⟨g, rfl, hk⟩) (hS.go b1) b1
      refine AllTo.cons ?_ ?_
      · intro f v' hS hT K hK
        have e0 := hT 0 _ rfl rfl
        dsimp only [isV] at e0
        obtain ⟨b2, e2, hk2⟩ := hT 2 _ rfl rfl
        simp only [Act.put, List.setIfInBounds_toArray, List.set_cons_succ, List.set_cons_zero, e0, e2] at hK
        go_simp
        refine (HEM.out _ _ v' (Kc16.out.below hS Kc16.out.lt) hk2).mono ?_
        rintro e w1 ⟨rfl, b1⟩
        exact hK.out _ _ (rfl) (hS.go b1) b1
      exact AllTo.nil
    · intro f v' hS hT K hK
      have e1 := hT 3 _ rfl
      dsimp only [isV] at e1
      go_simp
      refine hK.out _ _ ?_
      clear hT hK K
      (try simp only [e1])
      clear e1
      have b : Below w16.heap.size w16 v' := hS
      clear hS
      clear cm0 cm1 cm2 cm3 cm4 ci0 ci1 ci2 ci3 ci4
      have B17 := Lib.hid (B16.out.trans (b.mono B16.out.size))
      have Km17 := Lib.hid (Km16.out.below b Km16.out.lt)
      have Kr17 := Lib.hid (Kr16.out.below b Kr16.out.lt)
      have Kx17 := Lib.hid (Kx16.out.below b Kx16.out.lt)
      have Kd17 := Lib.hid (Kd16.out.below b Kd16.out.lt)
      have Kc17 := Lib.hid (Kc16.out.below b Kc16.out.lt)
      have Ki17 := Lib.hid (Ki16.out.below b Ki16.out.lt)
      have Kg17 := Lib.hid (Kg16.out.below b Kg16.out.lt)
      have Or17 := Lib.hid (own_below Or16.out b)
      have Ot17 := Lib.hid (own_below Ot16.out b)
      clear b B16 Km16 Kr16 Kx16 Kd16 Kc16 Ki16 Kg16 Or16 Ot16
      have OX := Lib.hid (own_blk (base := w.heap.size) Kx17.out (siC_len xs) zx (by unfold maxLen; omega))
      go_wp2_with fail
      refine (markSit_any (siC xs) w.heap.size (some ⟨bx, 0, none⟩) xs.length xs.length 1 v' OX.out (by omega) (by omega) (by omega)).mono ?_
      rintro e w18 ⟨rfl, gq⟩
      have B18 := Lib.hid (below_own B17.out OX.out gq (Nat.le_refl _) B17.out.size)
      have Km18 := Lib.hid (Km17.out.grown gq (ne_tag Km17.out Kx17.out (by decide)))
      have Kr18 := Lib.hid (Kr17.out.grown gq (ne_tag Kr17.out Kx17.out (by decide)))
      have Kd18 := Lib.hid (Kd17.out.grown gq (ne_tag Kd17.out Kx17.out (by decide)))
      have Kc18 := Lib.hid (Kc17.out.grown gq (ne_tag Kc17.out Kx17.out (by decide)))
      have Ki18 := Lib.hid (Ki17.out.grown gq (ne_tag Ki17.out Kx17.out (by decide)))
      have Kg18 := Lib.hid (Kg17.out.grown gq (ne_tag Kg17.out Kx17.out (by decide)))
      have Or18 := Lib.hid (Or17.out.kept gq (own_ne Or17.out Kx17.out (by decide)))
      have Ot18 := Lib.hid (Ot17.out.kept gq (own_ne Ot17.out Kx17.out (by decide)))
      clear gq OX B17 Kx17 Km17 Kr17 Kd17 Kc17 Ki17 Kg17 Or17 Ot17
      obtain ⟨k1, hk1⟩ : ∃ k1, k1 = 1 + 3 * xs.length := ⟨_, rfl⟩
      rw [← hk1]
      have k1a : 1 ≤ k1 := by omega
      have k1b : k1 ≤ 3145729 := by omega
      clear hk1
      have OX := Lib.hid (own_blk (base := w.heap.size) Kd18.out (dsC_len ds) zd (by unfold maxLen; omega))
      go_wp2_with fail
      refine (markDsc_any (dsC ds) w.heap.size (some ⟨bd, 0, none⟩) ds.length ds.length k1 w18 OX.out (by omega) (by omega) (by omega)).mono ?_
      rintro e w19 ⟨rfl, gq⟩
      have B19 := Lib.hid (below_own B18.out OX.out gq (Nat.le_refl _) B18.out.size)
      have Km19 := Lib.hid (Km18.out.grown gq (ne_tag Km18.out Kd18.out (by decide)))
      have Kr19 := Lib.hid (Kr18.out.grown gq (ne_tag Kr18.out Kd18.out (by decide)))
      have Kc19 := Lib.hid (Kc18.out.grown gq (ne_tag Kc18.out Kd18.out (by decide)))
      have Ki19 := Lib.hid (Ki18.out.grown gq (ne_tag Ki18.out Kd18.out (by decide)))
      have Kg19 := Lib.hid (Kg18.out.grown gq (ne_tag Kg18.out Kd18.out (by decide)))
      have Or19 := Lib.hid (Or18.out.kept gq (own_ne Or18.out Kd18.out (by decide)))
      have Ot19 := Lib.hid (Ot18.out.kept gq (own_ne Ot18.out Kd18.out (by decide)))
      clear gq OX B18 Kd18 Km18 Kr18 Kc18 Ki18 Kg18 Or18 Ot18
      obtain ⟨k2, hk2⟩ : ∃ k2, k2 = k1 + 6 * ds.length := ⟨_, rfl⟩
      rw [← hk2]
      have k2a : 1 ≤ k2 := by omega
      have k2b : k2 ≤ 9437185 := by omega
      clear hk2
      have OX := Lib.hid (own_blk (base := w.heap.size) Kc19.out (bC_len cs) zc (by unfold maxLen; omega))
      obtain ⟨ci0, ci1, ci2, ci3, ci4⟩ := cells_5 Ki19.out
      go_wp2_with fail
      refine (markMask_any x y W H cs w.heap.size (some ⟨gm, 0, none⟩) cs.length cs.length (k2 : Int) w19 OX.out rfl (by omega) (by omega) (by omega)).mono ?_
      rintro e w20 ⟨rfl, _, gq⟩
      clear ci0 ci1 ci2 ci3 ci4
      have B20 := Lib.hid (below_own B19.out OX.out gq (Nat.le_refl _) B19.out.size)
      have Km20 := Lib.hid (Km19.out.grown gq (ne_tag Km19.out Kc19.out (by decide)))
      have Kr20 := Lib.hid (Kr19.out.grown gq (ne_tag Kr19.out Kc19.out (by decide)))
      have Ki20 := Lib.hid (Ki19.out.grown gq (ne_tag Ki19.out Kc19.out (by decide)))
      have Kg20 := Lib.hid (Kg19.out.grown gq (ne_tag Kg19.out Kc19.out (by decide)))
      have Or20 := Lib.hid (Or19.out.kept gq (far_ne (fun q hq => by have := FR.out q hq; dsimp only; omega)))
      have Ot20 := Lib.hid (Ot19.out.kept gq (far_ne (fun q hq => by have := FT.out q hq; dsimp only; omega)))
      clear gq OX B19 Kc19 Km19 Kr19 Ki19 Kg19 Or19 Ot19
      have hneg : ¬ ((k2 : Int) + (cs.length : Int)) < 0 := by omega
      obtain ⟨cr0, cr1, cr2, cr3, cr4⟩ := cells_5 Kr20.out
      obtain ⟨cg0, cg1, cg2, cg3, cg4⟩ := cells_5 Kg20.out
      go_wp2_with fail
      refine (HEL.out _ _ _ _ w20 (Reads.of_own Ot20.out) (Reads.of_own Or20.out)).mono ?_
      rintro e w21 ⟨rfl, b⟩
      have B21 := Lib.hid (B20.out.trans (b.mono B20.out.size))
      have Km21 := Lib.hid (Km20.out.below b Km20.out.lt)
      have Kr21 := Lib.hid (Kr20.out.below b Kr20.out.lt)
      have Ki21 := Lib.hid (Ki20.out.below b Ki20.out.lt)
      have Kg21 := Lib.hid (Kg20.out.below b Kg20.out.lt)
      have Or21 := Lib.hid (own_below Or20.out b)
      have Ot21 := Lib.hid (own_below Ot20.out b)
      clear b B20 Km20 Kr20 Ki20 Kg20 Or20 Ot20
      clear cr0 cr1 cr2 cr3 cr4 cg0 cg1 cg2 cg3 cg4
      obtain ⟨cg0, cg1, cg2, cg3, cg4⟩ := cells_5 Kg21.out
      go_wp2_with fail
      refine (markMask_any rx ry rW rH L _ At L.length ct 1 w21 Ot21.out rfl (by omega) (by omega) (by omega)).mono ?_
      rintro e w22 ⟨rfl, oq, gq⟩
      clear cg0 cg1 cg2 cg3 cg4
      have B22 := Lib.hid (below_own B21.out Ot21.out gq (by have := HTb.out; omega) B21.out.size)
      have Km22 := Lib.hid (Km21.out.grown gq (ne_own Km21.out Ot21.out (by decide)))
      have Kr22 := Lib.hid (Kr21.out.grown gq (ne_own Kr21.out Ot21.out (by decide)))
      have Ki22 := Lib.hid (Ki21.out.grown gq (ne_own Ki21.out Ot21.out (by decide)))
      have Kg22 := Lib.hid (Kg21.out.grown gq (ne_own Kg21.out Ot21.out (by decide)))
      have Or22 := Lib.hid (Or21.out.kept gq (far_two FR.out FT.out))
      have Ot22 := Lib.hid oq
      clear gq oq B21 Km21 Kr21 Ki21 Kg21 Or21 Ot21
      obtain ⟨cg0, cg1, cg2, cg3, cg4⟩ := cells_5 Kg22.out
      go_wp2_with fail
      refine (heldMask_any rx ry rW rH At L.length ct 1 w22 (Reads.of_own Ot22.out) (by omega) (by omega) (by omega)).mono ?_
      rintro e w23 ⟨rfl, b⟩
      have B23 := Lib.hid (B22.out.trans (b.mono B22.out.size))
      have Km23 := Lib.hid (Km22.out.below b Km22.out.lt)
      have Kr23 := Lib.hid (Kr22.out.below b Kr22.out.lt)
      have Ki23 := Lib.hid (Ki22.out.below b Ki22.out.lt)
      have Kg23 := Lib.hid (Kg22.out.below b Kg22.out.lt)
      have Or23 := Lib.hid (own_below Or22.out b)
      have Ot23 := Lib.hid (own_below Ot22.out b)
      clear b B22 Km22 Kr22 Ki22 Kg22 Or22 Ot22
      clear cg0 cg1 cg2 cg3 cg4
      have hneg2 : ¬ (1 + (L.length : Int)) < 0 := by omega
      obtain ⟨cm0, cm1, cm2, cm3, cm4⟩ := cells_5 Km23.out
      go_upto_region 38 with (fail)
      refine' wp_region_dep (OverW w23) (KeepO w23 40 4 rx ry rW rH L.length (bC L)) [slotP 0 (isV (.slice A xs.length c)), slotP 1 (isRowL w23 77 xs.length (siC xs)), slotP 2 (isV (.slice B ds.length d)), slotP 3 (isRowL w23 79 ds.length (dsC ds)), slotP 4 (isV (.agg #[.int .i64 x, .int .i64 y, .int .i64 W, .int .i64 H, .slice Am cs.length cm])), slotP 5 (isMaskL x y W H 4 cs.length (bC cs)), slotP 6 (isRegT w23 4 rx ry rW rH rc L.length (bC L)), slotP 7 (isRegT w23 4 rx ry rW rH rc L.length (bC L)), slotP 8 (isRegA w23 4 rx ry rW rH L.length (bC L)), slotP 9 (isV (.int .i64 rc)), slotP 10 (isBoxS w23 40 5), storedO w23 10 40 4 rx ry rW rH L.length (bC L)] mixed (by kernel_rfl) (by kernel_rfl) (OverW.drew (Below.refl _ _)) ?_ _ _ ?_ ?_ ?_
      · exact AllStableD.cons (slotP_stable 0 (keepO_V _)) (AllStableD.cons (slotP_stable 1 (keepO_rowL (by decide) _ _)) (AllStableD.cons (slotP_stable 2 (keepO_V _)) (AllStableD.cons (slotP_stable 3 (keepO_rowL (by decide) _ _)) (AllStableD.cons (slotP_stable 4 (keepO_V _)) (AllStableD.cons (slotP_stable 5 (keepO_maskL _ _ _ _ (by decide) _ _)) (AllStableD.cons (slotP_stable 6 (keepO_regT (by decide) _)) (AllStableD.cons (slotP_stable 7 (keepO_regT (by decide) _)) (AllStableD.cons (slotP_stable 8 (keepO_regA (by decide))) (AllStableD.cons (slotP_stable 9 (keepO_V _)) (AllStableD.cons (slotP_stable 10 (keepO_box)) (AllStableD.cons (keepO_stored (by decide) _) (AllStableD.nil))))))))))))
      rotate_left 2
      · intro f; simp only [lay, List.setIfInBounds_toArray, List.set_cons_succ, List.set_cons_zero, Nat.reduceAdd]; exact rfl
      · refine AllToD.cons ?_ (slotP_local _ _ _) ?_
        · intro f v hS hT K hK
          simp only [Act.put, List.setIfInBounds_toArray, List.set_cons_succ, List.set_cons_zero] at hK
          go_simp
          exact hK.out _ _ (slotP_at (rfl)) hS (Or.inl (keep_refl _))
        refine AllToD.cons ?_ (slotP_local _ _ _) ?_
        · intro f v hS hT K hK
          have e0 := hT 0 _ rfl rfl
          dsimp only [slotP, isV] at e0
          simp only [Act.put, List.setIfInBounds_toArray, List.set_cons_succ, List.set_cons_zero, e0] at hK
          go_simp
          refine (HTS.out v (B23.out.trans (hS.mono B23.out.size))).mono ?_
          rintro e w1 ⟨rfl, hk, b1⟩
          exact hK.out _ _ (slotP_at (⟨v.heap.size, rfl, hS.size, hk⟩)) (hS.go b1) (Or.inl b1)
        refine AllToD.cons ?_ (slotP_local _ _ _) ?_
        · intro f v hS hT K hK
          simp only [Act.put, List.setIfInBounds_toArray, List.set_cons_succ, List.set_cons_zero] at hK
          go_simp
          exact hK.out _ _ (slotP_at (rfl)) hS (Or.inl (keep_refl _))
        refine AllToD.cons ?_ (slotP_local _ _ _) ?_
        · intro f v hS hT K hK
          have e2 := hT 2 _ rfl rfl
          dsimp only [slotP, isV] at e2
          simp only [Act.put, List.setIfInBounds_toArray, List.set_cons_succ, List.set_cons_zero, e2] at hK
          go_simp
          refine (HTD.out v (B23.out.trans (hS.mono B23.out.size))).mono ?_
          rintro e w1 ⟨rfl, hk, b1⟩
          exact hK.out _ _ (slotP_at (⟨v.heap.size, rfl, hS.size, hk⟩)) (hS.go b1) (Or.inl b1)
        refine AllToD.cons ?_ (slotP_local _ _ _) ?_
        · intro f v hS hT K hK
          have hc0 : v.cell? ⟨w.heap.size, 0, none⟩ = some (.int .i64 x) := (Below.cell hS (p := ⟨w.heap.size, 0, none⟩) Km23.out.lt).trans cm0
          have hc1 : v.cell? ⟨w.heap.size, 1, none⟩ = some (.int .i64 y) := (Below.cell hS (p := ⟨w.heap.size, 1, none⟩) Km23.out.lt).trans cm1
          have hc2 : v.cell? ⟨w.heap.size, 2, none⟩ = some (.int .i64 W) := (Below.cell hS (p := ⟨w.heap.size, 2, none⟩) Km23.out.lt).trans cm2
          have hc3 : v.cell? ⟨w.heap.size, 3, none⟩ = some (.int .i64 H) := (Below.cell hS (p := ⟨w.heap.size, 3, none⟩) Km23.out.lt).trans cm3
          have hc4 : v.cell? ⟨w.heap.size, 4, none⟩ = some (.slice Am cs.length cm) := (Below.cell hS (p := ⟨w.heap.size, 4, none⟩) Km23.out.lt).trans cm4
          simp only [Act.put, List.setIfInBounds_toArray, List.set_cons_succ, List.set_cons_zero] at hK
          go_simp
          exact hK.out _ _ (slotP_at (rfl)) hS (Or.inl (keep_refl _))
        refine AllToD.cons ?_ (slotP_local _ _ _) ?_
        · intro f v hS hT K hK
          have e4 := hT 4 _ rfl rfl
          dsimp only [slotP, isV] at e4
          simp only [Act.put, List.setIfInBounds_toArray, List.set_cons_succ, List.set_cons_zero, e4] at hK
          go_simp
          refine (HTM.out v (B23.out.trans (hS.mono B23.out.size))).mono ?_
          rintro e w1 ⟨g, rfl, hk, b1⟩
          exact hK.out _ _ (slotP_at (⟨g, rfl, hk⟩)) (hS.go b1) (Or.inl b1)
        refine AllToD.cons ?_ (slotP_local _ _ _) ?_
        · intro f v hS hT K hK
          obtain ⟨b1, e1, hb1, hk1⟩ := hT 1 _ rfl rfl
          obtain ⟨b3, e3, hb3, hk3⟩ := hT 3 _ rfl rfl
          obtain ⟨b5, e5, hk5⟩ := hT 5 _ rfl rfl
          simp only [Act.put, List.setIfInBounds_toArray, List.set_cons_succ, List.set_cons_zero, e1, e3, e5] at hK
          go_simp
          refine (HI.out _ _ _ _ _ _ v (mkX.out v b1 hk1) (mkD.out v b3 hk3) (HDir.out.below (B23.out.trans (hS.mono B23.out.size)))).mono ?_
          rintro e w1 ⟨vv, rfl, oo, b1⟩
          exact hK.out _ _ (slotP_at (⟨vv, rfl, own_mono oo hS.size⟩)) (hS.go b1) (Or.inl b1)
        refine AllToD.cons ?_ (slotP_local _ _ _) ?_
        · intro f v hS hT K hK
          obtain ⟨v6, e6, o6⟩ := hT 6 _ rfl rfl
          simp only [Act.put, List.setIfInBounds_toArray, List.set_cons_succ, List.set_cons_zero, e6] at hK
          go_simp
          exact hK.out _ _ (slotP_at (⟨v6, rfl, o6⟩)) hS (Or.inl (keep_refl _))
        refine AllToD.cons ?_ (slotP_local _ _ _) ?_
        · intro f v hS hT K hK
          obtain ⟨v7, e7, o7⟩ := hT 7 _ rfl rfl
          simp only [Act.put, List.setIfInBounds_toArray, List.set_cons_succ, List.set_cons_zero, e7] at hK
          go_simp
          exact hK.out _ _ (slotP_at (⟨v7, rfl, o7⟩)) hS (Or.inl (keep_refl _))
        refine AllToD.cons ?_ (slotP_local _ _ _) ?_
        · intro f v hS hT K hK
          obtain ⟨v7, e7, o7⟩ := hT 7 _ rfl rfl
          simp only [Act.put, List.setIfInBounds_toArray, List.set_cons_succ, List.set_cons_zero, e7] at hK
          go_simp
          exact hK.out _ _ (slotP_at (rfl)) hS (Or.inl (keep_refl _))
        refine AllToD.cons ?_ (slotP_local _ _ _) ?_
        · intro f v hS hT K hK
          simp only [Act.put, List.setIfInBounds_toArray, List.set_cons_succ, List.set_cons_zero] at hK
          go_simp
          exact hK.out _ _ (slotP_at (⟨v.heap.size, _, rfl, hS.size, rfl, Blk.new _ _ _⟩)) (hS.new _) (Or.inl (keep_new _ _))
        refine AllToD.cons ?_ (storedO_local (by kernel_rfl)) ?_
        · intro f v hS hT K hK
          obtain ⟨b10, ds10, e10, hb10, hn10, hk10⟩ := hT 10 _ rfl rfl
          obtain ⟨v8, e8, o8⟩ := hT 8 _ rfl rfl
          simp only [Act.put, List.setIfInBounds_toArray, List.set_cons_succ, List.set_cons_zero, e10, e8] at hK
          go_simp
          obtain ⟨z0, z1, z2, z3, z4, rfl⟩ := arr_5 hn10
          obtain ⟨ff0, ff1, ff2, ff3, ff4, ff5, ff6, ff7, ff8, ff9, ff10, ff11, ff12, ff13, ff14⟩ := facts_5 hk10
          obtain ⟨Ax, cx, hvx, _⟩ := own_shape o8
          subst hvx
          go_simp
          exact hK.out (.bool true) _ ⟨b10, _, by rw [upd_ne _ _ (by decide)]; exact e10, hb10, blk_set5 hk10 _ _ _ _ _, own_set5 hk10 (by decide) o8 _ _ _ _ _⟩ (below_5 hS hb10 _ _ _ _ _) (Or.inr (storeO_5 (by decide) hk10 o8))
        exact AllToD.nil
      · intro f v hS hT K hK
        have e2 := hT 9 _ rfl
        dsimp only [slotP, isV] at e2
        obtain ⟨rb, vr, e8, hrb, hkr, hor⟩ := hT 11 _ rfl
        go_simp
        refine hK.out _ _ ?_
        clear hT hK K
        (try simp only [e2, e8])
        clear e2 e8
        clear cm0 cm1 cm2 cm3 cm4
        have b : Below w23.heap.size w23 v := hS
        clear hS
        obtain ⟨Ap, cp, rfl, _⟩ := own_shape hor
        have B24 := Lib.hid (B23.out.trans (b.mono B23.out.size))
        have Km24 := Lib.hid (Km23.out.below b Km23.out.lt)
        have Kr24 := Lib.hid (Kr23.out.below b Kr23.out.lt)
        have Ki24 := Lib.hid (Ki23.out.below b Ki23.out.lt)
        have Kg24 := Lib.hid (Kg23.out.below b Kg23.out.lt)
        have Or24 := Lib.hid (own_below Or23.out b)
        have Ot24 := Lib.hid (own_below Ot23.out b)
        have Kp24 := Lib.hid (hkr)
        clear b B23 Km23 Kr23 Ki23 Kg23 Or23 Ot23
        have Op24 := Lib.hid hor
        clear hkr hor
        obtain ⟨cp0, cp1, cp2, cp3, cp4⟩ := cells_5 Kp24.out
        obtain ⟨cr0, cr1, cr2, cr3, cr4⟩ := cells_5 Kr24.out
        go_wp2_with fail
        refine (HEL.out _ _ _ _ v (Reads.of_own Op24.out) (Reads.of_own Or24.out)).mono ?_
        rintro e w25 ⟨rfl, b⟩
        have B25 := Lib.hid (B24.out.trans (b.mono B24.out.size))
        have Km25 := Lib.hid (Km24.out.below b Km24.out.lt)
        have Kr25 := Lib.hid (Kr24.out.below b Kr24.out.lt)
        have Ki25 := Lib.hid (Ki24.out.below b Ki24.out.lt)
        have Kg25 := Lib.hid (Kg24.out.below b Kg24.out.lt)
        have Kp25 := Lib.hid (Kp24.out.below b Kp24.out.lt)
        have Or25 := Lib.hid (own_below Or24.out b)
        have Ot25 := Lib.hid (own_below Ot24.out b)
        have Op25 := Lib.hid (own_below Op24.out b)
        clear b B24 Km24 Kr24 Ki24 Kg24 Kp24 Or24 Ot24 Op24
        clear cp0 cp1 cp2 cp3 cp4 cr0 cr1 cr2 cr3 cr4
        obtain ⟨cg0, cg1, cg2, cg3, cg4⟩ := cells_5 Kg25.out
        go_wp2_with fail
        refine (heldMask_any rx ry rW rH At L.length ct 1 w25 (Reads.of_own Ot25.out) (by omega) (by omega) (by omega)).mono ?_
        rintro e w26 ⟨rfl, b⟩
        have B26 := Lib.hid (B25.out.trans (b.mono B25.out.size))
        have Km26 := Lib.hid (Km25.out.below b Km25.out.lt)
        have Kr26 := Lib.hid (Kr25.out.below b Kr25.out.lt)
        have Ki26 := Lib.hid (Ki25.out.below b Ki25.out.lt)
        have Kg26 := Lib.hid (Kg25.out.below b Kg25.out.lt)
        have Kp26 := Lib.hid (Kp25.out.below b Kp25.out.lt)
        have Or26 := Lib.hid (own_below Or25.out b)
        have Ot26 := Lib.hid (own_below Ot25.out b)
        have Op26 := Lib.hid (own_below Op25.out b)
        clear b B25 Km25 Kr25 Ki25 Kg25 Kp25 Or25 Ot25 Op25
        clear cg0 cg1 cg2 cg3 cg4
        go_wp2_with fail
        go_ret
        exact ⟨rfl, B26.out⟩
end Go.Proofs.YtaaioengebaebaaGreatDoor
