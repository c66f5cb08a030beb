/- The law of NarrowestOf returns true for all arguments: the walk of the law. -/
import Derived.Test.YtnbpbidflacoiaaGreatDoorRows
import Derived.Test.YtnbpbidflacoiaaGreatDoorK9GA
import Derived.WalkKit
import Derived.ProofKit
import Derived.OpenShut
import Derived.BigQuiet
import Derived.Outline
import Derived.WalkSpells
import Derived.WalkLawsBesides
import Derived.Deep.DeepCutAuto
import Derived.Test.YtnbpbidflacoiaaGreatDoorK9RN5
import Derived.Test.YtnbpbidflacoiaaGreatDoorK9RM3
import Derived.Test.YtnbpbidflacoiaaGreatDoorK9GB
import Derived.Test.YtnbpbidflacoiaaGreatDoorK9GD
import Derived.Test.YtnbpbidflacoiaaGreatDoorK9GE
namespace Go.Proofs.YtnbpbidflacoiaaGreatDoor
open Go.ChangeShapes Go.WideShapes Go.ChangeAt Go.RowKit Go.Sort

set_option maxRecDepth 100000 in
set_option maxHeartbeats 8000000 in
theorem lawNarr_any (xs : List Sit) (ds : List Dsc) (cs : List Bool) (x y W H : Int) (A B Am : Option Addr) (c d cm : Nat) (w : World) (h : HasSit w xs A) (h2 : HasDsc w ds B) (h3 : Reads w w.heap.size 1 Am cs.length (bC cs)) (hn : cs.length ≤ 9223372036854775807) (hdir : Dirs w) :
    Calls Tryz.prog 5 #[.slice A xs.length c, .slice B ds.length d, maskV x y W H Am cs.length cm] w fun e w' => e = .returned (.bool true) ∧ Below w.heap.size w w' := by
  have mixed : Tryz.prog.follows Departure.mixedOrders = true := by kernel_rfl
  obtain ⟨ra, rc, hres⟩ : ∃ p q, narP xs ds x y W H cs.length = (p, q) := ⟨_, _, rfl⟩
  have HZ0 := Lib.hid (fun W' (hb : Below w.heap.size w W') => szSitS_any xs A c W' (h.below hb).1 (h.below hb).2.1 (h.below hb).2.2)
  have KN := Lib.hid (blks_one w 28 #[.int .i64 x, .int .i64 y, .int .i64 W, .int .i64 H, .slice Am cs.length cm])
  by_cases hz0 : szSi xs < 0
  · skip
    unfold maskV
    generalize szSi xs = z0 at *
    go_enter Tryz.func5, Tryz.ntmps5
    go_wp2_with fail
    generalize hW : (w.alloc (.cells #[.int .i64 x, .int .i64 y, .int .i64 W, .int .i64 H, .slice Am cs.length cm] 28)) = W0
    obtain ⟨km, b, hz0⟩ := KN.out W0 hW.symm
    clear hW
    have z0 := Nat.le_of_eq hz0.symm; clear hz0
    have B1 := Lib.hid (show Below w.heap.size w W0 from b)
    have Km1 := Lib.hid (km)
    clear b
    clear km
    refine (HZ0.out W0 B1.out).mono ?_
    rintro e w2 ⟨rfl, b⟩
    have B2 := Lib.hid (B1.out.trans (b.mono B1.out.size))
    have Km2 := Lib.hid (Km1.out.below b Km1.out.lt)
    clear b B1 Km1
    go_wp2_with fail
    go_ret
    exact ⟨rfl, B2.out⟩
  have q0 := szSi_all (xs := xs) (by omega)
  have HZ1 := Lib.hid (fun W' (hb : Below w.heap.size w W') => szDscS_any ds B d (szSi xs) (by omega) (by omega) W' (h2.below hb).1 (h2.below hb).2.1 (h2.below hb).2.2)
  by_cases hz1 : szDscS (szSi xs) ds < 0
  · skip
    unfold maskV
    generalize szDscS (szSi xs) ds = z1 at *
    generalize szSi xs = z0 at *
    go_enter Tryz.func5, Tryz.ntmps5
    go_wp2_with fail
    generalize hW : (w.alloc (.cells #[.int .i64 x, .int .i64 y, .int .i64 W, .int .i64 H, .slice Am cs.length cm] 28)) = W0
    obtain ⟨km, b, hz0⟩ := KN.out W0 hW.symm
    clear hW
    have z0 := Nat.le_of_eq hz0.symm; clear hz0
    have B1 := Lib.hid (show Below w.heap.size w W0 from b)
    have Km1 := Lib.hid (km)
    clear b
    clear km
    refine (HZ0.out W0 B1.out).mono ?_
    rintro e w2 ⟨rfl, b⟩
    have B2 := Lib.hid (B1.out.trans (b.mono B1.out.size))
    have Km2 := Lib.hid (Km1.out.below b Km1.out.lt)
    clear b B1 Km1
    go_wp2_with fail
    refine (HZ1.out w2 B2.out).mono ?_
    rintro e w3 ⟨rfl, b⟩
    have B3 := Lib.hid (B2.out.trans (b.mono B2.out.size))
    have Km3 := Lib.hid (Km2.out.below b Km2.out.lt)
    clear b B2 Km2
    go_wp2_with fail
    go_ret
    exact ⟨rfl, B3.out⟩
  have q1 := szDscS_pos (left := szSi xs) (xs := ds) (by omega) (by omega)
  have HZ2 := Lib.hid (fun W' => szML_any x y W H Am cs.length cm (szDscS (szSi xs) ds) (by omega) (by omega) hn W')
  unfold maskV at HZ2
  by_cases hz2 : szM (szDscS (szSi xs) ds) cs.length < 0
  · skip
    unfold maskV
    generalize szM (szDscS (szSi xs) ds) cs.length = z2 at *
    generalize szDscS (szSi xs) ds = z1 at *
    generalize szSi xs = z0 at *
    go_enter Tryz.func5, Tryz.ntmps5
    go_wp2_with fail
    generalize hW : (w.alloc (.cells #[.int .i64 x, .int .i64 y, .int .i64 W, .int .i64 H, .slice Am cs.length cm] 28)) = W0
    obtain ⟨km, b, hz0⟩ := KN.out W0 hW.symm
    clear hW
    have z0 := Nat.le_of_eq hz0.symm; clear hz0
    have B1 := Lib.hid (show Below w.heap.size w W0 from b)
    have Km1 := Lib.hid (km)
    clear b
    clear km
    refine (HZ0.out W0 B1.out).mono ?_
    rintro e w2 ⟨rfl, b⟩
    have B2 := Lib.hid (B1.out.trans (b.mono B1.out.size))
    have Km2 := Lib.hid (Km1.out.below b Km1.out.lt)
    clear b B1 Km1
    go_wp2_with fail
    refine (HZ1.out w2 B2.out).mono ?_
    rintro e w3 ⟨rfl, b⟩
    have B3 := Lib.hid (B2.out.trans (b.mono B2.out.size))
    have Km3 := Lib.hid (Km2.out.below b Km2.out.lt)
    clear b B2 Km2
    obtain ⟨cm0, cm1, cm2, cm3, cm4⟩ := cells_5 Km3.out
    go_wp2_with fail
    refine (HZ2.out w3).mono ?_
    rintro e w4 ⟨rfl, b⟩
    have B4 := Lib.hid (B3.out.trans (b.mono B3.out.size))
    have Km4 := Lib.hid (Km3.out.below b Km3.out.lt)
    clear b B3 Km3
    clear cm0 cm1 cm2 cm3 cm4
    go_wp2_with fail
    go_ret
    exact ⟨rfl, B4.out⟩
  have q2 : cs.length ≤ 1048576 := by unfold szM at hz2; split at hz2 <;> omega
  have NX : xs.length ≤ 1048576 := q0.1
  have ND : ds.length ≤ 1048576 := q1.1
  have hcs : cs.length ≤ 9223372036854775807 := hn
  have sX := h.2.2; have sD := h2.2.2; have lX := h.2.1; have lD := h2.2.1
  have HTS := Lib.hid (fun W' (hb : Below w.heap.size w W') => toSitS_any xs A c W' (h.below hb).1 NX)
  have HTD := Lib.hid (fun W' (hb : Below w.heap.size w W') => toDscS_any ds B d W' (h2.below hb).1 ND)
  have HTM := Lib.hid (fun W' (hb : Below w.heap.size w W') => toMask_any x y W H cs Am cm W' ((h3.below hb).more hb.size) q2)
  have HEM := Lib.hid (fun g g' W' (r1 : Blk W' g 4 (bC cs).toArray) (r2 : Blk W' g' 4 (bC cs).toArray) => eqMask_same x y W H cs (some ⟨g, 0, none⟩) (some ⟨g', 0, none⟩) cs.length cs.length W' (blk_rd r1 (bC_len cs)) (blk_rd r2 (bC_len cs)) hn)
  have mkX := Lib.hid (fun W' b (hk : Blk W' b 77 (siC xs).toArray) => (⟨blk_rd hk (siC_len xs), lX, sX⟩ : HasSit W' xs (some ⟨b, 0, none⟩)))
  have mkD := Lib.hid (fun W' b (hk : Blk W' b 79 (dsC ds).toArray) => (⟨blk_rd hk (dsC_len ds), lD, sD⟩ : HasDsc W' ds (some ⟨b, 0, none⟩)))
  have HS := Lib.hid (fun A' B' g c' cm' W' (h1 : HasSit W' xs A') (h2' : HasDsc W' ds B') => (show Calls Tryz.prog 22 #[.slice A' xs.length c', .slice B' ds.length ds.length, maskV x y W H g cs.length cm'] W' (fun e w' => e = .returned (.tuple #[.int .i64 ra, .int .i64 rc]) ∧ Below W'.heap.size W' w') from by have := specNarr_any xs ds x y W H A' B' g c' ds.length cs.length cm' hn W' h1 h2' (Nat.le_refl _); rw [hres] at this; exact this))
  have HI := Lib.hid (fun A' B' g c' cm' W' (h1 : HasSit W' xs A') (h2' : HasDsc W' ds B') (hd : Dirs W') => (show Calls Tryz.prog 23 #[.slice A' xs.length c', .slice B' ds.length ds.length, maskV x y W H g cs.length cm'] W' (fun e w' => e = .returned (.tuple #[.int .i64 ra, .int .i64 rc]) ∧ Below W'.heap.size W' w') from by have := implNarr_any xs ds x y W H A' B' g c' ds.length cs.length cm' hn W' h1 h2' (Nat.le_refl _) hd; rw [hres] at this; exact this))
  clear hres
  unfold maskV at HS HI
  have HDir := Lib.hid hdir
  clear h h2 h3 hdir sX sD lX lD
  unfold maskV at HTM HEM ⊢
  generalize szM (szDscS (szSi xs) ds) cs.length = z2 at *
  generalize szDscS (szSi xs) ds = z1 at *
  generalize szSi xs = z0 at *
  go_enter Tryz.func5, Tryz.ntmps5
  go_wp2_with fail
  generalize hW : (w.alloc (.cells #[.int .i64 x, .int .i64 y, .int .i64 W, .int .i64 H, .slice Am cs.length cm] 28)) = W0
  obtain ⟨km, b, hz0⟩ := KN.out W0 hW.symm
  clear hW
  have z0 := Nat.le_of_eq hz0.symm; clear hz0
  have B1 := Lib.hid (show Below w.heap.size w W0 from b)
  have Km1 := Lib.hid (km)
  clear b
  clear km
  refine (HZ0.out W0 B1.out).mono ?_
  rintro e w2 ⟨rfl, b⟩
  have B2 := Lib.hid (B1.out.trans (b.mono B1.out.size))
  have Km2 := Lib.hid (Km1.out.below b Km1.out.lt)
  clear b B1 Km1
  go_wp2_with fail
  refine (HZ1.out w2 B2.out).mono ?_
  rintro e w3 ⟨rfl, b⟩
  have B3 := Lib.hid (B2.out.trans (b.mono B2.out.size))
  have Km3 := Lib.hid (Km2.out.below b Km2.out.lt)
  clear b B2 Km2
  obtain ⟨cm0, cm1, cm2, cm3, cm4⟩ := cells_5 Km3.out
  go_wp2_with fail
  refine (HZ2.out w3).mono ?_
  rintro e w4 ⟨rfl, b⟩
  have B4 := Lib.hid (B3.out.trans (b.mono B3.out.size))
  have Km4 := Lib.hid (Km3.out.below b Km3.out.lt)
  clear b B3 Km3
  clear cm0 cm1 cm2 cm3 cm4
  obtain ⟨cm0, cm1, cm2, cm3, cm4⟩ := cells_5 Km4.out
  go_upto_region 11 with (fail)
  refine' wp_region_slots (OverW w4) KeepW [isV (.slice A xs.length c), isRowL w4 77 xs.length (siC xs), isV (.slice B ds.length d), isRowL w4 79 ds.length (dsC ds), isV (.agg #[.int .i64 x, .int .i64 y, .int .i64 W, .int .i64 H, .slice Am cs.length cm]), isMaskL x y W H 4 cs.length (bC cs), isV (.tuple #[.int .i64 ra, .int .i64 rc]), isV (.tuple #[.int .i64 ra, .int .i64 rc]), isV (.int .i64 ra), isV (.int .i64 rc), isV (.int .i64 ra)] mixed (by kernel_rfl) (by kernel_rfl) (OverW.drew (Below.refl _ _)) ?_ _ _ ?_ ?_ ?_
  · exact AllStable.cons (keep_V _) (AllStable.cons (keep_rowL w4 _ _ _) (AllStable.cons (keep_V _) (AllStable.cons (keep_rowL w4 _ _ _) (AllStable.cons (keep_V _) (AllStable.cons (keep_maskL _ _ _ _ _ _ _) (AllStable.cons (keep_V _) (AllStable.cons (keep_V _) (AllStable.cons (keep_V _) (AllStable.cons (keep_V _) (AllStable.cons (keep_V _) (AllStable.nil)))))))))))
  rotate_left 2
  · intro f; simp only [lay, List.setIfInBounds_toArray, List.set_cons_succ, List.set_cons_zero, Nat.reduceAdd]; exact rfl
  · refine AllTo.cons ?_ ?_
    · intro f v hS hT K hK
      simp only [Act.put, List.setIfInBounds_toArray, List.set_cons_succ, List.set_cons_zero] at hK
      go_simp
      exact hK.out _ _ (rfl) hS (keep_refl _)
    refine AllTo.cons ?_ ?_
    · intro f v hS hT K hK
      have e0 := hT 0 _ rfl rfl
      dsimp only [isV] at e0
      simp only [Act.put, List.setIfInBounds_toArray, List.set_cons_succ, List.set_cons_zero, e0] at hK
      go_simp
      refine (HTS.out v (B4.out.trans (hS.mono B4.out.size))).mono ?_
      rintro e w1 ⟨rfl, hk, b1⟩
      exact hK.out _ _ (⟨v.heap.size, rfl, hS.size, hk⟩) (hS.go b1) b1
    refine AllTo.cons ?_ ?_
    · intro f v hS hT K hK
      simp only [Act.put, List.setIfInBounds_toArray, List.set_cons_succ, List.set_cons_zero] at hK
      go_simp
      exact hK.out _ _ (rfl) hS (keep_refl _)
    refine AllTo.cons ?_ ?_
    · intro f v hS hT K hK
      have e2 := hT 2 _ rfl rfl
      dsimp only [isV] at e2
      simp only [Act.put, List.setIfInBounds_toArray, List.set_cons_succ, List.set_cons_zero, e2] at hK
      go_simp
      refine (HTD.out v (B4.out.trans (hS.mono B4.out.size))).mono ?_
      rintro e w1 ⟨rfl, hk, b1⟩
      exact hK.out _ _ (⟨v.heap.size, rfl, hS.size, hk⟩) (hS.go b1) b1
    refine AllTo.cons ?_ ?_
    · intro f v hS hT K hK
      have hc0 : v.cell? ⟨w.heap.size, 0, none⟩ = some (.int .i64 x) := (Below.cell hS (p := ⟨w.heap.size, 0, none⟩) Km4.out.lt).trans cm0
      have hc1 : v.cell? ⟨w.heap.size, 1, none⟩ = some (.int .i64 y) := (Below.cell hS (p := ⟨w.heap.size, 1, none⟩) Km4.out.lt).trans cm1
      have hc2 : v.cell? ⟨w.heap.size, 2, none⟩ = some (.int .i64 W) := (Below.cell hS (p := ⟨w.heap.size, 2, none⟩) Km4.out.lt).trans cm2
      have hc3 : v.cell? ⟨w.heap.size, 3, none⟩ = some (.int .i64 H) := (Below.cell hS (p := ⟨w.heap.size, 3, none⟩) Km4.out.lt).trans cm3
      have hc4 : v.cell? ⟨w.heap.size, 4, none⟩ = some (.slice Am cs.length cm) := (Below.cell hS (p := ⟨w.heap.size, 4, none⟩) Km4.out.lt).trans cm4
      simp only [Act.put, List.setIfInBounds_toArray, List.set_cons_succ, List.set_cons_zero] at hK
      go_simp
      exact hK.out _ _ (rfl) hS (keep_refl _)
    refine AllTo.cons ?_ ?_
    · intro f v hS hT K hK
      have e4 := hT 4 _ rfl rfl
      dsimp only [isV] at e4
      simp only [Act.put, List.setIfInBounds_toArray, List.set_cons_succ, List.set_cons_zero, e4] at hK
      go_simp
      refine (HTM.out v (B4.out.trans (hS.mono B4.out.size))).mono ?_
      rintro e w1 ⟨g, rfl, hk, b1⟩
      exact hK.out _ _ (⟨g, rfl, hk⟩) (hS.go b1) b1
    refine AllTo.cons ?_ ?_
    · intro f v hS hT K hK
      obtain ⟨b1, e1, hb1, hk1⟩ := hT 1 _ rfl rfl
      obtain ⟨b3, e3, hb3, hk3⟩ := hT 3 _ rfl rfl
      obtain ⟨b5, e5, hk5⟩ := hT 5 _ rfl rfl
      simp only [Act.put, List.setIfInBounds_toArray, List.set_cons_succ, List.set_cons_zero, e1, e3, e5] at hK
      go_simp
      refine (HS.out _ _ _ _ _ v (mkX.out v b1 hk1) (mkD.out v b3 hk3)).mono ?_
      rintro e w1 ⟨rfl, b1⟩
      exact hK.out _ _ (rfl) (hS.go b1) b1
    refine AllTo.cons ?_ ?_
    · intro f v hS hT K hK
      have e6 := hT 6 _ rfl rfl
      dsimp only [isV] at e6
      simp only [Act.put, List.setIfInBounds_toArray, List.set_cons_succ, List.set_cons_zero, e6] at hK
      go_simp
      exact hK.out _ _ (rfl) hS (keep_refl _)
    refine AllTo.cons ?_ ?_
    · intro f v hS hT K hK
      have e7 := hT 7 _ rfl rfl
      dsimp only [isV] at e7
      simp only [Act.put, List.setIfInBounds_toArray, List.set_cons_succ, List.set_cons_zero, e7] at hK
      go_simp
      exact hK.out _ _ (rfl) hS (keep_refl _)
    refine AllTo.cons ?_ ?_
    · intro f v hS hT K hK
      have e7 := hT 7 _ rfl rfl
      dsimp only [isV] at e7
      simp only [Act.put, List.setIfInBounds_toArray, List.set_cons_succ, List.set_cons_zero, e7] at hK
      go_simp
      exact hK.out _ _ (rfl) hS (keep_refl _)
    refine AllTo.cons ?_ ?_
    · intro f v hS hT K hK
      have e8 := hT 8 _ rfl rfl
      dsimp only [isV] at e8
      simp only [Act.put, List.setIfInBounds_toArray, List.set_cons_succ, List.set_cons_zero, e8] at hK
      go_simp
      exact hK.out _ _ (rfl) hS (keep_refl _)
    exact AllTo.nil
  · intro f v hS hT K hK
    have e1 := hT 9 _ rfl
    have e2 := hT 10 _ rfl
    dsimp only [isV] at e1 e2
    go_simp
    refine hK.out _ _ ?_
    clear hT hK K
    (try simp only [e1, e2])
    clear e1 e2
    clear cm0 cm1 cm2 cm3 cm4
    have b : Below w4.heap.size w4 v := hS
    clear hS
    have B5 := Lib.hid (B4.out.trans (b.mono B4.out.size))
    have Km5 := Lib.hid (Km4.out.below b Km4.out.lt)
    clear b B4 Km4
    go_wp2_with fail
    refine (HTS.out v B5.out).mono ?_
    rintro e w6 ⟨rfl, hkx, b⟩
    have B6 := Lib.hid (B5.out.trans (b.mono B5.out.size))
    have Km6 := Lib.hid (Km5.out.below b Km5.out.lt)
    have Kx6 := Lib.hid (hkx)
    clear b B5 Km5
    obtain ⟨bx, hbx⟩ : ∃ b, b = v.heap.size := ⟨_, rfl⟩
    clear hkx
    rw [← hbx] at Kx6 ⊢
    clear hbx
    go_wp2_with fail
    refine (HTD.out w6 B6.out).mono ?_
    rintro e w7 ⟨rfl, hkd, b⟩
    have B7 := Lib.hid (B6.out.trans (b.mono B6.out.size))
    have Km7 := Lib.hid (Km6.out.below b Km6.out.lt)
    have Kx7 := Lib.hid (Kx6.out.below b Kx6.out.lt)
    have Kd7 := Lib.hid (hkd)
    clear b B6 Km6 Kx6
    obtain ⟨bd, hbd⟩ : ∃ b, b = w6.heap.size := ⟨_, rfl⟩
    clear hkd
    rw [← hbd] at Kd7 ⊢
    clear hbd
    obtain ⟨cm0, cm1, cm2, cm3, cm4⟩ := cells_5 Km7.out
    go_wp2_with fail
    refine (HTM.out w7 B7.out).mono ?_
    rintro e w8 ⟨gm, rfl, hkm, b⟩
    have B8 := Lib.hid (B7.out.trans (b.mono B7.out.size))
    have Km8 := Lib.hid (Km7.out.below b Km7.out.lt)
    have Kx8 := Lib.hid (Kx7.out.below b Kx7.out.lt)
    have Kd8 := Lib.hid (Kd7.out.below b Kd7.out.lt)
    have Kc8 := Lib.hid (hkm)
    clear b B7 Km7 Kx7 Kd7
    clear hkm
    clear cm0 cm1 cm2 cm3 cm4
    go_upto_region 15 with (fail)
    have b : Below w8.heap.size w8 (w8.alloc (.cells #[.int .i64 x, .int .i64 y, .int .i64 W, .int .i64 H, .slice (some ⟨gm, 0, none⟩) cs.length cs.length] 40)) := (Below.refl _ _).alloc (Nat.le_refl _) _
    have nk := Blk.new w8 40 #[.int .i64 x, .int .i64 y, .int .i64 W, .int .i64 H, .slice (some ⟨gm, 0, none⟩) cs.length cs.length]
    generalize w8.alloc (.cells #[.int .i64 x, .int .i64 y, .int .i64 W, .int .i64 H, .slice (some ⟨gm, 0, none⟩) cs.length cs.length] 40) = w9 at b nk ⊢
    obtain ⟨bbi, hbb⟩ : ∃ b, b = w8.heap.size := ⟨_, rfl⟩
    rw [← hbb] at nk ⊢
    have nk := Lib.hid nk
    have B9 := Lib.hid (B8.out.trans (b.mono B8.out.size))
    have Km9 := Lib.hid (Km8.out.below b Km8.out.lt)
    have Kx9 := Lib.hid (Kx8.out.below b Kx8.out.lt)
    have Kd9 := Lib.hid (Kd8.out.below b Kd8.out.lt)
    have Kc9 := Lib.hid (Kc8.out.below b Kc8.out.lt)
    have Ki9 := Lib.hid (nk.out)
    clear b B8 Km8 Kx8 Kd8 Kc8
    clear nk hbb
    obtain ⟨ci0, ci1, ci2, ci3, ci4⟩ := cells_5 Ki9.out
    go_wp2_with fail
    refine (HI.out _ _ _ _ _ w9 (mkX.out _ _ Kx9.out) (mkD.out _ _ Kd9.out) (HDir.out.below B9.out)).mono ?_
    rintro e w10 ⟨rfl, b⟩
    have B10 := Lib.hid (B9.out.trans (b.mono B9.out.size))
    have Km10 := Lib.hid (Km9.out.below b Km9.out.lt)
    have Kx10 := Lib.hid (Kx9.out.below b Kx9.out.lt)
    have Kd10 := Lib.hid (Kd9.out.below b Kd9.out.lt)
    have Kc10 := Lib.hid (Kc9.out.below b Kc9.out.lt)
    have Ki10 := Lib.hid (Ki9.out.below b Ki9.out.lt)
    clear b B9 Km9 Kx9 Kd9 Kc9 Ki9
    clear ci0 ci1 ci2 ci3 ci4
    go_wp2_with fail
    refine (HTS.out w10 B10.out).mono ?_
    rintro e w11 ⟨rfl, hky, b⟩
    have B11 := Lib.hid (B10.out.trans (b.mono B10.out.size))
    have Km11 := Lib.hid (Km10.out.below b Km10.out.lt)
    have Kx11 := Lib.hid (Kx10.out.below b Kx10.out.lt)
    have Kd11 := Lib.hid (Kd10.out.below b Kd10.out.lt)
    have Kc11 := Lib.hid (Kc10.out.below b Kc10.out.lt)
    have Ki11 := Lib.hid (Ki10.out.below b Ki10.out.lt)
    have Ky11 := Lib.hid (hky)
    clear b B10 Km10 Kx10 Kd10 Kc10 Ki10
    clear hky
    go_wp2_with fail
    refine (eqSitS_any xs xs _ _ _ _ w11 (blk_rd Kx11.out (siC_len xs)) (blk_rd Ky11.out (siC_len xs)) (by omega)).mono ?_
    rintro e w12 ⟨rfl, b⟩
    rw [decide_eq_true rfl]
    have B12 := Lib.hid (B11.out.trans (b.mono B11.out.size))
    have Km12 := Lib.hid (Km11.out.below b Km11.out.lt)
    have Kx12 := Lib.hid (Kx11.out.below b Kx11.out.lt)
    have Kd12 := Lib.hid (Kd11.out.below b Kd11.out.lt)
    have Kc12 := Lib.hid (Kc11.out.below b Kc11.out.lt)
    have Ki12 := Lib.hid (Ki11.out.below b Ki11.out.lt)
    have Ky12 := Lib.hid (Ky11.out.below b Ky11.out.lt)
    clear b B11 Km11 Kx11 Kd11 Kc11 Ki11 Ky11
    clear Kx12 Ky12
    go_wp2_with fail
    refine (HTD.out w12 B12.out).mono ?_
    rintro e w13 ⟨rfl, hky, b⟩
    have B13 := Lib.hid (B12.out.trans (b.mono B12.out.size))
    have Km13 := Lib.hid (Km12.out.below b Km12.out.lt)
    have Kd13 := Lib.hid (Kd12.out.below b Kd12.out.lt)
    have Kc13 := Lib.hid (Kc12.out.below b Kc12.out.lt)
    have Ki13 := Lib.hid (Ki12.out.below b Ki12.out.lt)
    have Ky13 := Lib.hid (hky)
    clear b B12 Km12 Kd12 Kc12 Ki12
    clear hky
    go_wp2_with fail
    refine (eqDscS_any ds ds _ _ _ _ w13 (blk_rd Kd13.out (dsC_len ds)) (blk_rd Ky13.out (dsC_len ds)) (by omega)).mono ?_
    rintro e w14 ⟨rfl, b⟩
    rw [decide_eq_true rfl]
    have B14 := Lib.hid (B13.out.trans (b.mono B13.out.size))
    have Km14 := Lib.hid (Km13.out.below b Km13.out.lt)
    have Kd14 := Lib.hid (Kd13.out.below b Kd13.out.lt)
    have Kc14 := Lib.hid (Kc13.out.below b Kc13.out.lt)
    have Ki14 := Lib.hid (Ki13.out.below b Ki13.out.lt)
    have Ky14 := Lib.hid (Ky13.out.below b Ky13.out.lt)
    clear b B13 Km13 Kd13 Kc13 Ki13 Ky13
    clear Kd14 Ky14
    obtain ⟨cm0, cm1, cm2, cm3, cm4⟩ := cells_5 Km14.out
    obtain ⟨ci0, ci1, ci2, ci3, ci4⟩ := cells_5 Ki14.out
    go_upto_region 22 with (fail)
    refine' wp_region_slots (OverW w14) KeepW [isV (.agg #[.int .i64 x, .int .i64 y, .int .i64 W, .int .i64 H, .slice (some ⟨gm, 0, none⟩) cs.length cs.length]), isV (.agg #[.int .i64 x, .int .i64 y, .int .i64 W, .int .i64 H, .slice Am cs.length cm]), isMaskL x y W H 4 cs.length (bC cs), isV (.bool true)] mixed (by kernel_rfl) (by kernel_rfl) (OverW.drew (Below.refl _ _)) ?_ _ _ ?_ ?_ ?_
    · exact AllStable.cons (keep_V _) (AllStable.cons (keep_V _) (AllStable.cons (keep_maskL _ _ _ _ _ _ _) (AllStable.cons (keep_V _) (AllStable.nil))))
    rotate_left 2
    · intro f; simp only [lay, List.setIfInBounds_toArray, List.set_cons_succ, List.set_cons_zero, Nat.reduceAdd]; exact rfl
    · refine AllTo.cons ?_ ?_
      · intro f v' hS hT K hK
        have hc0 : v'.cell? ⟨bbi, 0, none⟩ = some (.int .i64 x) := (Below.cell hS (p := ⟨bbi, 0, none⟩) Ki14.out.lt).trans ci0
        have hc1 : v'.cell? ⟨bbi, 1, none⟩ = some (.int .i64 y) := (Below.cell hS (p := ⟨bbi, 1, none⟩) Ki14.out.lt).trans ci1
        have hc2 : v'.cell? ⟨bbi, 2, none⟩ = some (.int .i64 W) := (Below.cell hS (p := ⟨bbi, 2, none⟩) Ki14.out.lt).trans ci2
        have hc3 : v'.cell? ⟨bbi, 3, none⟩ = some (.int .i64 H) := (Below.cell hS (p := ⟨bbi, 3, none⟩) Ki14.out.lt).trans ci3
        have hc4 : v'.cell? ⟨bbi, 4, none⟩ = some (.slice (some ⟨gm, 0, none⟩) cs.length cs.length) := (Below.cell hS (p := ⟨bbi, 4, none⟩) Ki14.out.lt).trans ci4
        simp only [Act.put, List.setIfInBounds_toArray, List.set_cons_succ, List.set_cons_zero] at hK
        go_simp
        exact hK.out _ _ (rfl) hS (keep_refl _)
      refine AllTo.cons ?_ ?_
      · intro f v' hS hT K hK
        have hc0 : v'.cell? ⟨w.heap.size, 0, none⟩ = some (.int .i64 x) := (Below.cell hS (p := ⟨w.heap.size, 0, none⟩) Km14.out.lt).trans cm0
        have hc1 : v'.cell? ⟨w.heap.size, 1, none⟩ = some (.int .i64 y) := (Below.cell hS (p := ⟨w.heap.size, 1, none⟩) Km14.out.lt).trans cm1
        have hc2 : v'.cell? ⟨w.heap.size, 2, none⟩ = some (.int .i64 W) := (Below.cell hS (p := ⟨w.heap.size, 2, none⟩) Km14.out.lt).trans cm2
        have hc3 : v'.cell? ⟨w.heap.size, 3, none⟩ = some (.int .i64 H) := (Below.cell hS (p := ⟨w.heap.size, 3, none⟩) Km14.out.lt).trans cm3
        have hc4 : v'.cell? ⟨w.heap.size, 4, none⟩ = some (.slice Am cs.length cm) := (Below.cell hS (p := ⟨w.heap.size, 4, none⟩) Km14.out.lt).trans cm4
        simp only [Act.put, List.setIfInBounds_toArray, List.set_cons_succ, List.set_cons_zero] at hK
        go_simp
        exact hK.out _ _ (rfl) hS (keep_refl _)
      refine AllTo.cons ?_ ?_
      · intro f v' hS hT K hK
        have e1 := hT 1 _ rfl rfl
        dsimp only [isV] at e1
        simp only [Act.put, List.setIfInBounds_toArray, List.set_cons_succ, List.set_cons_zero, e1] at hK
        go_simp
        refine (HTM.out v' (B14.out.trans (hS.mono B14.out.size))).mono ?_
        rintro e w1 ⟨g, rfl, hk, b1⟩
        exact hK.out _ _ (⟨g, rfl, hk⟩) (hS.go b1) b1
      refine AllTo.cons ?_ ?_
      · intro f v' hS hT K hK
        have e0 := hT 0 _ rfl rfl
        dsimp only [isV] at e0
        obtain ⟨b2, e2, hk2⟩ := hT 2 _ rfl rfl
        simp only [Act.put, List.setIfInBounds_toArray, List.set_cons_succ, List.set_cons_zero, e0, e2] at hK
        go_simp
        refine (HEM.out _ _ v' (Kc14.out.below hS Kc14.out.lt) hk2).mono ?_
        rintro e w1 ⟨rfl, b1⟩
        exact hK.out _ _ (rfl) (hS.go b1) b1
      exact AllTo.nil
    · intro f v' hS hT K hK
      have e1 := hT 3 _ rfl
      dsimp only [isV] at e1
      go_simp
      refine hK.out _ _ ?_
      clear hT hK K
      have hS' : Below w.heap.size w v' := B14.out.trans (hS.mono B14.out.size)
      go_wp2_with fail
      go_ret
      exact ⟨rfl, hS'⟩
end Go.Proofs.YtnbpbidflacoiaaGreatDoor
