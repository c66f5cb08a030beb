/- The law of CenterOf: the walk of the law. -/
import Derived.Test.YteffnidkkeeaiaaRows
import Derived.Test.YteffnidkkeeaiaaL0
import Derived.Test.YteffnidkkeeaiaaM0
import Derived.WalkKit
import Derived.ProofKit
import Derived.OpenShut
import Derived.BigQuiet
import Derived.Outline
import Derived.WalkSpells
import Derived.WalkLawsBesides
import Derived.Deep.DeepCutAuto
import Derived.Test.YteffnidkkeeaiaaN7
import Derived.Deep.RegionHeld3
namespace Go.Proofs.Yteffnidkkeeaiaa
open Go.ChangeShapes Go.WideShapes Go.ChangeAt Go.RowKit Go.Sort

set_option maxRecDepth 100000 in
set_option maxHeartbeats 8000000 in
theorem lawCenter_small (x y W H : Int) (xs : List Bool) (A : Option Addr) (c : Nat) (w : World) (hr : Reads w w.heap.size 1 A xs.length (bC xs)) (hm : xs.length ≤ 1048576) :
    Calls Try.prog 3 #[maskV x y W H A xs.length c] w fun e w' => e = .returned (.bool true) ∧ Below w.heap.size w w' := by
  have hm' : xs.length ≤ 9223372036854775807 := by omega
  obtain ⟨⟨px, py, code⟩, hP⟩ : ∃ t, cenP x y W H xs = t := ⟨_, rfl⟩
  have R : ∀ W, Below w.heap.size w W → Reads W W.heap.size 1 A xs.length (bC xs) := fun W hb => (hr.below hb).more hb.size
  have HR := Lib.hid R; clear R hr
  have SZ := fun W1 => szM_small x y W H A xs.length c hm W1
  have TM := fun W1 hb => toMask_any x y W H xs A c W1 (HR.out W1 hb) hm
  have SC := fun A' c' W1 hr => specCenter x y W H A' c' xs hm' W1 hr
  have IC := fun A' c' W1 hr => implCenter x y W H A' c' xs hm' W1 hr
  have EM := fun A1 A2 c1 c2 W1 h1 h2 => eqMask_same x y W H xs A1 A2 c1 c2 W1 h1 h2 hm'
  rw [hP] at SC IC
  unfold maskV at SZ TM SC IC EM ⊢
  unfold cenVal at SC IC
  dsimp only at SC IC
  clear hP
  have HSZ := Lib.hid SZ; have HTM := Lib.hid TM; have HSC := Lib.hid SC; have HIC := Lib.hid IC; have HEM := Lib.hid EM
  clear SZ TM SC IC EM
  have hB := Blk.new w 26 #[.int .i64 x, .int .i64 y, .int .i64 W, .int .i64 H, .slice A xs.length c]
  have hb0 : Below w.heap.size w (w.alloc (.cells #[.int .i64 x, .int .i64 y, .int .i64 W, .int .i64 H, .slice A xs.length c] 26)) := (Below.refl _ _).alloc (Nat.le_refl _) _
  obtain ⟨d0, d1, d2, d3, d4⟩ := mask_cells hB
  go_enter Try.func3, Try.ntmps3
  go_upto_region 1 with (fail)
  generalize w.alloc (.cells #[.int .i64 x, .int .i64 y, .int .i64 W, .int .i64 H, .slice A xs.length c] 26) = W0 at *
  go_wp2_with fail
  refine (HSZ.out _).mono ?_; rintro e w1 ⟨rfl, b1⟩
  have hB1 := hB.below b1 hB.lt
  have hb1 := hb0.trans (b1.mono hb0.size)
  clear b1 hb0 hB d0 d1 d2 d3 d4
  obtain ⟨d0, d1, d2, d3, d4⟩ := mask_cells hB1
  go_wp2_with fail
  refine (HTM.out _ hb1).mono ?_; rintro e w2 ⟨g2, rfl, r2, b2⟩
  have hB2 := hB1.below b2 hB1.lt
  have hb2 := hb1.trans (b2.mono hb1.size)
  clear b2 hb1 hB1 d0 d1 d2 d3 d4
  go_wp2_with fail
  refine (HSC.out _ _ _ (r2.reads (bC_len xs))).mono ?_; rintro e w3 ⟨rfl, b3⟩
  have hB3 := hB2.below b3 hB2.lt
  have hb3 := hb2.trans (b3.mono hb2.size)
  clear b3 hb2 hB2 r2
  obtain ⟨d0, d1, d2, d3, d4⟩ := mask_cells hB3
  have z3 := hB3.lt
  have hP3 := Blk.new w3 28 #[.int .i64 px, .int .i64 py]
  have hB3' := hB3.alloc (.cells #[.int .i64 px, .int .i64 py] 28)
  have hb3' := hb3.alloc hb3.size (.cells #[.int .i64 px, .int .i64 py] 28)
  go_wp2_with fail
  refine (HTM.out _ hb3').mono ?_; rintro e w4 ⟨g4, rfl, r4, b4⟩
  have hB4 := hB3'.below b4 hB3'.lt
  have hb4 := hb3'.trans (b4.mono hb3'.size)
  have hP4 := hP3.below b4 hP3.lt
  clear b4 hb3' hB3' hP3 hB3 hb3 d0 d1 d2 d3 d4
  have r4' := r4.reads (bC_len xs)
  have z4 := hB4.lt
  have z4' := hP4.lt
  have hM4 := Blk.new w4 32 #[.int .i64 x, .int .i64 y, .int .i64 W, .int .i64 H, .slice (some ⟨g4, 0, none⟩) xs.length xs.length]
  have o4 : Below w4.heap.size w4 (w4.alloc (.cells #[.int .i64 x, .int .i64 y, .int .i64 W, .int .i64 H, .slice (some ⟨g4, 0, none⟩) xs.length xs.length] 32)) := (Below.refl _ _).alloc (Nat.le_refl _) _
  have r4'' := (r4'.below o4).more o4.size
  have hB4' := hB4.below o4 z4
  have hP4' := hP4.below o4 z4'
  have hb4' := hb4.trans (o4.mono hb4.size)
  clear hB4 hP4 hb4 o4 r4 r4'
  go_wp2_with fail
  refine (HIC.out _ _ _ r4'').mono ?_; rintro e w5 ⟨rfl, b5⟩
  have hB5 := hB4'.below b5 hB4'.lt
  have hP5 := hP4'.below b5 hP4'.lt
  have hM5 := hM4.below b5 hM4.lt
  have r5 := (r4''.below b5).more b5.size
  have hb5 := hb4'.trans (b5.mono hb4'.size)
  clear b5 hB4' hP4' hM4 r4'' hb4'
  obtain ⟨e0, e1, _⟩ := pair_facts hP5
  have z5 := hP5.lt
  have o5 : Below w5.heap.size w5 (w5.alloc (.cells #[.int .i64 px, .int .i64 py] 28)) := (Below.refl _ _).alloc (Nat.le_refl _) _
  go_wp2_with (go_at_call 17; refine (eqPoint_same px py _).mono ?_; rintro e w6 ⟨rfl, b6⟩; have B6 := Lib.hid (o5.trans (b6.mono o5.size)); clear b6)
  have hB6 := hB5.below B6.out hB5.lt
  have hM6 := hM5.below B6.out hM5.lt
  have r6 := (r5.below B6.out).more B6.out.size
  have hb6 := hb5.trans (B6.out.mono hb5.size)
  clear hB5 hP5 hM5 r5 hb5 e0 e1 z5 o5 B6 z3 z4 z4'
  have R6 := Lib.hid r6; clear r6
  obtain ⟨d0, d1, d2, d3, d4⟩ := mask_cells hB6
  obtain ⟨m0, m1, m2, m3, m4⟩ := mask_cells hM6
  have zB := hB6.lt
  have zM := hM6.lt
  go_region_held3 (fun w' => (w'.cell? ⟨w.heap.size, 0, none⟩ = some (.int .i64 x) ∧ w'.cell? ⟨w.heap.size, 1, none⟩ = some (.int .i64 y) ∧ w'.cell? ⟨w.heap.size, 2, none⟩ = some (.int .i64 W) ∧ w'.cell? ⟨w.heap.size, 3, none⟩ = some (.int .i64 H) ∧ w'.cell? ⟨w.heap.size, 4, none⟩ = some (.slice A xs.length c)) ∧
      (w'.cell? ⟨w4.heap.size, 0, none⟩ = some (.int .i64 x) ∧ w'.cell? ⟨w4.heap.size, 1, none⟩ = some (.int .i64 y) ∧ w'.cell? ⟨w4.heap.size, 2, none⟩ = some (.int .i64 W) ∧ w'.cell? ⟨w4.heap.size, 3, none⟩ = some (.int .i64 H) ∧ w'.cell? ⟨w4.heap.size, 4, none⟩ = some (.slice (some ⟨g4, 0, none⟩) xs.length xs.length)))
    (first | exact ⟨⟨k0, k1, k2, k3, k4⟩, ⟨l0, l1, l2, l3, l4⟩⟩ | exact ⟨⟨d0, d1, d2, d3, d4⟩, ⟨m0, m1, m2, m3, m4⟩⟩ | (go_keep; done) | ((try dsimp only); (repeat' apply And.intro) <;> (go_keep; done)))
    (first | (go_at_call 15; refine (HTM.out w6.drew (by exact hb6.drew)).mono ?_; rintro e wa ⟨ga, rfl, ra, ba⟩; have Ba : Below w6.heap.size w6 wa := (Below.refl w6.heap.size w6).drew.trans ba; have RA := Lib.hid (ra.reads (bC_len xs)); have R6' := Lib.hid ((R6.out.below Ba).more Ba.size); clear ra ba; obtain ⟨k0, k1, k2, k3, k4⟩ := mask_cells (hB6.below Ba zB); obtain ⟨l0, l1, l2, l3, l4⟩ := mask_cells (hM6.below Ba zM)) | (go_at_call 18; refine (HEM.out _ _ _ _ wa R6'.out RA.out).mono ?_; rintro e wb ⟨rfl, bb⟩; have Bb : Below w6.heap.size w6 wb := Ba.trans (bb.mono Ba.size); clear bb; obtain ⟨n0, n1, n2, n3, n4⟩ := mask_cells (hB6.below Bb zB); obtain ⟨o0, o1, o2, o3, o4⟩ := mask_cells (hM6.below Bb zM)) | fail)
  all_goals
    go_wp2_with fail
    go_ret
    exact ⟨rfl, hb6.trans (Bb.mono hb6.size)⟩
end Go.Proofs.Yteffnidkkeeaiaa
