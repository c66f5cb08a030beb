/- The law FnVotes returns true for every code: the walk of the law. -/
import Derived.Test.YtihhpmhigmegjaaDoorRows
import Derived.Test.YtihhpmhigmegjaaDoorL0
import Derived.Test.YtihhpmhigmegjaaDoorM0
import Derived.WalkKit
import Derived.ProofKit
import Derived.OpenShut
import Derived.BigQuiet
import Derived.Outline
import Derived.WalkSpells
import Derived.WalkLawsBesides
import Derived.Deep.DeepCutAuto
import Derived.Test.YtihhpmhigmegjaaDoorVTC
import Derived.Test.YtihhpmhigmegjaaDoorVTH
import Derived.Test.YtihhpmhigmegjaaDoorVT1
import Derived.Test.YtihhpmhigmegjaaDoorK5
import Derived.Test.YtihhpmhigmegjaaDoorV4
import Derived.Deep.QuietTactic
namespace Go.Proofs.YtihhpmhigmegjaaDoor
open Go.ChangeShapes Go.WideShapes Go.ChangeAt Go.RowKit Go.Sort

theorem votes_ex (xs : List Bal) : ∃ a b c d : Int, countT xs = #[.int .i64 a, .int .i64 b, .int .i64 c, .int .i64 d] ∧ areB xs = (d == 0) ∧ (d = 0 → ∃ s m l : Bool, carT xs 0 = #[.bool s, .int .i64 0] ∧ carT xs 1 = #[.bool m, .int .i64 0] ∧ carT xs 2 = #[.bool l, .int .i64 0] ∧ (l = true → m = true) ∧ (m = true → s = true)) := by
  cases h : areB xs
  · exact ⟨0, 0, 0, 1, countT_no h, rfl, fun h => by cases h⟩
  · refine ⟨_, _, _, 0, countT_yes h, rfl, fun _ => ⟨carB xs 0, carB xs 1, carB xs 2, ?_, ?_, ?_, (car_all h).1, (car_all h).2⟩⟩
    all_goals
      unfold carT vcodeB
      rw [h]
      rfl
set_option maxRecDepth 100000 in
set_option maxHeartbeats 8000000 in
theorem lawVotes_any (A : Option Addr) (n c : Nat) (w : World) (hn : n ≤ 9223372036854775807) (h : n ≤ 4096 → Code8 w A n) :
    Calls Tryd.prog 3 #[.slice A n c] w fun e w' => e = .returned (.bool true) ∧ Below w.heap.size w w' := by
  have HC := Lib.hid h; clear h
  by_cases hb : (4096 : Int) < n
  · have hd : decide ((4096 : Int) < n) = true := by simpa using hb
    have HD := Lib.hid hd; clear hd hb
    go_enter Tryd.func3, Tryd.ntmps3
    go_wp2_with fail
    refine (big_any A n c hn w).mono ?_; rw [HD.out]; rintro e w' ⟨rfl, rfl⟩
    go_wp2_with fail
    go_ret
    exact ⟨rfl, Below.refl _ _⟩
  · have hd : decide ((4096 : Int) < n) = false := by simpa using hb
    have HD := Lib.hid hd; clear hd
    have hc := HC.out (by omega)
    have Cd0 := Lib.hid hc; clear hc hb
    have B0 := Lib.hid (Below.refl w.heap.size w)
    go_enter Tryd.func3, Tryd.ntmps3
    go_wp2_with fail
    refine (big_any A n c hn w).mono ?_; rw [HD.out]; rintro e w' ⟨rfl, rfl⟩
    go_wp2_with fail
    refine (drawCar_any A n c w Cd0.out).mono ?_
    rintro e w1 ⟨L, r, Bq, dq, rfl, own, hsm1, hln1, b⟩
    have B1 := Lib.hid (B0.out.trans (b.mono B0.out.size))
    have Cd1 := Lib.hid (Cd0.out.below b)
    have OL1 := Lib.hid (own)
    clear b B0 Cd0
    clear own
    have hz1 : ∀ b ∈ L, b.name.size ≤ 9223372036854775807 := fun b hb => by have := hsm1 b hb; dsimp only [SmallB] at this; omega
    have HH1 := Lib.hid (fun W (h : W.ownsRow w.heap.size 32 3 (.slice Bq L.length dq) L.length (baC L)) => (⟨Reads.of_own h, by omega, hz1⟩ : HasBal W L Bq))
    clear hsm1
    obtain ⟨ca, cb, hca⟩ := carT_form L r
    obtain ⟨fa, fb, fc, fd, hct, hab, hfd⟩ := votes_ex L
    have IC := Lib.hid (fun W h => (show Calls Tryd.prog 7 #[.slice Bq L.length dq, .int .i64 r] W (fun e w' => e = .returned (.tuple #[.bool ca, .int .i64 cb]) ∧ Below W.heap.size W w') from by rw [← hca]; exact implIsCar_any L r Bq dq W (HH1.out W h)))
    have SC := Lib.hid (fun W h => (show Calls Tryd.prog 8 #[.slice Bq L.length dq, .int .i64 r] W (fun e w' => e = .returned (.tuple #[.bool ca, .int .i64 cb]) ∧ Below W.heap.size W w') from by rw [← hca]; exact specIsCar_any L r Bq dq W (HH1.out W h)))
    have IT := Lib.hid (fun W h => (show Calls Tryd.prog 9 #[.slice Bq L.length dq] W (fun e w' => e = .returned (.tuple #[.int .i64 fa, .int .i64 fb, .int .i64 fc, .int .i64 fd]) ∧ Below W.heap.size W w') from by rw [← hct]; exact implCount_any L Bq dq W (HH1.out W h)))
    have ST := Lib.hid (fun W h => (show Calls Tryd.prog 10 #[.slice Bq L.length dq] W (fun e w' => e = .returned (.tuple #[.int .i64 fa, .int .i64 fb, .int .i64 fc, .int .i64 fd]) ∧ Below W.heap.size W w') from by rw [← hct]; exact specCount_any L Bq dq W (HH1.out W h)))
    have IA := Lib.hid (fun W h => hab ▸ implAre_has L Bq dq W (HH1.out W h))
    have IV := Lib.hid (fun k W h => implIsCar_any L k Bq dq W (HH1.out W h))
    have HFD := Lib.hid hfd
    clear hca hct hab hfd HH1
    go_wp2_with fail
    refine (IC.out _ OL1.out).mono ?_
    rintro e w2 ⟨rfl, b⟩
    clear IC
    have B2 := Lib.hid (B1.out.trans (b.mono B1.out.size))
    have Cd2 := Lib.hid (Cd1.out.below b)
    have OL2 := Lib.hid (own_below OL1.out b)
    clear b B1 Cd1 OL1
    go_wp2_with fail
    refine (SC.out _ OL2.out).mono ?_
    rintro e w3 ⟨rfl, b⟩
    clear SC
    have B3 := Lib.hid (B2.out.trans (b.mono B2.out.size))
    have Cd3 := Lib.hid (Cd2.out.below b)
    have OL3 := Lib.hid (own_below OL2.out b)
    clear b B2 Cd2 OL2
    go_wp2_with fail
    refine (IT.out _ OL3.out).mono ?_
    rintro e w4 ⟨rfl, b⟩
    clear IT
    have B4 := Lib.hid (B3.out.trans (b.mono B3.out.size))
    have Cd4 := Lib.hid (Cd3.out.below b)
    have OL4 := Lib.hid (own_below OL3.out b)
    clear b B3 Cd3 OL3
    go_wp2_with fail
    refine (ST.out _ OL4.out).mono ?_
    rintro e w5 ⟨rfl, b⟩
    clear ST
    have B5 := Lib.hid (B4.out.trans (b.mono B4.out.size))
    have Cd5 := Lib.hid (Cd4.out.below b)
    have OL5 := Lib.hid (own_below OL4.out b)
    clear b B4 Cd4 OL4
    go_wp2_with fail
    refine (drawCas_any A n c _ Cd5.out).mono ?_
    rintro e w6 ⟨X, ⟨nm, ct, wt⟩, Xq, xq, rfl, own, hsm2, hln2, hsb, b⟩
    have B6 := Lib.hid (B5.out.trans (b.mono B5.out.size))
    have Cd6 := Lib.hid (Cd5.out.below b)
    have OL6 := Lib.hid (own_below OL5.out b)
    have OX6 := Lib.hid (own)
    clear b B5 Cd5 OL5
    clear own
    have hz2 : ∀ b ∈ X, b.name.size ≤ 9223372036854775807 := fun b hb => by have := hsm2 b hb; dsimp only [SmallB] at this; omega
    have HH2 := Lib.hid (fun W (h : W.ownsRow w5.heap.size 32 3 (.slice Xq X.length xq) X.length (baC X)) => (⟨Reads.of_own h, by omega, hz2⟩ : HasBal W X Xq))
    clear hsm2
    dsimp only [SmallB] at hsb
    have hclc := castL_le X ⟨nm, ct, wt⟩
    have hz3 : ∀ b ∈ castL X ⟨nm, ct, wt⟩, b.name.size ≤ 9223372036854775807 := fun b hb => by
      unfold castL at hb
      split at hb
      · split at hb
        · rcases castN_mem hb with h1 | h1
          · exact hz2 b h1
          · rw [h1]; dsimp only; omega
        · simp at hb
      · simp at hb
    have IK := Lib.hid (fun W (h : W.ownsRow w5.heap.size 32 3 (.slice Xq X.length xq) X.length (baC X)) => implCast_any X ⟨nm, ct, wt⟩ (by dsimp only; omega) Xq xq (own_none h) W (HH2.out W h))
    have SK := Lib.hid (fun W h => specCast_any X ⟨nm, ct, wt⟩ (by dsimp only; omega) Xq xq W (HH2.out W h))
    have JK := Lib.hid (fun (hc0 : castC X ⟨nm, ct, wt⟩ = 0) (C : Option Addr) (cc : Nat) W (bs : Nat) (h : W.ownsRow bs 32 3 (.slice C (castL X ⟨nm, ct, wt⟩).length cc) (castL X ⟨nm, ct, wt⟩).length (baC (castL X ⟨nm, ct, wt⟩))) => (by
      have h1 := implCast_any (castL X ⟨nm, ct, wt⟩) ⟨nm, ct, wt⟩ (by dsimp only; omega) C cc (own_none h) W ⟨Reads.of_own h, by omega, hz3⟩
      obtain ⟨q1, q2⟩ := cast_again (xs := X) (y := ⟨nm, ct, wt⟩) hc0
      rw [q1, q2] at h1
      exact h1 : Calls Tryd.prog 12 #[.slice C (castL X ⟨nm, ct, wt⟩).length cc, Bal.val ⟨nm, ct, wt⟩] W fun e w' => ∃ v, e = .returned (.tuple #[v, .int .i64 0]) ∧ w'.ownsRow W.heap.size 32 3 v (castL X ⟨nm, ct, wt⟩).length (baC (castL X ⟨nm, ct, wt⟩)) ∧ Below W.heap.size W w'))
    clear hz2 hz3 HH2
    unfold Bal.val at *
    dsimp only at *
    generalize castL X ⟨nm, ct, wt⟩ = M at *
    generalize castC X ⟨nm, ct, wt⟩ = cc at *
    go_upto_region 9 with (fail)
    have b : Below w6.heap.size w6 (w6.alloc (.cells #[.string nm, .int .i64 ct, .int .i64 wt] 32)) := (Below.refl _ _).alloc (Nat.le_refl _) _
    have nk := Blk.new w6 32 #[.string nm, .int .i64 ct, .int .i64 wt]
    generalize w6.alloc (.cells #[.string nm, .int .i64 ct, .int .i64 wt] 32) = w7 at b nk ⊢
    have nk := Lib.hid nk
    have B7 := Lib.hid (B6.out.trans (b.mono B6.out.size))
    have Cd7 := Lib.hid (Cd6.out.below b)
    have OL7 := Lib.hid (own_below OL6.out b)
    have OX7 := Lib.hid (own_below OX6.out b)
    have Y7 := Lib.hid (nk.out)
    clear b B6 Cd6 OL6 OX6
    clear nk
    obtain ⟨q0, q1, q2⟩ := cells_3 Y7.out
    go_wp2_with fail
    refine (IK.out _ OX7.out).mono ?_
    rintro e w8 ⟨v, rfl, own, b⟩
    clear q0 q1 q2 IK
    obtain ⟨AM, cM, rfl, _⟩ := own_shape own
    have B8 := Lib.hid (B7.out.trans (b.mono B7.out.size))
    have Cd8 := Lib.hid (Cd7.out.below b)
    have OL8 := Lib.hid (own_below OL7.out b)
    have OX8 := Lib.hid (own_below OX7.out b)
    have Y8 := Lib.hid (Y7.out.below b Y7.out.lt)
    have OM8 := Lib.hid (own)
    clear b B7 Cd7 OL7 OX7 Y7
    clear own
    obtain ⟨q0, q1, q2⟩ := cells_3 Y8.out
    go_wp2_with fail
    refine (SK.out _ OX8.out).mono ?_
    rintro e w9 ⟨v, rfl, own, b⟩
    clear q0 q1 q2 SK
    obtain ⟨AN, cN, rfl, _⟩ := own_shape own
    have B9 := Lib.hid (B8.out.trans (b.mono B8.out.size))
    have Cd9 := Lib.hid (Cd8.out.below b)
    have OL9 := Lib.hid (own_below OL8.out b)
    have OX9 := Lib.hid (own_below OX8.out b)
    have Y9 := Lib.hid (Y8.out.below b Y8.out.lt)
    have OM9 := Lib.hid (own_below OM8.out b)
    have ON9 := Lib.hid (own)
    clear b B8 Cd8 OL8 OX8 Y8 OM8
    clear own
    clear OX9
    go_wp2_with fail
    refine (drawQuo_any A n c _ Cd9.out).mono ?_
    rintro e w10 ⟨Z, t, p, Zq, zq, rfl, own, hsm4, hln4, b⟩
    have B10 := Lib.hid (B9.out.trans (b.mono B9.out.size))
    have Cd10 := Lib.hid (Cd9.out.below b)
    have OL10 := Lib.hid (own_below OL9.out b)
    have Y10 := Lib.hid (Y9.out.below b Y9.out.lt)
    have OM10 := Lib.hid (own_below OM9.out b)
    have ON10 := Lib.hid (own_below ON9.out b)
    have OZ10 := Lib.hid (own)
    clear b B9 Cd9 OL9 Y9 OM9 ON9
    clear Cd10
    clear own
    have hz4 : ∀ b ∈ Z, b.name.size ≤ 9223372036854775807 := fun b hb => by have := hsm4 b hb; dsimp only [SmallB] at this; omega
    have HH4 := Lib.hid (fun W (h : W.ownsRow w9.heap.size 32 3 (.slice Zq Z.length zq) Z.length (baC Z)) => (⟨Reads.of_own h, by omega, hz4⟩ : HasBal W Z Zq))
    clear hsm4
    obtain ⟨qa, qb, hqa⟩ := quoT_form Z t p
    have IQ := Lib.hid (fun W h => (show Calls Tryd.prog 15 #[.slice Zq Z.length zq, .int .i64 t, .int .i64 p] W (fun e w' => e = .returned (.tuple #[.bool qa, .int .i64 qb]) ∧ Below W.heap.size W w') from by rw [← hqa]; exact implQuo_any Z t p Zq zq W (HH4.out W h)))
    have SQ := Lib.hid (fun W h => (show Calls Tryd.prog 16 #[.slice Zq Z.length zq, .int .i64 t, .int .i64 p] W (fun e w' => e = .returned (.tuple #[.bool qa, .int .i64 qb]) ∧ Below W.heap.size W w') from by rw [← hqa]; exact specQuo_any Z t p Zq zq W (HH4.out W h)))
    clear hqa HH4
    go_wp2_with fail
    refine (IQ.out _ OZ10.out).mono ?_
    rintro e w11 ⟨rfl, b⟩
    clear IQ
    have B11 := Lib.hid (B10.out.trans (b.mono B10.out.size))
    have OL11 := Lib.hid (own_below OL10.out b)
    have Y11 := Lib.hid (Y10.out.below b Y10.out.lt)
    have OM11 := Lib.hid (own_below OM10.out b)
    have ON11 := Lib.hid (own_below ON10.out b)
    have OZ11 := Lib.hid (own_below OZ10.out b)
    clear b B10 OL10 Y10 OM10 ON10 OZ10
    go_wp2_with fail
    refine (SQ.out _ OZ11.out).mono ?_
    rintro e w12 ⟨rfl, b⟩
    clear SQ
    have B12 := Lib.hid (B11.out.trans (b.mono B11.out.size))
    have OL12 := Lib.hid (own_below OL11.out b)
    have Y12 := Lib.hid (Y11.out.below b Y11.out.lt)
    have OM12 := Lib.hid (own_below OM11.out b)
    have ON12 := Lib.hid (own_below ON11.out b)
    have OZ12 := Lib.hid (own_below OZ11.out b)
    clear b B11 OL11 Y11 OM11 ON11 OZ11
    clear OZ12
    go_wp2_with fail
    refine (likeBal_same M (by omega) AM AN cM cN _ (Reads.of_own OM12.out) (Reads.of_own ON12.out)).mono ?_
    rintro e w13 ⟨rfl, b⟩
    have B13 := Lib.hid (B12.out.trans (b.mono B12.out.size))
    have OL13 := Lib.hid (own_below OL12.out b)
    have Y13 := Lib.hid (Y12.out.below b Y12.out.lt)
    have OM13 := Lib.hid (own_below OM12.out b)
    have ON13 := Lib.hid (own_below ON12.out b)
    clear b B12 OL12 Y12 OM12 ON12
    clear ON13
    go_wp2_with fail
    refine (IA.out _ OL13.out).mono ?_
    rintro e w14 ⟨rfl, b⟩
    clear IA
    have B14 := Lib.hid (B13.out.trans (b.mono B13.out.size))
    have OL14 := Lib.hid (own_below OL13.out b)
    have Y14 := Lib.hid (Y13.out.below b Y13.out.lt)
    have OM14 := Lib.hid (own_below OM13.out b)
    clear b B13 OL13 Y13 OM13
    by_cases hcc : cc = 0
    · subst hcc
      have JK1 := Lib.hid (JK.out rfl AM cM)
      clear JK
      obtain ⟨q0, q1, q2⟩ := cells_3 Y14.out
      go_wp2_with fail
      refine (JK1.out _ _ OM14.out).mono ?_
      rintro e w15 ⟨v, rfl, own, b⟩
      clear q0 q1 q2 JK1
      obtain ⟨AK, cK, rfl, _⟩ := own_shape own
      have B15 := Lib.hid (B14.out.trans (b.mono B14.out.size))
      have OL15 := Lib.hid (own_below OL14.out b)
      have Y15 := Lib.hid (Y14.out.below b Y14.out.lt)
      have OM15 := Lib.hid (own_below OM14.out b)
      have OK15 := Lib.hid (own)
      clear b B14 OL14 Y14 OM14
      clear own
      go_wp2_with fail
      refine (likeBal_same M (by omega) AK AM cK cM _ (Reads.of_own OK15.out) (Reads.of_own OM15.out)).mono ?_
      rintro e w16 ⟨rfl, b⟩
      have B16 := Lib.hid (B15.out.trans (b.mono B15.out.size))
      have OL16 := Lib.hid (own_below OL15.out b)
      have Y16 := Lib.hid (Y15.out.below b Y15.out.lt)
      have OM16 := Lib.hid (own_below OM15.out b)
      have OK16 := Lib.hid (own_below OK15.out b)
      clear b B15 OL15 Y15 OM15 OK15
      clear OK16
      clear OM16
      clear Y16
      by_cases hfd : fd = 0
      rotate_left
      · have hfd1 : (fd != 0) = true := by simpa using hfd
        clear HFD IV
        go_wp2_with fail
        go_ret
        exact ⟨rfl, B16.out⟩
      subst hfd
      obtain ⟨cs, cm, cl, e0, e1, e2, e3, e4⟩ := HFD.out rfl
      have V0 := Lib.hid (fun W h => e0 ▸ IV.out 0 W h)
      have V1 := Lib.hid (fun W h => e1 ▸ IV.out 1 W h)
      have V2 := Lib.hid (fun W h => e2 ▸ IV.out 2 W h)
      have E3 := Lib.hid e3; have E4 := Lib.hid e4
      clear e0 e1 e2 e3 e4 IV HFD
      go_wp2_with fail
      refine (V0.out _ OL16.out).mono ?_
      rintro e w17 ⟨rfl, b⟩
      clear V0
      have B17 := Lib.hid (B16.out.trans (b.mono B16.out.size))
      have OL17 := Lib.hid (own_below OL16.out b)
      clear b B16 OL16
      go_wp2_with fail
      refine (V1.out _ OL17.out).mono ?_
      rintro e w18 ⟨rfl, b⟩
      clear V1
      have B18 := Lib.hid (B17.out.trans (b.mono B17.out.size))
      have OL18 := Lib.hid (own_below OL17.out b)
      clear b B17 OL17
      go_wp2_with fail
      refine (V2.out _ OL18.out).mono ?_
      rintro e w19 ⟨rfl, b⟩
      clear V2
      have B19 := Lib.hid (B18.out.trans (b.mono B18.out.size))
      have OL19 := Lib.hid (own_below OL18.out b)
      clear b B18 OL18
      have e3 := E3.out; have e4 := E4.out
      clear E3 E4
      cases cl <;> cases cm <;> cases cs <;> first | (exfalso; have q := e3 rfl; cases q; done) | (exfalso; have q := e4 rfl; cases q; done) | (clear e3 e4; go_wp2_with fail; go_ret; exact ⟨rfl, B19.out⟩)
    · have hcc1 : (cc == 0) = false := by simpa using hcc
      clear JK
      clear OM14
      clear Y14
      by_cases hfd : fd = 0
      rotate_left
      · have hfd1 : (fd != 0) = true := by simpa using hfd
        clear HFD IV
        go_wp2_with fail
        go_ret
        exact ⟨rfl, B14.out⟩
      subst hfd
      obtain ⟨cs, cm, cl, e0, e1, e2, e3, e4⟩ := HFD.out rfl
      have V0 := Lib.hid (fun W h => e0 ▸ IV.out 0 W h)
      have V1 := Lib.hid (fun W h => e1 ▸ IV.out 1 W h)
      have V2 := Lib.hid (fun W h => e2 ▸ IV.out 2 W h)
      have E3 := Lib.hid e3; have E4 := Lib.hid e4
      clear e0 e1 e2 e3 e4 IV HFD
      go_wp2_with fail
      refine (V0.out _ OL14.out).mono ?_
      rintro e w15 ⟨rfl, b⟩
      clear V0
      have B15 := Lib.hid (B14.out.trans (b.mono B14.out.size))
      have OL15 := Lib.hid (own_below OL14.out b)
      clear b B14 OL14
      go_wp2_with fail
      refine (V1.out _ OL15.out).mono ?_
      rintro e w16 ⟨rfl, b⟩
      clear V1
      have B16 := Lib.hid (B15.out.trans (b.mono B15.out.size))
      have OL16 := Lib.hid (own_below OL15.out b)
      clear b B15 OL15
      go_wp2_with fail
      refine (V2.out _ OL16.out).mono ?_
      rintro e w17 ⟨rfl, b⟩
      clear V2
      have B17 := Lib.hid (B16.out.trans (b.mono B16.out.size))
      have OL17 := Lib.hid (own_below OL16.out b)
      clear b B16 OL16
      have e3 := E3.out; have e4 := E4.out
      clear E3 E4
      cases cl <;> cases cm <;> cases cs <;> first | (exfalso; have q := e3 rfl; cases q; done) | (exfalso; have q := e4 rfl; cases q; done) | (clear e3 e4; go_wp2_with fail; go_ret; exact ⟨rfl, B17.out⟩)
end Go.Proofs.YtihhpmhigmegjaaDoor
