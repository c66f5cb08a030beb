/- The law FnFacts returns true for every code: the walk of the law. -/
import Derived.Test.YtihhpmhigmegjaaGreatDoorRows
import Derived.Test.YtihhpmhigmegjaaGreatDoorL0
import Derived.Test.YtihhpmhigmegjaaGreatDoorM0
import Derived.WalkKit
import Derived.ProofKit
import Derived.OpenShut
import Derived.BigQuiet
import Derived.Outline
import Derived.WalkSpells
import Derived.WalkLawsBesides
import Derived.Deep.DeepCutAuto
import Derived.Test.YtihhpmhigmegjaaGreatDoorDZ
import Derived.Test.YtihhpmhigmegjaaGreatDoorPC
import Derived.Test.YtihhpmhigmegjaaGreatDoorPF
import Derived.Test.YtihhpmhigmegjaaGreatDoorOB
import Derived.Deep.QuietTactic
namespace Go.Proofs.YtihhpmhigmegjaaGreatDoor
open Go.ChangeShapes Go.WideShapes Go.ChangeAt Go.RowKit Go.Sort

set_option maxRecDepth 100000 in
theorem big_any (A : Option Addr) (n c : Nat) (hn : n ≤ 9223372036854775807) (w : World) :
    Calls Tryz.prog 6 #[.slice A n c] w fun e w' => e = .returned (.bool (decide ((4096 : Int) < n))) ∧ w = w' := by
  go_enter Tryz.func6, Tryz.ntmps6
  go_wp2
  go_ret
  exact ⟨rfl, rfl⟩
set_option maxRecDepth 100000 in
set_option maxHeartbeats 8000000 in
theorem lawFacts_any (A : Option Addr) (n c : Nat) (w : World) (hn : n ≤ 9223372036854775807) (h : n ≤ 4096 → Code8 w A n) :
    Calls Tryz.prog 3 #[.slice A n c] w fun e w' => e = .returned (.bool true) ∧ Below w.heap.size w w' := by
  have HC := Lib.hid h; clear h
  by_cases hb : (4096 : Int) < n
  · have hd : decide ((4096 : Int) < n) = true := by simpa using hb
    have HD := Lib.hid hd; clear hd hb
    go_enter Tryz.func3, Tryz.ntmps3
    go_wp2_with fail
    refine (big_any A n c hn w).mono ?_; rw [HD.out]; rintro e w' ⟨rfl, rfl⟩
    go_wp2_with fail
    go_ret
    exact ⟨rfl, Below.refl _ _⟩
  · have hd : decide ((4096 : Int) < n) = false := by simpa using hb
    have HD := Lib.hid hd; clear hd
    have hc := HC.out (by omega)
    have Cd0 := Lib.hid hc; clear hc hb
    have B0 := Lib.hid (Below.refl w.heap.size w)
    go_enter Tryz.func3, Tryz.ntmps3
    go_wp2_with fail
    refine (big_any A n c hn w).mono ?_; rw [HD.out]; rintro e w' ⟨rfl, rfl⟩
    go_wp2_with fail
    refine (drawCer_any A n c w Cd0.out).mono ?_
    rintro e w1 ⟨L, ⟨kd, pl, va, yr⟩, Bq, kq, rfl, own, hsm, hln, ⟨f0, f1⟩, b⟩
    unfold Fct.val
    dsimp only at f0 f1 ⊢
    have hkq : L.length ≤ kq := by obtain ⟨A0, c0, he, hle⟩ := own_shape own; injection he with h1 h2 h3; omega
    have B1 := Lib.hid (B0.out.trans (b.mono B0.out.size))
    have Cd1 := Lib.hid (Cd0.out.below b)
    have OL1 := Lib.hid (own)
    clear b B0 Cd0
    clear own
    have hz : ∀ b ∈ L, b.src.size ≤ 1048576 ∧ b.place.size ≤ 1048576 ∧ b.val_.size ≤ 1048576 := fun b hb => by obtain ⟨h0, h1, h2, _⟩ := hsm b hb; omega
    have HH := Lib.hid (fun W (h : W.ownsRow w.heap.size 81 7 (.slice Bq L.length kq) L.length (clC L)) => (⟨Reads.of_own h, by omega, fun b hb => by obtain ⟨h0, h1, h2⟩ := hz b hb; exact ⟨by omega, by omega, by omega⟩⟩ : HasClm W L Bq))
    clear hsm
    have hf : (⟨kd, pl, va, yr⟩ : Fct).place.size ≤ 1048576 ∧ (⟨kd, pl, va, yr⟩ : Fct).val_.size ≤ 1048576 := ⟨by dsimp only; omega, by dsimp only; omega⟩
    have IC := Lib.hid (fun W h => implIsCertain_any L ⟨kd, pl, va, yr⟩ hz hf Bq kq W (HH.out W h))
    have SC := Lib.hid (fun W h => specIsCertain_any L ⟨kd, pl, va, yr⟩ hz hf Bq kq W (HH.out W h))
    have IP := Lib.hid (fun W h => implIsPossible_any L ⟨kd, pl, va, yr⟩ hz hf Bq kq W (HH.out W h))
    have SP := Lib.hid (fun W h => specIsPossible_any L ⟨kd, pl, va, yr⟩ hz hf Bq kq W (HH.out W h))
    have IT := Lib.hid (fun W h => implTelling_any L ⟨kd, pl, va, yr⟩ hz hf Bq kq W (HH.out W h))
    have ST := Lib.hid (fun W h => specTelling_any L ⟨kd, pl, va, yr⟩ hz hf Bq kq W (HH.out W h))
    have ID := Lib.hid (fun W h => implDenying_any L ⟨kd, pl, va, yr⟩ hz hf Bq kq W (HH.out W h))
    have SD := Lib.hid (fun W h => specDenying_any L ⟨kd, pl, va, yr⟩ hz hf Bq kq W (HH.out W h))
    have IB := Lib.hid (fun W h => implBal_any L ⟨kd, pl, va, yr⟩ hz hf Bq kq W (HH.out W h))
    have SB := Lib.hid (fun W h => specBal_any L ⟨kd, pl, va, yr⟩ hz hf Bq kq W (HH.out W h))
    have IA := Lib.hid (fun W h => implACon_any L hz (by omega) Bq kq hkq W (HH.out W h))
    unfold Fct.val at IC SC IP SP IT ST ID SD IB SB
    dsimp only at IC SC IP SP IT ST ID SD IB SB
    have H1 := Lib.hid (fun h : cerV L ⟨kd, pl, va, yr⟩ = true => cer_pos h)
    have H2 := Lib.hid (fun (hc : codeF L ⟨kd, pl, va, yr⟩ = 0) (h : posV L ⟨kd, pl, va, yr⟩ = true) => show 0 < (rowF L ⟨kd, pl, va, yr⟩ (fun c => telB c ⟨kd, pl, va, yr⟩)).length by unfold rowF; rw [if_pos hc]; exact pos_tel h)
    have H3 := Lib.hid (fun (hc : codeF L ⟨kd, pl, va, yr⟩ = 0) (h : (areC L && conB L) = true) => show cerV L ⟨kd, pl, va, yr⟩ = decide (0 < (rowF L ⟨kd, pl, va, yr⟩ (fun c => telB c ⟨kd, pl, va, yr⟩)).length) by unfold rowF; rw [if_pos hc]; simp only [Bool.and_eq_true] at h; exact con_cer hc h.2)
    have H4 := Lib.hid (fun (hc : codeF L ⟨kd, pl, va, yr⟩ = 0) v => show v ∈ rowF L ⟨kd, pl, va, yr⟩ (fun c => telB c ⟨kd, pl, va, yr⟩) → v ∈ rowF L ⟨kd, pl, va, yr⟩ (denB ⟨kd, pl, va, yr⟩) → False by unfold rowF; rw [if_pos hc, if_pos hc]; exact row_apart)
    have H5 := Lib.hid (fun (hc : codeF L ⟨kd, pl, va, yr⟩ = 0) => show (if areC L = true then (0 : Int) else 1) = 0 by unfold codeF at hc; cases ha : areC L <;> simp_all)
    have h01 := codeF_01 L ⟨kd, pl, va, yr⟩
    have hTl : (rowF L ⟨kd, pl, va, yr⟩ (fun c => telB c ⟨kd, pl, va, yr⟩)).length ≤ 1048576 := by have := rowF_len L ⟨kd, pl, va, yr⟩ (fun c => telB c ⟨kd, pl, va, yr⟩); omega
    have hDl : (rowF L ⟨kd, pl, va, yr⟩ (denB ⟨kd, pl, va, yr⟩)).length ≤ 1048576 := by have := rowF_len L ⟨kd, pl, va, yr⟩ (denB ⟨kd, pl, va, yr⟩); omega
    generalize cerV L ⟨kd, pl, va, yr⟩ = cv at *
    generalize posV L ⟨kd, pl, va, yr⟩ = pv at *
    generalize rowF L ⟨kd, pl, va, yr⟩ (fun c => telB c ⟨kd, pl, va, yr⟩) = T at *
    generalize rowF L ⟨kd, pl, va, yr⟩ (denB ⟨kd, pl, va, yr⟩) = D at *
    generalize balF L ⟨kd, pl, va, yr⟩ = bf at *
    generalize codeF L ⟨kd, pl, va, yr⟩ = code at *
    generalize (areC L && conB L) = sd at *
    generalize (if areC L = true then (0 : Int) else 1) = nine at *
    clear HH hf hz
    go_upto_region 4 with (fail)
    have b : Below w1.heap.size w1 (w1.alloc (.cells #[.int .i64 kd, .string pl, .string va, .int .i64 yr] 26)) := (Below.refl _ _).alloc (Nat.le_refl _) _
    have nk := Blk.new w1 26 #[.int .i64 kd, .string pl, .string va, .int .i64 yr]
    generalize w1.alloc (.cells #[.int .i64 kd, .string pl, .string va, .int .i64 yr] 26) = w2 at b nk ⊢
    have nk := Lib.hid nk
    have B2 := Lib.hid (B1.out.trans (b.mono B1.out.size))
    have Cd2 := Lib.hid (Cd1.out.below b)
    have OL2 := Lib.hid (own_below OL1.out b)
    have F2 := Lib.hid (nk.out)
    clear b B1 Cd1 OL1
    clear nk
    obtain ⟨q0, q1, q2, q3⟩ := cells_4 F2.out
    go_wp2_with fail
    refine (IC.out _ OL2.out).mono ?_
    rintro e w3 ⟨rfl, b⟩
    clear q0 q1 q2 q3 IC
    have B3 := Lib.hid (B2.out.trans (b.mono B2.out.size))
    have Cd3 := Lib.hid (Cd2.out.below b)
    have OL3 := Lib.hid (own_below OL2.out b)
    have F3 := Lib.hid (F2.out.below b F2.out.lt)
    clear b B2 Cd2 OL2 F2
    obtain ⟨q0, q1, q2, q3⟩ := cells_4 F3.out
    go_wp2_with fail
    refine (SC.out _ OL3.out).mono ?_
    rintro e w4 ⟨rfl, b⟩
    clear q0 q1 q2 q3 SC
    have B4 := Lib.hid (B3.out.trans (b.mono B3.out.size))
    have Cd4 := Lib.hid (Cd3.out.below b)
    have OL4 := Lib.hid (own_below OL3.out b)
    have F4 := Lib.hid (F3.out.below b F3.out.lt)
    clear b B3 Cd3 OL3 F3
    obtain ⟨q0, q1, q2, q3⟩ := cells_4 F4.out
    go_wp2_with fail
    refine (IP.out _ OL4.out).mono ?_
    rintro e w5 ⟨rfl, b⟩
    clear q0 q1 q2 q3 IP
    have B5 := Lib.hid (B4.out.trans (b.mono B4.out.size))
    have Cd5 := Lib.hid (Cd4.out.below b)
    have OL5 := Lib.hid (own_below OL4.out b)
    have F5 := Lib.hid (F4.out.below b F4.out.lt)
    clear b B4 Cd4 OL4 F4
    obtain ⟨q0, q1, q2, q3⟩ := cells_4 F5.out
    go_wp2_with fail
    refine (SP.out _ OL5.out).mono ?_
    rintro e w6 ⟨rfl, b⟩
    clear q0 q1 q2 q3 SP
    have B6 := Lib.hid (B5.out.trans (b.mono B5.out.size))
    have Cd6 := Lib.hid (Cd5.out.below b)
    have OL6 := Lib.hid (own_below OL5.out b)
    have F6 := Lib.hid (F5.out.below b F5.out.lt)
    clear b B5 Cd5 OL5 F5
    obtain ⟨q0, q1, q2, q3⟩ := cells_4 F6.out
    go_wp2_with fail
    refine (IT.out _ OL6.out).mono ?_
    rintro e w7 ⟨v, rfl, own, b⟩
    clear q0 q1 q2 q3 IT
    obtain ⟨AT, cT, rfl, _⟩ := own_shape own
    have B7 := Lib.hid (B6.out.trans (b.mono B6.out.size))
    have Cd7 := Lib.hid (Cd6.out.below b)
    have OL7 := Lib.hid (own_below OL6.out b)
    have F7 := Lib.hid (F6.out.below b F6.out.lt)
    have OT7 := Lib.hid (own)
    clear b B6 Cd6 OL6 F6
    clear own
    obtain ⟨q0, q1, q2, q3⟩ := cells_4 F7.out
    go_wp2_with fail
    refine (ST.out _ OL7.out).mono ?_
    rintro e w8 ⟨v, rfl, own, b⟩
    clear q0 q1 q2 q3 ST
    obtain ⟨AU, cU, rfl, _⟩ := own_shape own
    have B8 := Lib.hid (B7.out.trans (b.mono B7.out.size))
    have Cd8 := Lib.hid (Cd7.out.below b)
    have OL8 := Lib.hid (own_below OL7.out b)
    have F8 := Lib.hid (F7.out.below b F7.out.lt)
    have OT8 := Lib.hid (own_below OT7.out b)
    have OU8 := Lib.hid (own)
    clear b B7 Cd7 OL7 F7 OT7
    clear own
    obtain ⟨q0, q1, q2, q3⟩ := cells_4 F8.out
    go_wp2_with fail
    refine (ID.out _ OL8.out).mono ?_
    rintro e w9 ⟨v, rfl, own, b⟩
    clear q0 q1 q2 q3 ID
    obtain ⟨AD, cD, rfl, _⟩ := own_shape own
    have B9 := Lib.hid (B8.out.trans (b.mono B8.out.size))
    have Cd9 := Lib.hid (Cd8.out.below b)
    have OL9 := Lib.hid (own_below OL8.out b)
    have F9 := Lib.hid (F8.out.below b F8.out.lt)
    have OT9 := Lib.hid (own_below OT8.out b)
    have OU9 := Lib.hid (own_below OU8.out b)
    have OD9 := Lib.hid (own)
    clear b B8 Cd8 OL8 F8 OT8 OU8
    clear own
    obtain ⟨q0, q1, q2, q3⟩ := cells_4 F9.out
    go_wp2_with fail
    refine (SD.out _ OL9.out).mono ?_
    rintro e w10 ⟨v, rfl, own, b⟩
    clear q0 q1 q2 q3 SD
    obtain ⟨AE, cE, rfl, _⟩ := own_shape own
    have B10 := Lib.hid (B9.out.trans (b.mono B9.out.size))
    have Cd10 := Lib.hid (Cd9.out.below b)
    have OL10 := Lib.hid (own_below OL9.out b)
    have F10 := Lib.hid (F9.out.below b F9.out.lt)
    have OT10 := Lib.hid (own_below OT9.out b)
    have OU10 := Lib.hid (own_below OU9.out b)
    have OD10 := Lib.hid (own_below OD9.out b)
    have OE10 := Lib.hid (own)
    clear b B9 Cd9 OL9 F9 OT9 OU9 OD9
    clear own
    obtain ⟨q0, q1, q2, q3⟩ := cells_4 F10.out
    go_wp2_with fail
    refine (IB.out _ OL10.out).mono ?_
    rintro e w11 ⟨rfl, b⟩
    clear q0 q1 q2 q3 IB
    have B11 := Lib.hid (B10.out.trans (b.mono B10.out.size))
    have Cd11 := Lib.hid (Cd10.out.below b)
    have OL11 := Lib.hid (own_below OL10.out b)
    have F11 := Lib.hid (F10.out.below b F10.out.lt)
    have OT11 := Lib.hid (own_below OT10.out b)
    have OU11 := Lib.hid (own_below OU10.out b)
    have OD11 := Lib.hid (own_below OD10.out b)
    have OE11 := Lib.hid (own_below OE10.out b)
    clear b B10 Cd10 OL10 F10 OT10 OU10 OD10 OE10
    obtain ⟨q0, q1, q2, q3⟩ := cells_4 F11.out
    go_wp2_with fail
    refine (SB.out _ OL11.out).mono ?_
    rintro e w12 ⟨rfl, b⟩
    clear q0 q1 q2 q3 SB
    have B12 := Lib.hid (B11.out.trans (b.mono B11.out.size))
    have Cd12 := Lib.hid (Cd11.out.below b)
    have OL12 := Lib.hid (own_below OL11.out b)
    have F12 := Lib.hid (F11.out.below b F11.out.lt)
    have OT12 := Lib.hid (own_below OT11.out b)
    have OU12 := Lib.hid (own_below OU11.out b)
    have OD12 := Lib.hid (own_below OD11.out b)
    have OE12 := Lib.hid (own_below OE11.out b)
    clear b B11 Cd11 OL11 F11 OT11 OU11 OD11 OE11
    clear F12
    go_wp2_with fail
    refine (drawFct_any A n c _ Cd12.out).mono ?_
    rintro e w13 ⟨⟨kx, px, vx, yx⟩, rfl, ⟨g0, g1⟩, b⟩
    dsimp only at g0 g1
    have SX := Lib.hid (specFct_any ⟨kx, px, vx, yx⟩ ⟨by dsimp only; omega, by dsimp only; omega⟩)
    have IX := Lib.hid (implFct_any ⟨kx, px, vx, yx⟩ ⟨by dsimp only; omega, by dsimp only; omega⟩)
    generalize fctB ⟨kx, px, vx, yx⟩ = fx at SX IX
    unfold Fct.val at *
    dsimp only at *
    have B13 := Lib.hid (B12.out.trans (b.mono B12.out.size))
    have Cd13 := Lib.hid (Cd12.out.below b)
    have OL13 := Lib.hid (own_below OL12.out b)
    have OT13 := Lib.hid (own_below OT12.out b)
    have OU13 := Lib.hid (own_below OU12.out b)
    have OD13 := Lib.hid (own_below OD12.out b)
    have OE13 := Lib.hid (own_below OE12.out b)
    clear b B12 Cd12 OL12 OT12 OU12 OD12 OE12
    clear Cd13
    go_upto_region 15 with (fail)
    have b : Below w13.heap.size w13 (w13.alloc (.cells #[.int .i64 kx, .string px, .string vx, .int .i64 yx] 26)) := (Below.refl _ _).alloc (Nat.le_refl _) _
    have nk := Blk.new w13 26 #[.int .i64 kx, .string px, .string vx, .int .i64 yx]
    generalize w13.alloc (.cells #[.int .i64 kx, .string px, .string vx, .int .i64 yx] 26) = w14 at b nk ⊢
    have nk := Lib.hid nk
    have B14 := Lib.hid (B13.out.trans (b.mono B13.out.size))
    have OL14 := Lib.hid (own_below OL13.out b)
    have OT14 := Lib.hid (own_below OT13.out b)
    have OU14 := Lib.hid (own_below OU13.out b)
    have OD14 := Lib.hid (own_below OD13.out b)
    have OE14 := Lib.hid (own_below OE13.out b)
    have X14 := Lib.hid (nk.out)
    clear b B13 OL13 OT13 OU13 OD13 OE13
    clear nk
    obtain ⟨x0, x1, x2, x3⟩ := cells_4 X14.out
    have g0 := cell_regrown x0
    have g1 := cell_regrown x1
    have g2 := cell_regrown x2
    have g3 := cell_regrown x3
    have r1 : ∀ d os, Calls Tryz.prog 19 #[.slice AT T.length cT, .slice AU T.length cU] (grow (redrawn w14 d) os) (fun e w'' => e = .returned (.bool true) ∧ ∃ p : Regrown, w'' = grow (redrawn w14 p.d) p.os) := fun d os => Calls.regrown_of (likeInts_same T hTl AT AU cT cU _ (Reads.of_own (own_below OT14.out (below_regrown w14 d os))) (Reads.of_own (own_below OU14.out (below_regrown w14 d os))))
    have r2 : ∀ d os, Calls Tryz.prog 19 #[.slice AD D.length cD, .slice AE D.length cE] (grow (redrawn w14 d) os) (fun e w'' => e = .returned (.bool true) ∧ ∃ p : Regrown, w'' = grow (redrawn w14 p.d) p.os) := fun d os => Calls.regrown_of (likeInts_same D hDl AD AE cD cE _ (Reads.of_own (own_below OD14.out (below_regrown w14 d os))) (Reads.of_own (own_below OE14.out (below_regrown w14 d os))))
    have r3 : ∀ d os, Calls Tryz.prog 20 #[.agg #[.int .i64 kx, .string px, .string vx, .int .i64 yx]] (grow (redrawn w14 d) os) (fun e w'' => e = .returned (.bool fx) ∧ ∃ p : Regrown, w'' = grow (redrawn w14 p.d) p.os) := fun d os => Calls.regrown_of (IX.out _)
    have r4 : ∀ d os, Calls Tryz.prog 21 #[.agg #[.int .i64 kx, .string px, .string vx, .int .i64 yx]] (grow (redrawn w14 d) os) (fun e w'' => e = .returned (.bool fx) ∧ ∃ p : Regrown, w'' = grow (redrawn w14 p.d) p.os) := fun d os => Calls.regrown_of (SX.out _)
    clear x0 x1 x2 x3 IX SX
    dsimp only [List.append]
    refine wp_region_quiet_below (by kernel_rfl) (by kernel_rfl) ?_; (repeat (first | go_big_quiet_step ((first | with_reducible exact r1 _ _ | with_reducible exact r2 _ _ | with_reducible exact r3 _ _ | with_reducible exact r4 _ _)))); refine wpQuiet_nil ?_; intro _ hw'; obtain ⟨⟨dq, osq⟩, rfl⟩ := hw'
    have b := below_regrown w14 dq osq
    generalize grow (redrawn w14 dq) osq = w15 at *
    clear r1 r2 r3 r4 g0 g1 g2 g3
    have B15 := Lib.hid (B14.out.trans (b.mono B14.out.size))
    have OL15 := Lib.hid (own_below OL14.out b)
    have OT15 := Lib.hid (own_below OT14.out b)
    have OU15 := Lib.hid (own_below OU14.out b)
    have OD15 := Lib.hid (own_below OD14.out b)
    have OE15 := Lib.hid (own_below OE14.out b)
    have X15 := Lib.hid (X14.out.below b X14.out.lt)
    clear b B14 OL14 OT14 OU14 OD14 OE14 X14
    clear X15
    clear OU15
    clear OE15
    rcases h01 with rfl | rfl
    rotate_left
    · skip
      go_wp2_with fail
      go_ret
      exact ⟨rfl, B15.out⟩
    have h1 := H1.out
    have h2 := H2.out rfl
    have h3 := H3.out rfl
    have h5 := H5.out rfl
    have P1 := Lib.hid h1; have P2 := Lib.hid h2; have P3 := Lib.hid h3; have P4 := Lib.hid (H4.out rfl)
    subst h5
    clear h1 h2 h3 H1 H2 H3 H4 H5
    go_wp2_with fail
    refine (IA.out _ OL15.out).mono ?_
    rintro e w16 ⟨rfl, b⟩
    clear IA
    have B16 := Lib.hid (B15.out.trans (b.mono B15.out.size))
    have OL16 := Lib.hid (own_below OL15.out b)
    have OT16 := Lib.hid (own_below OT15.out b)
    have OD16 := Lib.hid (own_below OD15.out b)
    clear b B15 OL15 OT15 OD15
    clear OL16
    go_wp2_with fail
    go_loopw [28] (fun v28 wr => ∃ k : Nat, k ≤ T.length ∧ Hid (Below w16.heap.size w16 wr) ∧ v28 = .int .i64 (k : Int)) (fun i _ => T.length - (intOf i).toNat)
    case atStart => exact ⟨0, by omega, Below.refl _ _, rfl⟩
    case round =>
      obtain ⟨k, hk, BW, rfl⟩ := hrel
      have OT := Lib.hid (own_below OT16.out BW.out); have OD := Lib.hid (own_below OD16.out BW.out)
      by_cases hlt : k < T.length
      · obtain ⟨ab, ao, rfl, hadb, hcell⟩ := (Reads.of_own OT.out).2 (by omega)
        have c0 := hcell _ _ (inC_num T k hlt)
        clear hcell
        have HV := Lib.hid (P4.out T[k] (List.getElem_mem hlt))
        generalize T[k] = v at c0 HV
        have hk1 : (k : Int) < (T.length : Int) := by omega
        go_wp2_with fail
        refine (hasInt_no D v HV.out hDl AD cD wr (Reads.of_own OD.out)).mono ?_
        rintro e w' ⟨rfl, b⟩
        go_wp2_with fail
        go_roundw
        case rel => exact ⟨k + 1, by omega, BW.out.trans (b.mono BW.out.size), by go_num⟩
        case measure => simp [intOf]; omega
      · obtain rfl : k = T.length := by omega
        have BZ := Lib.hid (B16.out.trans (BW.out.mono B16.out.size))
        clear OT OD
        generalize hTn : T.length = tn at *
        have PX : (cv = true → pv = true) ∧ (pv = true → 0 < tn) ∧ (sd = true → cv = decide (0 < tn)) := ⟨P1.out, P2.out, P3.out⟩
        clear hTn P1 P2 P3 P4
        obtain ⟨p1, p2, p3⟩ := PX
        by_cases ht : 0 < tn
        · have htn : (0 : Int) < (tn : Int) := by omega
          cases cv <;> cases pv <;> cases sd <;> first | (exfalso; revert p1 p2 p3; simp; done) | (exfalso; have q := p1 rfl; cases q; done) | (exfalso; have q := p2 rfl; omega) | (exfalso; have q := p3 rfl; simp at q; omega) | (clear p1 p2 p3; go_wp2_with fail; go_ret; exact ⟨rfl, BZ.out⟩)
        · have htn : ¬ (0 : Int) < (tn : Int) := by omega
          cases cv <;> cases pv <;> cases sd <;> first | (exfalso; revert p1 p2 p3; simp; done) | (exfalso; have q := p1 rfl; cases q; done) | (exfalso; have q := p2 rfl; omega) | (exfalso; have q := p3 rfl; simp at q; omega) | (clear p1 p2 p3; go_wp2_with fail; go_ret; exact ⟨rfl, BZ.out⟩)
end Go.Proofs.YtihhpmhigmegjaaGreatDoor
