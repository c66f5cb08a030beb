/- The program's TakeStep and isDay; the reference's l25Code, l01In, TakeStep. -/
import Derived.Test.YteffnidkkeeaiaaRows
import Derived.Test.YteffnidkkeeaiaaL0
import Derived.Test.YteffnidkkeeaiaaM0
import Derived.WalkKit
import Derived.ProofKit
import Derived.OpenShut
import Derived.BigQuiet
import Derived.Outline
import Derived.WalkSpells
import Derived.WalkLawsBesides
import Derived.Deep.DeepCutAuto
import Derived.Test.YteffnidkkeeaiaaP1
import Derived.Test.YteffnidkkeeaiaaC3
import Derived.Test.YteffnidkkeeaiaaC5
import Derived.Test.YteffnidkkeeaiaaB6
import Derived.Deep.RegionHeld3
import Derived.Deep.AppendLies
import Derived.Lib.Hide
namespace Go.Proofs.Yteffnidkkeeaiaa
open Go.ChangeShapes Go.WideShapes Go.ChangeAt Go.RowKit

theorem specIn_any (x lo hi : Int) (w : World) : Calls Try.prog 78 #[.int .i64 x, .int .i64 lo, .int .i64 hi] w fun e w' => e = .returned (.bool (inB x lo hi)) ∧ w = w' := by
  go_enter Try.func78, Try.ntmps78
  go_upto_region 9999 with ((with_reducible refine at_list ?_); (first | (refine gl_t _ (by exact rfl) (by exact rfl) (by exact rfl) (by exact rfl) (by intro hc hv K hK; (first | (refine lmove (by exact rfl) (by exact rfl) (by first | exact gs hc | exact gs hg | exact gs (by simp [hc]) | exact gs (by simp [hc, hg]) | exact rfl) ?_; exact hK) | (refine lwpick_and (by exact rfl) (by exact rfl) (by first | exact rfl | exact gs hc | exact gs hg | exact gs (by simp [hc]) | exact gs (by simp [hc, hg])) (by intro hb; first | exact rfl | exact gs hb | exact gs hc | exact gs hg | exact gs (by simp [hb, hc]) | exact gs (by simp [hb, hc, hg])) ?_; exact hK) | (refine lwpick_or (by exact rfl) (by exact rfl) (by first | exact rfl | exact gs hc | exact gs hg | exact gs (by simp [hc]) | exact gs (by simp [hc, hg])) (by intro hb; first | exact rfl | exact gs hb | exact gs hc | exact gs hg | exact gs (by simp [hb, hc]) | exact gs (by simp [hb, hc, hg])) ?_; exact hK) | (clear hc; (try clear hg); go_step; exact hK) | ((try have hc' := hc; simp at hc'); (try have hg' := hg; simp at hg'); go_step; exact hK))) ?_; (intro l' hl; simp only [List.set_cons_succ, List.set_cons_zero] at hl; subst hl)) | (refine gl_f _ (by exact rfl) (by exact rfl) (by exact rfl) (by exact rfl) (by intro hc hv K hK; (first | (refine lmove (by exact rfl) (by exact rfl) (by first | exact gs hc | exact gs hg | exact gs (by simp [hc]) | exact gs (by simp [hc, hg]) | exact rfl) ?_; exact hK) | (refine lwpick_and (by exact rfl) (by exact rfl) (by first | exact rfl | exact gs hc | exact gs hg | exact gs (by simp [hc]) | exact gs (by simp [hc, hg])) (by intro hb; first | exact rfl | exact gs hb | exact gs hc | exact gs hg | exact gs (by simp [hb, hc]) | exact gs (by simp [hb, hc, hg])) ?_; exact hK) | (refine lwpick_or (by exact rfl) (by exact rfl) (by first | exact rfl | exact gs hc | exact gs hg | exact gs (by simp [hc]) | exact gs (by simp [hc, hg])) (by intro hb; first | exact rfl | exact gs hb | exact gs hc | exact gs hg | exact gs (by simp [hb, hc]) | exact gs (by simp [hb, hc, hg])) ?_; exact hK) | (clear hc; (try clear hg); go_step; exact hK) | ((try have hc' := hc; simp at hc'); (try have hg' := hg; simp at hg'); go_step; exact hK))) ?_; (intro l' hl; simp only [List.set_cons_succ, List.set_cons_zero] at hl; subst hl)) | (refine gl_t2 _ (by exact rfl) (by exact rfl) (by exact rfl) (by exact rfl) (by intro hg hc hv hv2 K hK; (first | (refine lmove (by exact rfl) (by exact rfl) (by first | exact gs hc | exact gs hg | exact gs (by simp [hc]) | exact gs (by simp [hc, hg]) | exact rfl) ?_; exact hK) | (refine lwpick_and (by exact rfl) (by exact rfl) (by first | exact rfl | exact gs hc | exact gs hg | exact gs (by simp [hc]) | exact gs (by simp [hc, hg])) (by intro hb; first | exact rfl | exact gs hb | exact gs hc | exact gs hg | exact gs (by simp [hb, hc]) | exact gs (by simp [hb, hc, hg])) ?_; exact hK) | (refine lwpick_or (by exact rfl) (by exact rfl) (by first | exact rfl | exact gs hc | exact gs hg | exact gs (by simp [hc]) | exact gs (by simp [hc, hg])) (by intro hb; first | exact rfl | exact gs hb | exact gs hc | exact gs hg | exact gs (by simp [hb, hc]) | exact gs (by simp [hb, hc, hg])) ?_; exact hK) | (clear hc; (try clear hg); go_step; exact hK) | ((try have hc' := hc; simp at hc'); (try have hg' := hg; simp at hg'); go_step; exact hK))) ?_; (intro l' hl; simp only [List.set_cons_succ, List.set_cons_zero] at hl; subst hl)) | (refine gl_f2 _ (by exact rfl) (by exact rfl) (by exact rfl) (by exact rfl) (by intro hg hc hv hv2 K hK; (first | (refine lmove (by exact rfl) (by exact rfl) (by first | exact gs hc | exact gs hg | exact gs (by simp [hc]) | exact gs (by simp [hc, hg]) | exact rfl) ?_; exact hK) | (refine lwpick_and (by exact rfl) (by exact rfl) (by first | exact rfl | exact gs hc | exact gs hg | exact gs (by simp [hc]) | exact gs (by simp [hc, hg])) (by intro hb; first | exact rfl | exact gs hb | exact gs hc | exact gs hg | exact gs (by simp [hb, hc]) | exact gs (by simp [hb, hc, hg])) ?_; exact hK) | (refine lwpick_or (by exact rfl) (by exact rfl) (by first | exact rfl | exact gs hc | exact gs hg | exact gs (by simp [hc]) | exact gs (by simp [hc, hg])) (by intro hb; first | exact rfl | exact gs hb | exact gs hc | exact gs hg | exact gs (by simp [hb, hc]) | exact gs (by simp [hb, hc, hg])) ?_; exact hK) | (clear hc; (try clear hg); go_step; exact hK) | ((try have hc' := hc; simp at hc'); (try have hg' := hg; simp at hg'); go_step; exact hK))) ?_; (intro l' hl; simp only [List.set_cons_succ, List.set_cons_zero] at hl; subst hl)) | (refine lpick_and (by exact rfl) (by exact rfl) (by exact rfl) (by exact rfl) (by intro hb; first | exact rfl | exact gs hb) ?_; (intro l' hl; simp only [List.set_cons_succ, List.set_cons_zero] at hl; subst hl)) | (refine lpick_or (by exact rfl) (by exact rfl) (by exact rfl) (by exact rfl) (by intro hb; first | exact rfl | exact gs hb | exact gs (by simp [hb])) ?_; (intro l' hl; simp only [List.set_cons_succ, List.set_cons_zero] at hl; subst hl))))
  go_ret
  exact ⟨by simp [inB], rfl⟩
theorem isDay_any (x : Int) (w : World) : Calls Try.prog 67 #[.int .i64 x] w fun e w' => e = .returned (.bool (inB x 0 1000000000000)) ∧ w = w' := by
  go_enter Try.func67, Try.ntmps67
  go_wp2_with (go_at_call 80; refine (within_any _ _ _ _).mono ?_; rintro e w' ⟨rfl, rfl⟩)
  go_ret
  exact ⟨rfl, rfl⟩

def codeB (xs : List Stp) (day : Int) : Int := if isProc xs = true then (if inB day 0 1000000000000 = true then 0 else 2) else 1
theorem l25Code_any (xs : List Stp) (day : Int) (A : Option Addr) (c : Nat) (w : World) (hr : Reads w w.heap.size 2 A xs.length (stC xs)) (hm : xs.length ≤ 9223372036854775807) :
    Calls Try.prog 65 #[.slice A xs.length c, .int .i64 day] w fun e w' => e = .returned (.int .i64 (codeB xs day)) ∧ Below w.heap.size w w' := by
  have HR := Lib.hid hr; clear hr
  cases hp : isProc xs <;> cases hi : inB day 0 1000000000000
  all_goals
    have HP := Lib.hid hp; clear hp
    have HI := Lib.hid hi; clear hi
    go_enter Try.func65, Try.ntmps65
    go_wp2_with (first | (go_at_call 20; refine (specIs_any xs _ _ _ HR.out hm).mono ?_; rw [HP.out]; rintro e w1 ⟨rfl, b1⟩) | (go_at_call 78; refine (specIn_any _ _ _ _).mono ?_; rw [HI.out]; rintro e w' ⟨rfl, rfl⟩))
    go_ret
    exact ⟨ret_int (by simp [codeB, HP.out, HI.out]), b1⟩

/-- What TakeStep gives: the steps and the code. -/
def takeR (xs : List Stp) (x : Stp) : List Stp × Int :=
  if codeB xs x.1 = 0 then (if isProc (xs ++ [x]) = true then (xs ++ [x], 0) else ([], 5)) else ([], codeB xs x.1)
theorem isProc_len {xs : List Stp} (h : isProc xs = true) : xs.length ≤ 12 := by
  simp only [isProc, Bool.and_eq_true, decide_eq_true_eq] at h; omega

theorem specIs_n {xs : List Stp} {n : Nat} (h : n = xs.length) (A : Option Addr) (c : Nat) (w : World) (hr : Reads w w.heap.size 2 A n (stC xs)) (hm : n ≤ 9223372036854775807) :
    Calls Try.prog 20 #[.slice A n c] w fun e w' => e = .returned (.bool (isProc xs)) ∧ Below w.heap.size w w' := by
  subst h; exact specIs_any xs A c w hr hm
theorem implIs_p (xs : List Stp) (A : Option Addr) (c : Nat) (w : World) (hr : Reads w w.heap.size 2 A xs.length (stC xs)) (hm : xs.length ≤ 9223372036854775807) :
    Calls Try.prog 22 #[.slice A xs.length c] w fun e w' => e = .returned (.bool (isProc xs)) ∧ Below w.heap.size w w' := by
  rw [← isSome_law]; exact implIs_any xs A c w hr hm
theorem implIs_n {xs : List Stp} {n : Nat} (h : n = xs.length) (A : Option Addr) (c : Nat) (w : World) (hr : Reads w w.heap.size 2 A n (stC xs)) (hm : n ≤ 9223372036854775807) :
    Calls Try.prog 22 #[.slice A n c] w fun e w' => e = .returned (.bool (isProc xs)) ∧ Below w.heap.size w w' := by
  subst h; exact implIs_p xs A c w hr hm

theorem specTake_any (xs : List Stp) (day kind : Int) (A : Option Addr) (c : Nat) (w : World) (hr : Reads w w.heap.size 2 A xs.length (stC xs)) (hm : xs.length ≤ 9223372036854775807) :
    Calls Try.prog 30 #[.slice A xs.length c, .agg #[.int .i64 day, .int .i64 kind]] w fun e w' => ∃ v, e = .returned (.tuple #[v, .int .i64 (takeR xs (day, kind)).2]) ∧ w'.ownsRow w.heap.size 50 2 v (takeR xs (day, kind)).1.length (stC (takeR xs (day, kind)).1) ∧ Below w.heap.size w w' := by
  have HR := Lib.hid hr; clear hr
  by_cases hc : codeB xs day = 0
  · have hp : isProc xs = true := by
      unfold codeB at hc; split at hc
      · assumption
      · cases hc
    have hlen := isProc_len hp
    clear hp
    have HC := Lib.hid hc; clear hc
    have sz : w.heap.size < (w.alloc (.cells #[.int .i64 day, .int .i64 kind] 50)).heap.size := by simp
    cases hp' : isProc (xs ++ [(day, kind)])
    all_goals
      have HP := Lib.hid hp'; clear hp'
      go_enter Try.func30, Try.ntmps30
      go_wp2_with fail
      refine (l25Code_any xs _ _ _ _ (by exact (HR.out.alloc (Nat.le_refl _) _).more (by simp)) hm).mono ?_; rw [HC.out]; rintro e w1 ⟨rfl, b1⟩
      have B1 : Below w.heap.size w w1 := ((Below.refl _ _).alloc (Nat.le_refl _) _).trans (b1.mono (by simp))
      obtain ⟨q1, q2⟩ := bcell b1
      have hz1 := b1.size
      clear b1
      go_wp2_with fail
      refine (with_any xs _ _ _ _ _ (by exact (HR.out.below B1).more B1.size) (by omega)).mono ?_; rintro e w2 ⟨v2, rfl, own2, b2⟩
      obtain ⟨A2, c2, rfl, _⟩ := own_shape own2
      have B2 := B1.trans (b2.mono B1.size)
      have L2 : (xs ++ [(day, kind)]).length = xs.length + 1 := by simp
      have R2 := Lib.hid (Reads.of_own own2); have L2' := Lib.hid L2
      have OW := Lib.hid (own_mono own2 B1.size)
      clear own2 L2
      go_wp2_with fail
      refine (specIs_n (n := xs.length + 1) L2'.out.symm _ _ _ R2.out (by omega)).mono ?_; rw [HP.out]; rintro e w3 ⟨rfl, b3⟩
      go_wp2_with fail
      go_ret2
      refine ⟨_, by rw [takeR, if_pos HC.out, HP.out]; rfl, ?_, B2.trans (b3.mono B2.size)⟩
      rw [takeR, if_pos HC.out, HP.out]
      first | exact World.ownsRow_nil _ _ _ _ | (simp only [if_true]; rw [L2'.out]; exact own_below OW.out b3)
  · have hne : (codeB xs day != 0) = true := by rw [bne_iff_ne]; exact hc
    have HC := Lib.hid hc; clear hc
    go_enter Try.func30, Try.ntmps30
    go_wp2_with fail
    refine (l25Code_any xs _ _ _ _ (by exact (HR.out.alloc (Nat.le_refl _) _).more (by simp)) hm).mono ?_; rintro e w1 ⟨rfl, b1⟩
    go_wp2_with fail
    go_ret2
    refine ⟨_, by rw [takeR, if_neg HC.out]; rfl, ?_, ((Below.refl _ _).alloc (Nat.le_refl _) _).trans (b1.mono (by simp))⟩
    rw [takeR, if_neg HC.out]
    exact World.ownsRow_nil _ _ _ _

set_option maxRecDepth 100000 in
set_option maxHeartbeats 2000000 in
theorem implTake_any (xs : List Stp) (day kind : Int) (A : Option Addr) (c : Nat) (w : World) (hr : Reads w w.heap.size 2 A xs.length (stC xs)) (hm : xs.length ≤ 9223372036854775807) (hA : A = none → c = 0) :
    Calls Try.prog 32 #[.slice A xs.length c, .agg #[.int .i64 day, .int .i64 kind]] w fun e w' => ∃ v, e = .returned (.tuple #[v, .int .i64 (takeR xs (day, kind)).2]) ∧ w'.ownsRow w.heap.size 50 2 v (takeR xs (day, kind)).1.length (stC (takeR xs (day, kind)).1) ∧ Below w.heap.size w w' := by
  have HR := Lib.hid hr; clear hr
  obtain ⟨i0, hi0, hz0, hz1, hz2⟩ := info_parts infoStep
  cases hp : isProc xs
  · have HP := Lib.hid hp; clear hp
    go_enter Try.func32, Try.ntmps32
    go_wp2_with fail
    refine (implIs_p xs _ _ _ (by exact (HR.out.alloc (Nat.le_refl _) _).more (by simp)) hm).mono ?_; rw [HP.out]; rintro e w1 ⟨rfl, b1⟩
    go_wp2_with fail
    go_ret2
    have hc : codeB xs day = 1 := by rw [codeB, HP.out]; rfl
    have ht : takeR xs (day, kind) = ([], 1) := by rw [takeR, hc]; rfl
    refine ⟨_, by rw [ht]; rfl, ?_, ((Below.refl _ _).alloc (Nat.le_refl _) _).trans (b1.mono (by simp))⟩
    rw [ht]
    exact World.ownsRow_nil _ _ _ _
  · have hlen := isProc_len hp
    have HP := Lib.hid hp; clear hp
    cases hi : inB day 0 1000000000000
    · have HI := Lib.hid hi; clear hi
      go_enter Try.func32, Try.ntmps32
      go_wp2_with fail
      refine (implIs_p xs _ _ _ (by exact (HR.out.alloc (Nat.le_refl _) _).more (by simp)) hm).mono ?_; rw [HP.out]; rintro e w1 ⟨rfl, b1⟩
      obtain ⟨q1, q2⟩ := bcell b1
      have hz1' := b1.size
      have B1 : Below w.heap.size w w1 := ((Below.refl _ _).alloc (Nat.le_refl _) _).trans (b1.mono (by simp))
      clear b1
      go_wp2_with (go_at_call 67; refine (isDay_any _ _).mono ?_; rw [HI.out]; rintro e w' ⟨rfl, rfl⟩)
      go_ret2
      have hc : codeB xs day = 2 := by rw [codeB, HP.out, HI.out]; rfl
      have ht : takeR xs (day, kind) = ([], 2) := by rw [takeR, hc]; rfl
      refine ⟨_, by rw [ht]; rfl, ?_, B1⟩
      rw [ht]
      exact World.ownsRow_nil _ _ _ _
    · have hc := Lib.hid (show codeB xs day = 0 by rw [codeB, HP.out, hi]; rfl)
      have HI := Lib.hid hi; clear hi
      go_enter Try.func32, Try.ntmps32
      go_wp2_with fail
      refine (implIs_p xs _ _ _ (by exact (HR.out.alloc (Nat.le_refl _) _).more (by simp)) hm).mono ?_; rw [HP.out]; rintro e W ⟨rfl, b1⟩
      obtain ⟨q1, q2⟩ := bcell b1
      have hz1' := b1.size
      have hbW : Below w.heap.size w W := ((Below.refl _ _).alloc (Nat.le_refl _) _).trans (b1.mono (by simp))
      have hS := (Blk.new w 50 #[.int .i64 day, .int .i64 kind]).below b1 (by simp)
      have s0 := hS.cell 0
      have s1 := hS.cell 1
      simp only [List.getElem?_toArray, List.getElem?_cons_succ, List.getElem?_cons_zero] at s0 s1
      have z1 : w.heap.size < W.heap.size := by simp at hz1'; omega
      clear b1 q1 q2 hz1' hS
      go_wp2_with (go_at_call 67; refine (isDay_any _ _).mono ?_; rw [HI.out]; rintro e w' ⟨rfl, rfl⟩)
      go_cut [6] (fun v6 wx => ∃ A2 c2, v6 = .slice A2 (xs.length + 1) c2 ∧ wx.ownsRow W.heap.size 50 2 (.slice A2 (xs.length + 1) c2) (xs.length + 1) (stC (xs ++ [(day, kind)])) ∧ Below W.heap.size W wx)
      case first =>
        go_region_held3 (fun w' => w'.cell? ⟨w.heap.size, 0, none⟩ = some (.int .i64 day) ∧ w'.cell? ⟨w.heap.size, 1, none⟩ = some (.int .i64 kind))
          (first | exact ⟨k0, k1⟩ | (go_keep; done) | ((try dsimp only); (repeat' apply And.intro) <;> (go_keep; done)))
          (first | (go_at_call 68; refine (cloneStep A xs.length c (stC xs) W.drew (by exact (HR.out.below (hbW.trans (((Below.refl W.heap.size W).drew).mono (by omega)))).more (by simp; omega)) (stC_one xs) (by omega) hA).mono ?_; rintro e w1 ⟨v1, rfl, hown1, hb1⟩; have hbA : Below W.heap.size W w1 := ((Below.refl W.heap.size W).drew).trans (hb1.mono (by simp)); have k0 := (hbA.cell (p := ⟨w.heap.size, 0, none⟩) z1).trans s0; have k1 := (hbA.cell (p := ⟨w.heap.size, 1, none⟩) z1).trans s1) | (go_at_call 68; refine (cloneStep A xs.length c (stC xs) ((W.alloc (.cells #[.int .i64 day, .int .i64 kind] 50)).drew) (by exact (HR.out.below (hbW.trans ((((Below.refl W.heap.size W).alloc (Nat.le_refl _) (.cells #[.int .i64 day, .int .i64 kind] 50)).drew).mono (by omega)))).more (by simp; omega)) (stC_one xs) (by omega) hA).mono ?_; rintro e w1 ⟨v1, rfl, hown1, hb1⟩; have hbB : Below W.heap.size W w1 := (((Below.refl W.heap.size W).alloc (Nat.le_refl _) (.cells #[.int .i64 day, .int .i64 kind] 50)).drew).trans (hb1.mono (by simp)); have k0 := (hbB.cell (p := ⟨w.heap.size, 0, none⟩) z1).trans s0; have k1 := (hbB.cell (p := ⟨w.heap.size, 1, none⟩) z1).trans s1) | (refine step_append_any _ (by rfl) (.tmp 17) (.tmp 19) _ (by rfl) W.heap.size 50 i0 _ 2 16 Try.underlying40 hi0 hz0 hz1 hz2 rfl (by omega) v1 xs.length (stC xs) (by rfl) ((own_mono hown1 (by simp)).alloc _) _ (some ⟨w1.heap.size, 0, none⟩) 1 1 [.int .i64 day, .int .i64 kind] (by rfl) (new_reads2 _ _ _ _) (by simp [Value.oneCell']) (by simp only [maxLen]; omega) (by omega) (by have := hbA.size; simp; omega) ?_; intro v2 w2 hown2 hg2 hat2; have hb2 : Below W.heap.size W w2 := below_own (hbA.alloc hbA.size _) ((own_mono hown1 (by simp)).alloc _) hg2 (Nat.le_refl _) (by have := hbA.size; simp; omega); have k0 := (hb2.cell (p := ⟨w.heap.size, 0, none⟩) z1).trans s0; have k1 := (hb2.cell (p := ⟨w.heap.size, 1, none⟩) z1).trans s1) | (refine step_append_any _ (by rfl) (.tmp 17) (.tmp 19) _ (by rfl) W.heap.size 50 i0 _ 2 16 Try.underlying40 hi0 hz0 hz1 hz2 rfl (by omega) v1 xs.length (stC xs) (by rfl) (own_mono hown1 (by simp)) _ (some ⟨W.heap.size, 0, none⟩) 1 1 [.int .i64 day, .int .i64 kind] (by rfl) ((new_reads2 W 50 (.int .i64 day) (.int .i64 kind)).drew.below (hb1.mono (by simp))) (by simp [Value.oneCell']) (by simp only [maxLen]; omega) (by omega) (by have := hbB.size; simp; omega) ?_; intro v2 w2 hown2 hg2 hat2; have hb2 : Below W.heap.size W w2 := below_own hbB (own_mono hown1 (by simp)) hg2 (Nat.le_refl _) (by have := hbB.size; simp; omega); have k0 := (hb2.cell (p := ⟨w.heap.size, 0, none⟩) z1).trans s0; have k1 := (hb2.cell (p := ⟨w.heap.size, 1, none⟩) z1).trans s1) | fail)
        all_goals
          go_wp2_with fail
          go_meet
          obtain ⟨A2, c2, rfl, _⟩ := own_shape hown2
          exact ⟨A2, c2, rfl, by rw [show stC (xs ++ [(day, kind)]) = stC xs ++ [.int .i64 day, .int .i64 kind] by simp [stC]]; exact hown2, hb2⟩
      case rest =>
        obtain ⟨A2, c2, rfl, own2, b2⟩ := hcut
        have L2 := Lib.hid (show (xs ++ [(day, kind)]).length = xs.length + 1 by simp)
        have R2 := Lib.hid (Reads.of_own own2)
        have OW := Lib.hid (own_mono own2 (Nat.le_of_lt z1))
        have B2 := hbW.trans (b2.mono (Nat.le_of_lt z1))
        clear own2 b2
        cases hp' : isProc (xs ++ [(day, kind)])
        all_goals
          have HP' := Lib.hid hp'; clear hp'
          go_wp2_with fail
          refine (implIs_n (n := xs.length + 1) L2.out.symm _ _ _ R2.out (by omega)).mono ?_; rw [HP'.out]; rintro e w3 ⟨rfl, b3⟩
          go_wp2_with fail
          go_ret2
          refine ⟨_, by rw [takeR, if_pos hc.out, HP'.out]; rfl, ?_, B2.trans (b3.mono B2.size)⟩
          rw [takeR, if_pos hc.out, HP'.out]
          first | exact World.ownsRow_nil _ _ _ _ | (simp only [if_true]; rw [L2.out]; exact own_below OW.out b3)
end Go.Proofs.Yteffnidkkeeaiaa
