/- Draws: l01Pick, and the draws of procedures. -/
import Derived.Test.YteeonojcihcfiaaDoorRows
import Derived.Test.YteeonojcihcfiaaDoorK9GA
import Derived.WalkKit
import Derived.ProofKit
import Derived.OpenShut
import Derived.BigQuiet
import Derived.Outline
import Derived.WalkSpells
import Derived.WalkLawsBesides
import Derived.Deep.DeepCutAuto
import Derived.Test.YteeonojcihcfiaaDoorK9DPU
import Derived.Test.YteeonojcihcfiaaDoorK9DPE
import Derived.Test.YteeonojcihcfiaaDoorK9GB
import Derived.Test.YteeonojcihcfiaaDoorK9C5
import Derived.Deep.LoopGhost
namespace Go.Proofs.YteeonojcihcfiaaDoor
open Go.ChangeShapes Go.WideShapes Go.ChangeAt Go.RowKit
theorem isProc_len {xs : List Stp} (h : isProc xs = true) : xs.length ≤ 12 := by
  simp only [isProc, Bool.and_eq_true, decide_eq_true_eq] at h; omega
theorem specIs_n {xs : List Stp} {n : Nat} (h : n = xs.length) (A : Option Addr) (c : Nat) (w : World) (hr : Reads w w.heap.size 2 A n (stC xs)) (hm : n ≤ 9223372036854775807) :
    Calls Tryd.prog 20 #[.slice A n c] w fun e w' => e = .returned (.bool (isProc xs)) ∧ Below w.heap.size w w' := by
  subst h; exact specIs_any xs A c w hr hm
theorem runS_snoc (x : Stp) : ∀ (xs : List Stp) (s : St), runS s (xs ++ [x]) = (runS s xs).bind fun t => stepS t x
  | [], s => by simp [runS]
  | y :: r, s => by
    simp only [List.cons_append, runS]
    cases stepS s y with
    | none => rfl
    | some t => simpa using runS_snoc x r t
theorem step_last {s t : St} {x : Stp} (h : stepS s x = some t) : t.last = x.1 := by
  unfold stepS at h
  split at h
  · cases h
  · simp only at h
    split at h
    · cases h
    · cases h; rfl
theorem last_snoc {ys : List Stp} {x : Stp} (h : isProc (ys ++ [x]) = true) : (runR (ys ++ [x])).last = x.1 := by
  have h0 : 0 ≤ (runR (ys ++ [x])).stage := by simp [isProc] at h; omega
  unfold runR at h0 ⊢
  cases hr : runS st0 (ys ++ [x]) with
  | none => rw [hr] at h0; simp at h0
  | some t =>
    rw [runS_snoc] at hr
    cases hq : runS st0 ys with
    | none => rw [hq] at hr; cases hr
    | some q => rw [hq] at hr; exact step_last hr
theorem runR_ok {ys : List Stp} (h : isProc ys = true) : StOk (runR ys) := by
  have h0 : 0 ≤ (runR ys).stage := by simp [isProc] at h; omega
  unfold runR at h0 ⊢
  cases hr : runS st0 ys with
  | none => rw [hr] at h0; simp at h0
  | some s => exact runS_ok st0_ok hr


theorem proc_day {xs : List Stp} {x : Stp} (h : isProc (xs ++ [x]) = true) : 0 ≤ x.1 ∧ x.1 ≤ 1000000000000 := by
  have h1 := runR_ok h
  rw [StOk] at h1
  have h2 := last_snoc h
  obtain ⟨_, _, _, _, _, _, f4, f5⟩ := h1
  rw [h2] at f4 f5
  exact ⟨f4, f5⟩
/-- A drawn list of steps. -/
def DrawnSteps (w : World) (B g : Nat) (Q : List Stp → Prop) (e : Ending) (w' : World) : Prop :=
  ∃ xs A c, e = .returned (.slice A xs.length c) ∧ Q xs ∧ w'.ownsRow w.heap.size 41 2 (.slice A xs.length c) xs.length (stC xs) ∧ Src w' B g ∧ Only w w' g

/-- The reference's l25With, its length under a name of its own. -/
theorem with_n (xs : List Stp) (N : Nat) (hN : N = xs.length) (A : Option Addr) (c : Nat) (D kind : Int) (w : World) (hr : Reads w w.heap.size 2 A N (stC xs)) (hn : N ≤ 1048576) :
    Calls Tryd.prog 47 #[.slice A N c, .agg #[.int .i64 D, .int .i64 kind]] w fun e w' => ∃ A2 c2, e = .returned (.slice A2 (N + 1) c2) ∧ w'.ownsRow w.heap.size 41 2 (.slice A2 (N + 1) c2) (N + 1) (stC (xs ++ [(D, kind)])) ∧ Below w.heap.size w w' := by
  subst hN
  refine (with_any xs A c D kind w hr hn).mono ?_
  rintro e w' ⟨v, rfl, own, b⟩
  obtain ⟨A2, c2, rfl, _⟩ := own_shape own
  exact ⟨A2, c2, rfl, own, b⟩
set_option maxRecDepth 100000 in
set_option maxHeartbeats 4000000 in
theorem good_any (B g : Nat) (w : World) (hs : Src w B g) (hB : B ≤ w.heap.size) :
    Calls Tryd.prog 33 #[.pointer (some ⟨g, 0, none⟩)] w (DrawnSteps w B g (fun xs => isProc xs = true)) := by
  have hgl := hs.lt
  have HS := Lib.hid hs; clear hs
  go_enter Tryd.func33, Tryd.ntmps33
  go_wp2_with fail
  refine (draw_any 100 B g _ (HS.out.alloc _) (by simp; omega)).mono ?_
  rintro e w1 ⟨x, rfl, h0, h1, _, hs1, ho1⟩
  have hx1 := h1 (by omega)
  have HS1 := Lib.hid hs1
  have HO1 := Lib.hid (only_trans (only_of_below ((Below.refl _ _).alloc (Nat.le_refl _) _)) ho1)
  have HW1 := Lib.hid (own_only (World.ownsRow_made (e := 41) (size := 2) w #[] 0 (Nat.le_refl _) (by decide) rfl) ho1 hgl)
  clear hs1 ho1 h1
  have z1 := HO1.out.size
  go_wp2_with fail
  refine (draw_any 8 B g w1 HS1.out (by omega)).mono ?_
  rintro e w2 ⟨n, rfl, hn0, hn1, _, hs2, ho2⟩
  have hn2 := hn1 (by omega)
  have HS2 := Lib.hid hs2
  have HO2 := Lib.hid (only_trans HO1.out ho2)
  have HW2 := Lib.hid (own_only HW1.out ho2 hgl)
  clear hs2 ho2 hn1
  go_wp2_with fail
  go_loopw [3, 4, 5] (fun v3 v4 v5 wr => ∃ (xs : List Stp) (N : Nat) (A : Option Addr) (c : Nat) (day n : Int), v3 = .slice A N c ∧ v4 = .int .i64 day ∧ v5 = .int .i64 n ∧ 0 ≤ day ∧ day ≤ 1000000000000 ∧ 0 ≤ n ∧ n < 8 ∧ N ≤ 12 ∧ Hid (N = xs.length) ∧ Hid (isProc xs = true) ∧ Hid (wr.ownsRow w.heap.size 41 2 (.slice A N c) N (stC xs)) ∧ Hid (Src wr B g) ∧ Hid (Only w wr g)) (fun _ _ i _ => (intOf i).toNat)
  case atStart => exact ⟨[], 0, _, _, x, n, rfl, rfl, rfl, h0, by omega, hn0, hn2, by omega, rfl, rfl, HW2.out, HS2.out, HO2.out⟩
  case round =>
    clear HS HS1 HO1 HW1 HS2 HO2 HW2 h0 hx1 hn0 hn2
    obtain ⟨xs, N, A, c, day, n, rfl, rfl, rfl, hd0, hd1, hn0, hn8, hN12, HN, HP, HW, HS, HO⟩ := hrel
    have zr := HO.out.size
    by_cases hpos : 0 < n
    · go_wp2_with fail
      refine (draw_any 20 B g wr HS.out (by omega)).mono ?_
      rintro e w1 ⟨x1, rfl, h10, h11, _, hs1, ho1⟩
      have h12 := h11 (by omega)
      have zz1 := ho1.size
      have gl1 := hs1.lt
      have HS1 := Lib.hid hs1
      have HO1 := Lib.hid (only_trans HO.out ho1)
      have HW1 := Lib.hid (own_only HW.out ho1 hgl)
      clear hs1 ho1 h11
      go_wp2_with fail
      refine (pick_any [0, x1, 30, 31, 14, 15] w1.heap.size 6 B g _ (HS1.out.alloc _) (by simp; omega) (by simp) (by simp) (Blk.new _ _ _) (by omega)).mono ?_
      rintro e w2 ⟨x2, rfl, hm2, hs2, ho2⟩
      have h20 : 0 ≤ x2 ∧ x2 ≤ 31 := by simp at hm2; omega
      have zz2 := ho2.size
      simp at zz2
      have HS2 := Lib.hid hs2
      have HO2 := Lib.hid (only_trans (only_alloc HO1.out _) ho2)
      have HW2 := Lib.hid (own_only (HW1.out.alloc _) ho2 hgl)
      clear hs2 ho2 hm2
      go_wp2_with fail
      refine (draw_any 8 B g w2 HS2.out (by omega)).mono ?_
      rintro e w3 ⟨x3, rfl, h30, h31, _, hs3, ho3⟩
      have zz3 := ho3.size
      have gl3 := hs3.lt
      have HS3 := Lib.hid hs3
      have HO3 := Lib.hid (only_trans HO2.out ho3)
      have HW3 := Lib.hid (own_only HW2.out ho3 hgl)
      clear hs3 ho3 h31
      obtain ⟨D, hD⟩ : ∃ D, day + x2 = D := ⟨_, rfl⟩
      have hDb : 0 ≤ D ∧ D ≤ 1000000000031 := by omega
      rw [hD]
      clear hD h20
      obtain ⟨kd, hkd⟩ : ∃ kd : Int, (N = 0 ∧ kd = 0) ∨ (N ≠ 0 ∧ kd = x3) := by
        by_cases h : N = 0
        · exact ⟨0, .inl ⟨h, rfl⟩⟩
        · exact ⟨x3, .inr ⟨h, rfl⟩⟩
      have HO4 := Lib.hid (only_alloc HO3.out (.cells #[.int .i64 D, .int .i64 kd] 41))
      have HS4 := Lib.hid (HS3.out.alloc (.cells #[.int .i64 D, .int .i64 kd] 41))
      have HW4 := Lib.hid (HW3.out.alloc (.cells #[.int .i64 D, .int .i64 kd] 41))
      have hR4 := (Reads.of_own HW4.out)
      have HR4 := Lib.hid hR4; clear hR4
      have z4 := HO4.out.size
      simp at z4
      have hlen1 : xs.length ≤ 1048576 := by have := HN.out; omega
      cases hp : isProc (xs ++ [(D, kd)])
      · have HQ := Lib.hid hp; clear hp
        have HN1 := Lib.hid (show (xs ++ [(D, kd)]).length = N + 1 by rw [List.length_append, HN.out]; rfl)
        have hkd' : (((N : Int) == 0) = true ∧ kd = 0) ∨ (((N : Int) == 0) = false ∧ kd = x3) := by
          rcases hkd with ⟨h, h'⟩ | ⟨h, h'⟩
          · exact .inl ⟨by simpa using h, h'⟩
          · exact .inr ⟨by simpa using h, h'⟩
        clear hkd
        rcases hkd' with ⟨hN0, rfl⟩ | ⟨hN0, rfl⟩
        all_goals
          go_wp2_with fail
          refine (with_n xs N HN.out A c D _ _ (by exact HR4.out) (by omega)).mono ?_
          rintro e w5 ⟨A5, c5, rfl, own5, b5⟩
          obtain ⟨q1, q2⟩ := bcell b5
          have R5 := Lib.hid (Reads.of_own own5)
          have zz5 := b5.size
          simp at zz5
          have HO5 := Lib.hid (only_trans HO4.out (only_of_below b5))
          have HS5 := Lib.hid (HS4.out.below b5)
          have HW5 := Lib.hid (own_below HW4.out b5)
          have SB5 := Lib.hid ((Blk.new w3 41 _).below b5 (by simp))
          clear b5 own5
          go_wp2_with fail
          refine (specIs_n (n := N + 1) HN1.out.symm _ _ _ R5.out (by omega)).mono ?_; rw [HQ.out]; rintro e w6 ⟨rfl, b6⟩
          have HO6 := Lib.hid (only_trans HO5.out (only_of_below b6))
          have HS6 := Lib.hid (HS5.out.below b6)
          have HW6 := Lib.hid (own_below HW5.out b6)
          have SB6 := Lib.hid (SB5.out.below b6 (by omega))
          have zz6 := b6.size
          clear b6 q1 q2
          go_wp2_with fail
          go_roundw
          case rel => exact ⟨xs, N, A, c, day, n - 1, rfl, rfl, rfl, hd0, hd1, by omega, by omega, hN12, HN, HP, HW6, HS6, HO6⟩
          case measure => simp [intOf]; omega
      · have hD12 := (proc_day hp).2
        have hN1 : N + 1 ≤ 12 := by have := isProc_len hp; rw [List.length_append, ← HN.out] at this; simpa using this
        dsimp only at hD12
        have HQ := Lib.hid hp; clear hp
        have HN1 := Lib.hid (show (xs ++ [(D, kd)]).length = N + 1 by rw [List.length_append, HN.out]; rfl)
        have hkd' : (((N : Int) == 0) = true ∧ kd = 0) ∨ (((N : Int) == 0) = false ∧ kd = x3) := by
          rcases hkd with ⟨h, h'⟩ | ⟨h, h'⟩
          · exact .inl ⟨by simpa using h, h'⟩
          · exact .inr ⟨by simpa using h, h'⟩
        clear hkd
        rcases hkd' with ⟨hN0, rfl⟩ | ⟨hN0, rfl⟩
        all_goals
          go_wp2_with fail
          refine (with_n xs N HN.out A c D _ _ (by exact HR4.out) (by omega)).mono ?_
          rintro e w5 ⟨A5, c5, rfl, own5, b5⟩
          obtain ⟨q1, q2⟩ := bcell b5
          have R5 := Lib.hid (Reads.of_own own5)
          have zz5 := b5.size
          simp at zz5
          have HO5 := Lib.hid (only_trans HO4.out (only_of_below b5))
          have HS5 := Lib.hid (HS4.out.below b5)
          have HW5 := Lib.hid (own_below HW4.out b5)
          have SB5 := Lib.hid ((Blk.new w3 41 _).below b5 (by simp))
          clear b5 own5
          go_wp2_with fail
          refine (specIs_n (n := N + 1) HN1.out.symm _ _ _ R5.out (by omega)).mono ?_; rw [HQ.out]; rintro e w6 ⟨rfl, b6⟩
          have HO6 := Lib.hid (only_trans HO5.out (only_of_below b6))
          have HS6 := Lib.hid (HS5.out.below b6)
          have HW6 := Lib.hid (own_below HW5.out b6)
          have SB6 := Lib.hid (SB5.out.below b6 (by omega))
          have zz6 := b6.size
          clear b6 q1 q2
          have k0 := SB6.out.cell 0
          have k1 := SB6.out.cell 1
          simp only [List.getElem?_toArray, List.getElem?_cons_succ, List.getElem?_cons_zero] at k0 k1
          go_wp2_with fail
          refine (with_n xs N HN.out A c D _ _ (Reads.of_own HW6.out) (by omega)).mono ?_
          rintro e w7 ⟨A7, c7, rfl, own7, b7⟩
          have HO7 := Lib.hid (only_trans HO6.out (only_of_below b7))
          have HS7 := Lib.hid (HS6.out.below b7)
          have HW7 := Lib.hid (own_mono (base' := w.heap.size) own7 (by omega))
          have k0' := (b7.cell (p := ⟨w3.heap.size, 0, none⟩) (by simp; omega)).trans k0
          clear b7 own7 k0 k1
          go_wp2_with fail
          go_roundw
          case rel => exact ⟨xs ++ [(D, _)], N + 1, A7, c7, D, n - 1, rfl, rfl, rfl, hDb.1, hD12, by omega, by omega, hN1, HN1.out.symm, HQ, HW7, HS7, HO7⟩
          case measure => simp [intOf]; omega
    · go_wp2_with fail
      go_ret
      have e := HN.out
      subst e
      exact ⟨xs, A, c, rfl, HP.out, HW.out, HS.out, HO.out⟩
end Go.Proofs.YteeonojcihcfiaaDoor
