/- The text of a description: l28Text of the reference, descriptionText of the program; DescriptionText of both. -/
import Derived.Test.YtnbpbidflacoiaaDoorRows
import Derived.Test.YtnbpbidflacoiaaDoorL0
import Derived.Test.YtnbpbidflacoiaaDoorM0
import Derived.WalkKit
import Derived.ProofKit
import Derived.OpenShut
import Derived.BigQuiet
import Derived.Outline
import Derived.WalkSpells
import Derived.WalkLawsBesides
import Derived.Deep.DeepCutAuto
import Derived.Test.YtnbpbidflacoiaaDoorDN3
import Derived.Test.YtnbpbidflacoiaaDoorDN7
import Derived.Lib.QuietBelow
import Derived.Deep.QuietTactic
namespace Go.Proofs.YtnbpbidflacoiaaDoor
open Go.ChangeShapes Go.WideShapes Go.ChangeAt Go.RowKit Go.Sort

/-- A description that a text can be made of. -/
def TxOk (d : Dsc) : Prop := d.unit.size ≤ 1000 ∧ d.a.size ≤ 1000 ∧ d.b.size ≤ 1000 ∧ (d.kind = 2 → 0 ≤ d.count ∧ d.count < 10000000000000 ∧ 0 ≤ d.dir ∧ d.dir ≤ 7)
theorem word_size {s : ByteArray} (h : wordB s = true) : s.size ≤ 16 := by
  simp only [wordB, Bool.and_eq_true, inB, decide_eq_true_eq] at h
  omega
theorem unit_size {u : ByteArray} {c : Int} (h : 0 < unitD u c) : u.size ≤ 1000 := by
  unfold unitD at h
  split at h
  · split at h
    · rename_i h1; subst h1; decide
    · split at h
      · rename_i h1; subst h1; decide
      · omega
  · split at h
    · rename_i h1; subst h1; decide
    · split at h
      · rename_i h1; subst h1; decide
      · omega
theorem isD_tx {d : Dsc} (h : isD d = true) : TxOk d := by
  have ha : codeW d.a = true := by
    unfold isD at h
    rw [Bool.and_eq_true] at h
    exact h.1
  have ha' := word_size (code_word ha)
  by_cases hk : d.kind = 2
  · obtain ⟨⟨c1, c2⟩, hu, ⟨d1, d2⟩, hb⟩ := isD_from h hk
    exact ⟨unit_size hu, by omega, by rw [hb]; decide, fun _ => by omega⟩
  · have h' := h
    unfold isD at h'
    rw [Bool.and_eq_true, if_neg hk] at h'
    simp only [Bool.and_eq_true, decide_eq_true_eq] at h'
    obtain ⟨_, ⟨h1, h2, h3⟩, h4⟩ := h'
    refine ⟨by rw [h2]; decide, by omega, ?_, fun h => absurd h hk⟩
    by_cases h01 : d.kind = 0 ∨ d.kind = 1
    · rw [if_pos h01] at h4
      rw [of_decide_eq_true h4]; decide
    · rw [if_neg h01] at h4
      simp only [Bool.and_eq_true, decide_eq_true_eq] at h4
      have := word_size (code_word h4.2.1)
      omega
theorem dir_at {i : Nat} (h : i < 8) : dirW (i : Int) = dirsL[i]'(by rw [dirs_len]; exact h) := by
  have : i = 0 ∨ i = 1 ∨ i = 2 ∨ i = 3 ∨ i = 4 ∨ i = 5 ∨ i = 6 ∨ i = 7 := by omega
  rcases this with rfl | rfl | rfl | rfl | rfl | rfl | rfl | rfl <;> rfl
theorem dir_size {i : Int} (h0 : 0 ≤ i) (h7 : i ≤ 7) : (dirW i).size ≤ 20 := by
  have : i = 0 ∨ i = 1 ∨ i = 2 ∨ i = 3 ∨ i = 4 ∨ i = 5 ∨ i = 6 ∨ i = 7 := by omega
  rcases this with rfl | rfl | rfl | rfl | rfl | rfl | rfl | rfl <;> decide +kernel
theorem specWordD_any (i : Int) (h0 : 0 ≤ i) (h7 : i ≤ 7) (w : World) :
    Calls Tryd.prog 80 #[.int .i64 i] w fun e w' => e = .returned (.string (dirW i)) ∧ Below w.heap.size w w' := by
  obtain ⟨k, rfl⟩ : ∃ k : Nat, i = k := ⟨i.toNat, by omega⟩
  rw [dir_at (by omega)]
  exact word_any k (by omega) w
theorem specDecI_any (i : Int) (h0 : 0 ≤ i) (h1 : i ≤ 9223372036854775807) (w : World) :
    Calls Tryd.prog 79 #[.int .i64 i] w fun e w' => e = .returned (.string (decN i.toNat)) ∧ Below w.heap.size w w' := by
  obtain ⟨k, rfl⟩ : ∃ k : Nat, i = k := ⟨i.toNat, by omega⟩
  exact specDec_any k (by omega) w
set_option maxRecDepth 100000 in
set_option maxHeartbeats 2000000 in
theorem specText_any (d : Dsc) (hd : TxOk d) (w : World) :
    Calls Tryd.prog 53 #[d.val] w fun e w' => e = .returned (.string (textD d)) ∧ Below w.heap.size w w' := by
  obtain ⟨kind, count, unit, dir, a, b⟩ := d
  obtain ⟨hu, ha, hb, hk2⟩ := hd
  unfold Dsc.val
  dsimp only at hu ha hb hk2 ⊢
  have KN := Lib.hid (dsc_new w 25 #[.int .i64 kind, .int .i64 count, .string unit, .int .i64 dir, .string a, .string b])
  have HX := Lib.hid (show textD ⟨kind, count, unit, dir, a, b⟩ = if kind = 0 then ⟨#[97, 116, 32]⟩ ++ a else if kind = 1 then ⟨#[110, 101, 97, 114, 32]⟩ ++ a else if kind = 2 then decN count.toNat ++ ⟨#[32]⟩ ++ unit ++ ⟨#[32]⟩ ++ dirW dir ++ ⟨#[32, 111, 102, 32]⟩ ++ a else ⟨#[98, 101, 116, 119, 101, 101, 110, 32]⟩ ++ a ++ ⟨#[32, 97, 110, 100, 32]⟩ ++ b from rfl)
  generalize textD ⟨kind, count, unit, dir, a, b⟩ = r at HX ⊢
  by_cases h2 : kind = 2
  · subst h2
    obtain ⟨c0, c1, d0, d7⟩ := hk2 rfl
    rw [if_neg (by decide), if_neg (by decide), if_pos rfl] at HX
    have CD := Lib.hid (specDecI_any count c0 (by omega))
    have CW := Lib.hid (specWordD_any dir d0 d7)
    have sw := dir_size d0 d7
    have sd := (decN_le (i := count.toNat) (by omega)).2
    generalize decN count.toNat = D at HX CD sd
    generalize dirW dir = V at HX CW sw
    have z1 : ¬ 9223372036854775807 < D.size + 1 := by omega
    have z2 : ¬ 9223372036854775807 < D.size + 1 + unit.size := by omega
    have z3 : ¬ 9223372036854775807 < D.size + 1 + unit.size + 1 := by omega
    have z4 : ¬ 9223372036854775807 < D.size + 1 + unit.size + 1 + V.size := by omega
    have z5 : ¬ 9223372036854775807 < D.size + 1 + unit.size + 1 + V.size + 4 := by omega
    have z6 : ¬ 9223372036854775807 < D.size + 1 + unit.size + 1 + V.size + 4 + a.size := by omega
    go_enter Tryd.func53, Tryd.ntmps53
    go_upto_region 7 with (fail)
    generalize hW : w.alloc (.cells #[.int .i64 2, .int .i64 count, .string unit, .int .i64 dir, .string a, .string b] 25) = W
    obtain ⟨bk, bw⟩ := KN.out W hW.symm
    clear hW
    obtain ⟨k0, k1, k2, k3, k4, k5⟩ := dsc_cells bk
    have t1 := cell_regrown k1
    have t2 := cell_regrown k2
    have t3 := cell_regrown k3
    have t4 := cell_regrown k4
    clear k0 k1 k2 k3 k4 k5
    have r1 : ∀ e os, Calls Tryd.prog 79 #[.int .i64 count] (grow (redrawn W e) os) (fun e w'' => e = .returned (.string D) ∧ ∃ p : Regrown, w'' = grow (redrawn W p.d) p.os) := fun e os => Calls.regrown_of (CD.out _)
    have r2 : ∀ e os, Calls Tryd.prog 80 #[.int .i64 dir] (grow (redrawn W e) os) (fun e w'' => e = .returned (.string V) ∧ ∃ p : Regrown, w'' = grow (redrawn W p.d) p.os) := fun e os => Calls.regrown_of (CW.out _)
    refine wp_region_quiet_below (by kernel_rfl) (by kernel_rfl) ?_; (repeat (first | go_big_quiet_step ((first | with_reducible exact r1 _ _ | with_reducible exact r2 _ _)))); refine wpQuiet_nil ?_; intro _ hw'; obtain ⟨⟨dq, osq⟩, rfl⟩ := hw'
    have B2 := Lib.hid (bw.trans ((below_regrown W dq osq).mono bw.size))
    generalize grow (redrawn W dq) osq = w2 at B2 ⊢
    clear r1 r2 t1 t2 t3 t4
    go_wp2_with fail
    go_ret
    exact ⟨by rw [HX.out]; rfl, B2.out⟩
  · have z1 : ¬ 9223372036854775807 < 3 + a.size := by omega
    have z2 : ¬ 9223372036854775807 < 5 + a.size := by omega
    have z3 : ¬ 9223372036854775807 < 8 + a.size := by omega
    have z4 : ¬ 9223372036854775807 < 8 + a.size + 5 := by omega
    have z5 : ¬ 9223372036854775807 < 8 + a.size + 5 + b.size := by omega
    have q2 : (kind == 2) = false := by simpa using h2
    rw [if_neg h2] at HX
    clear h2 hk2
    by_cases h0 : kind = 0
    · rw [if_pos h0] at HX
      subst h0
      go_enter Tryd.func53, Tryd.ntmps53
      go_wp2_with fail
      go_ret
      exact ⟨by rw [HX.out]; rfl, (Below.refl _ _).alloc (Nat.le_refl _) _⟩
    · rw [if_neg h0] at HX
      have q0 : (kind == 0) = false := by simpa using h0
      clear h0
      by_cases h1 : kind = 1
      · rw [if_pos h1] at HX
        subst h1
        go_enter Tryd.func53, Tryd.ntmps53
        go_wp2_with fail
        go_ret
        exact ⟨by rw [HX.out]; rfl, (Below.refl _ _).alloc (Nat.le_refl _) _⟩
      · rw [if_neg h1] at HX
        have q1 : (kind == 1) = false := by simpa using h1
        clear h1
        go_enter Tryd.func53, Tryd.ntmps53
        go_wp2_with fail
        go_ret
        exact ⟨by rw [HX.out]; rfl, (Below.refl _ _).alloc (Nat.le_refl _) _⟩
end Go.Proofs.YtnbpbidflacoiaaDoor
