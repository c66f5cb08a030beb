/- The text of a description: descriptionText of the program; DescriptionText of both. -/
import Derived.Test.YtnbpbidflacoiaaDoorRows
import Derived.Test.YtnbpbidflacoiaaDoorL0
import Derived.Test.YtnbpbidflacoiaaDoorM0
import Derived.WalkKit
import Derived.ProofKit
import Derived.OpenShut
import Derived.BigQuiet
import Derived.Outline
import Derived.WalkSpells
import Derived.WalkLawsBesides
import Derived.Deep.DeepCutAuto
import Derived.Test.YtnbpbidflacoiaaDoorDN8
import Derived.Lib.QuietBelow
import Derived.Deep.QuietTactic
namespace Go.Proofs.YtnbpbidflacoiaaDoor
open Go.ChangeShapes Go.WideShapes Go.ChangeAt Go.RowKit Go.Sort

set_option maxRecDepth 100000 in
set_option maxHeartbeats 2000000 in
theorem implText_any (d : Dsc) (hd : TxOk d) (w : World) (ht : Tab w) (hdir : Dirs w) :
    Calls Tryd.prog 54 #[d.val] w fun e w' => e = .returned (.string (textD d)) ∧ Below w.heap.size w w' := by
  obtain ⟨kind, count, unit, dir, a, b⟩ := d
  obtain ⟨hu, ha, hb, hk2⟩ := hd
  unfold Dsc.val
  dsimp only at hu ha hb hk2 ⊢
  have KN := Lib.hid (dsc_new w 25 #[.int .i64 kind, .int .i64 count, .string unit, .int .i64 dir, .string a, .string b])
  have HX := Lib.hid (show textD ⟨kind, count, unit, dir, a, b⟩ = if kind = 0 then ⟨#[97, 116, 32]⟩ ++ a else if kind = 1 then ⟨#[110, 101, 97, 114, 32]⟩ ++ a else if kind = 2 then decN count.toNat ++ ⟨#[32]⟩ ++ unit ++ ⟨#[32]⟩ ++ dirW dir ++ ⟨#[32, 111, 102, 32]⟩ ++ a else ⟨#[98, 101, 116, 119, 101, 101, 110, 32]⟩ ++ a ++ ⟨#[32, 97, 110, 100, 32]⟩ ++ b from rfl)
  generalize textD ⟨kind, count, unit, dir, a, b⟩ = r at HX ⊢
  by_cases h2 : kind = 2
  · subst h2
    obtain ⟨c0, c1, d0, d7⟩ := hk2 rfl
    rw [if_neg (by decide), if_neg (by decide), if_pos rfl] at HX
    have CD := Lib.hid (fun W (h : Below w.heap.size w W) => (show Calls Tryd.prog 81 #[.int .i64 count] W fun e w' => e = .returned (.string (decN count.toNat)) ∧ Below W.heap.size W w' from by
      have h1 := implDecN_any count (by omega) (by omega) W (ht.below h)
      rwa [show itoN count = decN count.toNat by rw [← itoN_nat, show ((count.toNat : Nat) : Int) = count by omega]] at h1))
    obtain ⟨k, rfl⟩ : ∃ k : Nat, dir = k := ⟨dir.toNat, by omega⟩
    have CW := Lib.hid (fun W (h : Below w.heap.size w W) => (show W.cell? ⟨0, k, none⟩ = some (.string (dirW k)) from by
      rw [dir_at (by omega)]
      obtain ⟨ab, ao, hA, _, hc⟩ := (hdir.below h).2 (by omega)
      injection hA with hA
      injection hA with h1 h2 _
      have := hc k (.string (dirsL[k]'(by rw [dirs_len]; omega))) (by simp [txC])
      rw [← h1, ← h2, Nat.zero_add] at this
      exact this))
    clear ht hdir
    have i0 : (0 : Int) ≤ (k : Int) := d0
    have i8 : (k : Int) < 8 := by omega
    have sw := dir_size d0 d7
    have sd := (decN_le (i := count.toNat) (by omega)).2
    generalize decN count.toNat = D at HX CD sd
    generalize dirW (k : Int) = V at HX CW sw
    have z1 : ¬ 9223372036854775807 < D.size + 1 := by omega
    have z2 : ¬ 9223372036854775807 < D.size + 1 + unit.size := by omega
    have z3 : ¬ 9223372036854775807 < D.size + 1 + unit.size + 1 := by omega
    have z4 : ¬ 9223372036854775807 < D.size + 1 + unit.size + 1 + V.size := by omega
    have z5 : ¬ 9223372036854775807 < D.size + 1 + unit.size + 1 + V.size + 4 := by omega
    have z6 : ¬ 9223372036854775807 < D.size + 1 + unit.size + 1 + V.size + 4 + a.size := by omega
    go_enter Tryd.func54, Tryd.ntmps54
    go_upto_region 7 with (fail)
    generalize hW : w.alloc (.cells #[.int .i64 2, .int .i64 count, .string unit, .int .i64 (k : Int), .string a, .string b] 25) = W
    obtain ⟨bk, bw⟩ := KN.out W hW.symm
    clear hW
    obtain ⟨k0, k1, k2, k3, k4, k5⟩ := dsc_cells bk
    have t1 := cell_regrown k1
    have t2 := cell_regrown k2
    have t3 := cell_regrown k3
    have t4 := cell_regrown k4
    clear k0 k1 k2 k3 k4 k5
    have t5 := cell_regrown (CW.out W bw)
    have r1 : ∀ e os, Calls Tryd.prog 81 #[.int .i64 count] (grow (redrawn W e) os) (fun e w'' => e = .returned (.string D) ∧ ∃ p : Regrown, w'' = grow (redrawn W p.d) p.os) := fun e os => Calls.regrown_of (CD.out _ (bw.trans ((below_regrown W e os).mono bw.size)))
    refine wp_region_quiet_below (by kernel_rfl) (by kernel_rfl) ?_; (repeat (first | go_big_quiet_step ((first | with_reducible exact r1 _ _)))); refine wpQuiet_nil ?_; intro _ hw'; obtain ⟨⟨dq, osq⟩, rfl⟩ := hw'
    have B2 := Lib.hid (bw.trans ((below_regrown W dq osq).mono bw.size))
    generalize grow (redrawn W dq) osq = w2 at B2 ⊢
    clear r1 t1 t2 t3 t4 t5
    go_wp2_with fail
    go_ret
    exact ⟨by rw [HX.out]; rfl, B2.out⟩
  · have z1 : ¬ 9223372036854775807 < 3 + a.size := by omega
    have z2 : ¬ 9223372036854775807 < 5 + a.size := by omega
    have z3 : ¬ 9223372036854775807 < 8 + a.size := by omega
    have z4 : ¬ 9223372036854775807 < 8 + a.size + 5 := by omega
    have z5 : ¬ 9223372036854775807 < 8 + a.size + 5 + b.size := by omega
    have q2 : (kind == 2) = false := by simpa using h2
    rw [if_neg h2] at HX
    clear h2 hk2
    by_cases h0 : kind = 0
    · rw [if_pos h0] at HX
      subst h0
      go_enter Tryd.func54, Tryd.ntmps54
      go_wp2_with fail
      go_ret
      exact ⟨by rw [HX.out]; rfl, (Below.refl _ _).alloc (Nat.le_refl _) _⟩
    · rw [if_neg h0] at HX
      have q0 : (kind == 0) = false := by simpa using h0
      clear h0
      by_cases h1 : kind = 1
      · rw [if_pos h1] at HX
        subst h1
        go_enter Tryd.func54, Tryd.ntmps54
        go_wp2_with fail
        go_ret
        exact ⟨by rw [HX.out]; rfl, (Below.refl _ _).alloc (Nat.le_refl _) _⟩
      · rw [if_neg h1] at HX
        have q1 : (kind == 1) = false := by simpa using h1
        clear h1
        go_enter Tryd.func54, Tryd.ntmps54
        go_wp2_with fail
        go_ret
        exact ⟨by rw [HX.out]; rfl, (Below.refl _ _).alloc (Nat.le_refl _) _⟩
/-- The text, and the code. -/
def dtV (d : Dsc) : ByteArray × Int := if isD d = true then (textD d, 0) else (⟨#[]⟩, 1)
set_option maxRecDepth 100000 in
set_option maxHeartbeats 1000000 in
theorem specDT_any (d : Dsc) (hd : d.Ok) (w : World) :
    Calls Tryd.prog 27 #[d.val] w fun e w' => e = .returned (.tuple #[.string (dtV d).1, .int .i64 (dtV d).2]) ∧ Below w.heap.size w w' := by
  have CI := Lib.hid (fun W (h : Below w.heap.size w W) => specIsD_any d hd W)
  have CT := Lib.hid (fun (h : isD d = true) W (hb : Below w.heap.size w W) => specText_any d (isD_tx h) W)
  have HV := Lib.hid (show dtV d = if isD d = true then (textD d, 0) else (⟨#[]⟩, 1) from rfl)
  generalize dtV d = r at HV ⊢
  obtain ⟨kind, count, unit, dir, a, b⟩ := d
  have KN := Lib.hid (dsc_new w 25 #[.int .i64 kind, .int .i64 count, .string unit, .int .i64 dir, .string a, .string b])
  generalize isD ⟨kind, count, unit, dir, a, b⟩ = ci at CI CT HV
  generalize textD ⟨kind, count, unit, dir, a, b⟩ = tx at CT HV
  unfold Dsc.val at CI CT ⊢
  dsimp only at CI CT ⊢
  cases ci
  all_goals
    go_enter Tryd.func27, Tryd.ntmps27
    go_wp2_with fail
    generalize hW : w.alloc (.cells #[.int .i64 kind, .int .i64 count, .string unit, .int .i64 dir, .string a, .string b] 25) = W
    obtain ⟨bk, bw⟩ := KN.out W hW.symm
    clear hW
    refine (CI.out W bw).mono ?_; rintro e w1 ⟨rfl, b1⟩
    have BK := Lib.hid (bk.below b1 bk.lt)
    obtain ⟨k0, k1, k2, k3, k4, k5⟩ := dsc_cells BK.out
    have B1 := Lib.hid (bw.trans (b1.mono bw.size)); clear b1 bw bk
    go_wp2_with fail
  · go_ret2
    exact ⟨by rw [HV.out]; rfl, B1.out⟩
  · refine (CT.out (by first | trivial | rfl) w1 B1.out).mono ?_; rintro e w2 ⟨rfl, b2⟩
    go_wp2_with fail
    go_ret2
    exact ⟨by rw [HV.out]; rfl, B1.out.trans (b2.mono B1.out.size)⟩
set_option maxRecDepth 100000 in
set_option maxHeartbeats 1000000 in
theorem implDT_any (d : Dsc) (hd : d.Ok) (w : World) (ht : Tab w) (hdir : Dirs w) :
    Calls Tryd.prog 29 #[d.val] w fun e w' => e = .returned (.tuple #[.string (dtV d).1, .int .i64 (dtV d).2]) ∧ Below w.heap.size w w' := by
  have CI := Lib.hid (fun W (h : Below w.heap.size w W) => implIsD_any d hd W (hdir.below h))
  have CT := Lib.hid (fun (h : isD d = true) W (hb : Below w.heap.size w W) => implText_any d (isD_tx h) W (ht.below hb) (hdir.below hb))
  have HV := Lib.hid (show dtV d = if isD d = true then (textD d, 0) else (⟨#[]⟩, 1) from rfl)
  generalize dtV d = r at HV ⊢
  obtain ⟨kind, count, unit, dir, a, b⟩ := d
  have KN := Lib.hid (dsc_new w 25 #[.int .i64 kind, .int .i64 count, .string unit, .int .i64 dir, .string a, .string b])
  generalize isD ⟨kind, count, unit, dir, a, b⟩ = ci at CI CT HV
  generalize textD ⟨kind, count, unit, dir, a, b⟩ = tx at CT HV
  unfold Dsc.val at CI CT ⊢
  dsimp only at CI CT ⊢
  cases ci
  all_goals
    go_enter Tryd.func29, Tryd.ntmps29
    go_wp2_with fail
    generalize hW : w.alloc (.cells #[.int .i64 kind, .int .i64 count, .string unit, .int .i64 dir, .string a, .string b] 25) = W
    obtain ⟨bk, bw⟩ := KN.out W hW.symm
    clear hW
    refine (CI.out W bw).mono ?_; rintro e w1 ⟨rfl, b1⟩
    have BK := Lib.hid (bk.below b1 bk.lt)
    obtain ⟨k0, k1, k2, k3, k4, k5⟩ := dsc_cells BK.out
    have B1 := Lib.hid (bw.trans (b1.mono bw.size)); clear b1 bw bk
    go_wp2_with fail
  · go_ret2
    exact ⟨by rw [HV.out]; rfl, B1.out⟩
  · refine (CT.out (by first | trivial | rfl) w1 B1.out).mono ?_; rintro e w2 ⟨rfl, b2⟩
    go_wp2_with fail
    go_ret2
    exact ⟨by rw [HV.out]; rfl, B1.out.trans (b2.mono B1.out.size)⟩
end Go.Proofs.YtnbpbidflacoiaaDoor
