/- LengthOf and PlacesUsed of both. -/
import Derived.Test.YtnbpbidflacoiaaDoorRows
import Derived.Test.YtnbpbidflacoiaaDoorL0
import Derived.Test.YtnbpbidflacoiaaDoorM0
import Derived.WalkKit
import Derived.ProofKit
import Derived.OpenShut
import Derived.BigQuiet
import Derived.Outline
import Derived.WalkSpells
import Derived.WalkLawsBesides
import Derived.Deep.DeepCutAuto
import Derived.Test.YtnbpbidflacoiaaDoorQ5
import Derived.Lib.Hide
import Derived.IntWalk
import Derived.Lib.QuietBelow
import Derived.Deep.QuietTactic
namespace Go.Proofs.YtnbpbidflacoiaaDoor
open Go.ChangeShapes Go.WideShapes Go.ChangeAt Go.RowKit Go.Sort

theorem own_blk {w : World} {g : Nat} {t : TypeId} {size n base : Nat} {L : List Value} (h : Blk w g t L.toArray) (hl : L.length = n * size) (hb : base ≤ g) (hn : n ≤ maxLen) : w.ownsRow base t size (.slice (some ⟨g, 0, none⟩) n n) n L :=
  ⟨hl, .inr ⟨g, n, L.toArray, rfl, hb, h, Nat.le_refl _, hn, by simpa using hl, by simp [← hl]⟩⟩
theorem isD_from {d : Dsc} (h : isD d = true) (hk : d.kind = 2) : (1 ≤ d.count ∧ d.count ≤ 99) ∧ 0 < unitD d.unit d.count ∧ (0 ≤ d.dir ∧ d.dir ≤ 7) ∧ d.b = ⟨#[]⟩ := by
  rw [isD, if_pos hk] at h
  simp only [Bool.and_eq_true, decide_eq_true_eq, inB] at h
  exact ⟨h.2.1, h.2.2.1, h.2.2.2.1, h.2.2.2.2⟩
set_option maxRecDepth 100000 in
theorem prefix_any (s p : ByteArray) (hs : s.size ≤ 9223372036854775807) (hp : p.size ≤ 9223372036854775807) (w : World) :
    Calls Tryd.prog 78 #[.string s, .string p] w fun e w' => e = .returned (.bool (decide (p.size ≤ s.size) && ((s.extract 0 p.size).toList == p.toList))) ∧ w = w' := by
  have H2 : Calls Tryd.prog 99 #[.string s, .string p] w fun e w' => e = .returned (.bool (decide (p.size ≤ s.size) && ((s.extract 0 p.size).toList == p.toList))) ∧ w = w' := by
    by_cases h : p.size ≤ s.size
    · rw [decide_eq_true h, Bool.true_and]
      go_enter Tryd.func99, Tryd.ntmps99
      go_wp2_with fail
      go_ret
      exact ⟨rfl, rfl⟩
    · rw [decide_eq_false h, Bool.false_and]
      go_enter Tryd.func99, Tryd.ntmps99
      go_wp2_with fail
      go_ret
      exact ⟨rfl, rfl⟩
  have HH := Lib.hid H2; clear H2
  go_enter Tryd.func78, Tryd.ntmps78
  go_wp2_with fail
  refine HH.out.mono ?_; rintro e w' ⟨rfl, rfl⟩
  go_wp2_with fail
  go_ret
  exact ⟨rfl, rfl⟩
/-- Whether a unit begins as miles do. -/
def mileB (u : ByteArray) : Bool := decide ((⟨#[109, 105, 108, 101]⟩ : ByteArray).size ≤ u.size) && ((u.extract 0 (⟨#[109, 105, 108, 101]⟩ : ByteArray).size).toList == (⟨#[109, 105, 108, 101]⟩ : ByteArray).toList)
theorem mile_unit {u : ByteArray} {c : Int} (h : 0 < unitD u c) : unitD u c = if mileB u = true then 4 else 12 := by
  have m1 : mileB ⟨#[109, 105, 108, 101]⟩ = true := by decide +kernel
  have m2 : mileB ⟨#[108, 101, 97, 103, 117, 101]⟩ = false := by decide +kernel
  have m3 : mileB ⟨#[109, 105, 108, 101, 115]⟩ = true := by decide +kernel
  have m4 : mileB ⟨#[108, 101, 97, 103, 117, 101, 115]⟩ = false := by decide +kernel
  unfold unitD at h ⊢
  split at h
  · split at h
    · rename_i h1; subst h1; simp [m1, *]
    · split at h
      · rename_i h1; subst h1; simp [m2, *]
      · omega
  · split at h
    · rename_i h1; subst h1; simp [m3, *]
    · split at h
      · rename_i h1; subst h1; simp [m4, *]
      · omega
set_option maxRecDepth 100000 in
theorem steps_any (d : Dsc) (hd : d.Ok) (hc : 1 ≤ d.count ∧ d.count ≤ 99) (hu : 0 < unitD d.unit d.count) (w : World) :
    Calls Tryd.prog 49 #[d.val] w fun e w' => e = .returned (.int .i64 (d.count * unitD d.unit d.count)) ∧ Below w.heap.size w w' := by
  have HM := Lib.hid (mile_unit hu)
  have HP := Lib.hid (fun W => (show Calls Tryd.prog 78 #[.string d.unit, .string ⟨#[109, 105, 108, 101]⟩] W fun e w' => e = .returned (.bool (mileB d.unit)) ∧ W = w' from prefix_any d.unit ⟨#[109, 105, 108, 101]⟩ hd.1 (by decide +kernel) W))
  obtain ⟨kind, count, unit, dir, a, b⟩ := d
  obtain ⟨c1, c2⟩ := hc
  unfold Dsc.val
  dsimp only at HM HP c1 c2 ⊢
  have o4 : IntKind.i64.wrap (4 * count) = 4 * count := IntWalk.i64_in _ (by omega)
  have o12 : IntKind.i64.wrap (12 * count) = 12 * count := IntWalk.i64_in _ (by omega)
  cases hm : mileB unit
  all_goals
    rw [hm] at HM HP
    clear hm
    go_enter Tryd.func49, Tryd.ntmps49
    go_wp2_with fail
    refine (HP.out _).mono ?_; rintro e w' ⟨rfl, rfl⟩
    go_wp2_with fail
    go_ret
    exact ⟨ret_int (by rw [HM.out]; simp; omega), by (repeat (first | exact Below.refl _ _ | assumption | refine Below.drew ?_ | refine below_drewN' ?_ _ | refine Below.alloc ?_ (by (try simp); (try omega)) _ | refine Below.setCell ?_ (by (try simp); (try omega)) _))⟩
def lenV (d : Dsc) : Int × Int := if isD d = true then (if d.kind = 2 then (d.count * unitD d.unit d.count, 0) else (0, 5)) else (0, 1)
set_option maxRecDepth 100000 in
set_option maxHeartbeats 1000000 in
theorem specLen_any (d : Dsc) (hd : d.Ok) (w : World) :
    Calls Tryd.prog 20 #[d.val] w fun e w' => e = .returned (.tuple #[.int .i64 (lenV d).1, .int .i64 (lenV d).2]) ∧ Below w.heap.size w w' := by
  have HS := Lib.hid (specIsD_any d hd)
  have HU := Lib.hid (specUnit_any d.unit hd.1 d.count)
  have HF := Lib.hid (fun (h : isD d = true) (hk : d.kind = 2) => isD_from h hk)
  have HL := Lib.hid (show lenV d = if isD d = true then (if d.kind = 2 then (d.count * unitD d.unit d.count, 0) else (0, 5)) else (0, 1) from rfl)
  have HB := Lib.hid (show unitD d.unit d.count = 0 ∨ unitD d.unit d.count = 4 ∨ unitD d.unit d.count = 12 by unfold unitD; (repeat' split) <;> simp)
  generalize lenV d = r at HL ⊢
  generalize isD d = i at HS HF HL
  obtain ⟨kind, count, unit, dir, a, b⟩ := d
  unfold Dsc.val at HS ⊢
  dsimp only at HS HU HF HL HB ⊢
  generalize unitD unit count = un at HU HF HL HB
  have KN := Lib.hid (dsc_new w 25 #[.int .i64 kind, .int .i64 count, .string unit, .int .i64 dir, .string a, .string b])
  cases i
  · go_enter Tryd.func20, Tryd.ntmps20
    go_wp2_with fail
    generalize hW : w.alloc (.cells #[.int .i64 kind, .int .i64 count, .string unit, .int .i64 dir, .string a, .string b] 25) = W
    obtain ⟨bk, bw⟩ := KN.out W hW.symm
    clear hW
    refine (HS.out W).mono ?_; rintro e w1 ⟨rfl, b1⟩
    go_wp2_with fail
    go_ret2
    exact ⟨by rw [HL.out]; rfl, bw.trans (b1.mono bw.size)⟩
  · by_cases hk : kind = 2
    · have HF2 := Lib.hid (HF.out rfl hk)
      have c1 := HF2.out.1.1
      have c2 := HF2.out.1.2
      rw [if_pos rfl, if_pos hk] at HL
      have ho : IntKind.i64.wrap (count * un) = count * un := IntWalk.i64_in _ (by rcases HB.out with h | h | h <;> rw [h] <;> omega)
      have hk2 : (kind != 2) = false := by simpa using hk
      clear hk
      go_enter Tryd.func20, Tryd.ntmps20
      go_wp2_with fail
      generalize hW : w.alloc (.cells #[.int .i64 kind, .int .i64 count, .string unit, .int .i64 dir, .string a, .string b] 25) = W
      obtain ⟨bk, bw⟩ := KN.out W hW.symm
      clear hW
      refine (HS.out W).mono ?_; rintro e w1 ⟨rfl, b1⟩
      obtain ⟨k0, k1, k2, k3, k4, k5⟩ := dsc_cells (bk.below b1 bk.lt)
      have B1 := Lib.hid (bw.trans (b1.mono bw.size)); clear b1 bw bk
      have g1 := cell_regrown k1
      have g2 := cell_regrown k2
      have r1 : ∀ d os, Calls Tryd.prog 50 #[.string unit, .int .i64 count] (grow (redrawn w1 d) os) (fun e w'' => e = .returned (.int .i64 un) ∧ ∃ p : Regrown, w'' = grow (redrawn w1 p.d) p.os) := fun d os => Calls.regrown_of ((HU.out _).mono fun e w' h => ⟨h.1, by rw [← h.2]; exact Below.refl _ _⟩)
      go_wp2_with fail
      refine wp_region_quiet_below (by kernel_rfl) (by kernel_rfl) ?_; (repeat (first | go_big_quiet_step ((first | with_reducible exact r1 _ _)))); refine wpQuiet_nil ?_; intro _ hw'; obtain ⟨⟨dq, osq⟩, rfl⟩ := hw'
      have B2 := Lib.hid (B1.out.trans ((below_regrown w1 dq osq).mono B1.out.size))
      go_wp2_with fail
      go_ret2
      exact ⟨by rw [HL.out]; first | done | rfl, B2.out⟩
    · rw [if_pos rfl, if_neg hk] at HL
      have hk2 : (kind != 2) = true := by simpa using hk
      clear hk
      go_enter Tryd.func20, Tryd.ntmps20
      go_wp2_with fail
      generalize hW : w.alloc (.cells #[.int .i64 kind, .int .i64 count, .string unit, .int .i64 dir, .string a, .string b] 25) = W
      obtain ⟨bk, bw⟩ := KN.out W hW.symm
      clear hW
      refine (HS.out W).mono ?_; rintro e w1 ⟨rfl, b1⟩
      obtain ⟨k0, k1, k2, k3, k4, k5⟩ := dsc_cells (bk.below b1 bk.lt)
      have B1 := Lib.hid (bw.trans (b1.mono bw.size)); clear b1 bw bk
      go_wp2_with fail
      go_ret2
      exact ⟨by rw [HL.out]; first | done | rfl, B1.out⟩
set_option maxRecDepth 100000 in
set_option maxHeartbeats 1000000 in
theorem implLen_any (d : Dsc) (hd : d.Ok) (w : World) (hdir : Dirs w) :
    Calls Tryd.prog 19 #[d.val] w fun e w' => e = .returned (.tuple #[.int .i64 (lenV d).1, .int .i64 (lenV d).2]) ∧ Below w.heap.size w w' := by
  have HS := Lib.hid (fun W (h : Below w.heap.size w W) => implIsD_any d hd W (hdir.below h))
  have HF := Lib.hid (fun (h : isD d = true) (hk : d.kind = 2) => isD_from h hk)
  have HU := Lib.hid (fun (h : isD d = true) (hk : d.kind = 2) => steps_any d hd (isD_from h hk).1 (isD_from h hk).2.1)
  have HL := Lib.hid (show lenV d = if isD d = true then (if d.kind = 2 then (d.count * unitD d.unit d.count, 0) else (0, 5)) else (0, 1) from rfl)
  generalize lenV d = r at HL ⊢
  generalize isD d = i at HS HF HL HU
  obtain ⟨kind, count, unit, dir, a, b⟩ := d
  unfold Dsc.val at HS HU ⊢
  dsimp only at HS HU HF HL ⊢
  generalize unitD unit count = un at HU HF HL
  have KN := Lib.hid (dsc_new w 25 #[.int .i64 kind, .int .i64 count, .string unit, .int .i64 dir, .string a, .string b])
  cases i
  · go_enter Tryd.func19, Tryd.ntmps19
    go_wp2_with fail
    generalize hW : w.alloc (.cells #[.int .i64 kind, .int .i64 count, .string unit, .int .i64 dir, .string a, .string b] 25) = W
    obtain ⟨bk, bw⟩ := KN.out W hW.symm
    clear hW
    refine (HS.out W bw).mono ?_; rintro e w1 ⟨rfl, b1⟩
    go_wp2_with fail
    go_ret2
    exact ⟨by rw [HL.out]; rfl, bw.trans (b1.mono bw.size)⟩
  · by_cases hk : kind = 2
    · have HU2 := Lib.hid (HU.out rfl hk)
      rw [if_pos rfl, if_pos hk] at HL
      have hk2 : (kind != 2) = false := by simpa using hk
      clear hk
      go_enter Tryd.func19, Tryd.ntmps19
      go_wp2_with fail
      generalize hW : w.alloc (.cells #[.int .i64 kind, .int .i64 count, .string unit, .int .i64 dir, .string a, .string b] 25) = W
      obtain ⟨bk, bw⟩ := KN.out W hW.symm
      clear hW
      refine (HS.out W bw).mono ?_; rintro e w1 ⟨rfl, b1⟩
      obtain ⟨k0, k1, k2, k3, k4, k5⟩ := dsc_cells (bk.below b1 bk.lt)
      have B1 := Lib.hid (bw.trans (b1.mono bw.size)); clear b1 bw bk
      go_wp2_with fail
      refine (HU2.out _).mono ?_; rintro e w2 ⟨rfl, b2⟩
      go_wp2_with fail
      go_ret2
      exact ⟨by rw [HL.out]; first | done | rfl, B1.out.trans (b2.mono B1.out.size)⟩
    · rw [if_pos rfl, if_neg hk] at HL
      have hk2 : (kind != 2) = true := by simpa using hk
      clear hk
      go_enter Tryd.func19, Tryd.ntmps19
      go_wp2_with fail
      generalize hW : w.alloc (.cells #[.int .i64 kind, .int .i64 count, .string unit, .int .i64 dir, .string a, .string b] 25) = W
      obtain ⟨bk, bw⟩ := KN.out W hW.symm
      clear hW
      refine (HS.out W bw).mono ?_; rintro e w1 ⟨rfl, b1⟩
      obtain ⟨k0, k1, k2, k3, k4, k5⟩ := dsc_cells (bk.below b1 bk.lt)
      have B1 := Lib.hid (bw.trans (b1.mono bw.size)); clear b1 bw bk
      go_wp2_with fail
      go_ret2
      exact ⟨by rw [HL.out]; first | done | rfl, B1.out⟩
end Go.Proofs.YtnbpbidflacoiaaDoor
