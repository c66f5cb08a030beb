/- LengthOf and PlacesUsed of both. -/
import Derived.Test.YtaaioengebaebaaGreatDoorRows
import Derived.Test.YtaaioengebaebaaGreatDoorK8GA
import Derived.WalkKit
import Derived.ProofKit
import Derived.OpenShut
import Derived.BigQuiet
import Derived.Outline
import Derived.WalkSpells
import Derived.WalkLawsBesides
import Derived.Deep.DeepCutAuto
import Derived.Test.YtaaioengebaebaaGreatDoorK8Q5
import Derived.Lib.Hide
import Derived.IntWalk
import Derived.Lib.QuietBelow
import Derived.Deep.QuietTactic
namespace Go.Proofs.YtaaioengebaebaaGreatDoor
open Go.ChangeShapes Go.WideShapes Go.ChangeAt Go.RowKit Go.Sort

theorem own_blk {w : World} {g : Nat} {t : TypeId} {size n base : Nat} {L : List Value} (h : Blk w g t L.toArray) (hl : L.length = n * size) (hb : base ≤ g) (hn : n ≤ maxLen) : w.ownsRow base t size (.slice (some ⟨g, 0, none⟩) n n) n L :=
  ⟨hl, .inr ⟨g, n, L.toArray, rfl, hb, h, Nat.le_refl _, hn, by simpa using hl, by simp [← hl]⟩⟩
theorem isD_from {d : Dsc} (h : isD d = true) (hk : d.kind = 2) : (1 ≤ d.count ∧ d.count ≤ 99) ∧ 0 < unitD d.unit d.count ∧ (0 ≤ d.dir ∧ d.dir ≤ 7) ∧ d.b = ⟨#[]⟩ := by
  rw [isD, if_pos hk] at h
  simp only [Bool.and_eq_true, decide_eq_true_eq, inB] at h
  exact ⟨h.2.1, h.2.2.1, h.2.2.2.1, h.2.2.2.2⟩
set_option maxRecDepth 100000 in
theorem prefix_any (s p : ByteArray) (hs : s.size ≤ 9223372036854775807) (hp : p.size ≤ 9223372036854775807) (w : World) :
    Calls Tryz.prog 133 #[.string s, .string p] w fun e w' => e = .returned (.bool (decide (p.size ≤ s.size) && ((s.extract 0 p.size).toList == p.toList))) ∧ w = w' := by
  have H2 : Calls Tryz.prog 142 #[.string s, .string p] w fun e w' => e = .returned (.bool (decide (p.size ≤ s.size) && ((s.extract 0 p.size).toList == p.toList))) ∧ w = w' := by
    by_cases h : p.size ≤ s.size
    · rw [decide_eq_true h, Bool.true_and]
      go_enter Tryz.func142, Tryz.ntmps142
      go_wp2_with fail
      go_ret
      exact ⟨rfl, rfl⟩
    · rw [decide_eq_false h, Bool.false_and]
      go_enter Tryz.func142, Tryz.ntmps142
      go_wp2_with fail
      go_ret
      exact ⟨rfl, rfl⟩
  have HH := Lib.hid H2; clear H2
  go_enter Tryz.func133, Tryz.ntmps133
  go_wp2_with fail
  refine HH.out.mono ?_; rintro e w' ⟨rfl, rfl⟩
  go_wp2_with fail
  go_ret
  exact ⟨rfl, rfl⟩
/-- Whether a unit begins as miles do. -/
def mileB (u : ByteArray) : Bool := decide ((⟨#[109, 105, 108, 101]⟩ : ByteArray).size ≤ u.size) && ((u.extract 0 (⟨#[109, 105, 108, 101]⟩ : ByteArray).size).toList == (⟨#[109, 105, 108, 101]⟩ : ByteArray).toList)
theorem mile_unit {u : ByteArray} {c : Int} (h : 0 < unitD u c) : unitD u c = if mileB u = true then 4 else 12 := by
  have m1 : mileB ⟨#[109, 105, 108, 101]⟩ = true := by decide +kernel
  have m2 : mileB ⟨#[108, 101, 97, 103, 117, 101]⟩ = false := by decide +kernel
  have m3 : mileB ⟨#[109, 105, 108, 101, 115]⟩ = true := by decide +kernel
  have m4 : mileB ⟨#[108, 101, 97, 103, 117, 101, 115]⟩ = false := by decide +kernel
  unfold unitD at h ⊢
  split at h
  · split at h
    · rename_i h1; subst h1; simp [m1, *]
    · split at h
      · rename_i h1; subst h1; simp [m2, *]
      · omega
  · split at h
    · rename_i h1; subst h1; simp [m3, *]
    · split at h
      · rename_i h1; subst h1; simp [m4, *]
      · omega
set_option maxRecDepth 100000 in
theorem steps_any (d : Dsc) (hd : d.Ok) (hc : 1 ≤ d.count ∧ d.count ≤ 99) (hu : 0 < unitD d.unit d.count) (w : World) :
    Calls Tryz.prog 126 #[d.val] w fun e w' => e = .returned (.int .i64 (d.count * unitD d.unit d.count)) ∧ Below w.heap.size w w' := by
  have HM := Lib.hid (mile_unit hu)
  have HP := Lib.hid (fun W => (show Calls Tryz.prog 133 #[.string d.unit, .string ⟨#[109, 105, 108, 101]⟩] W fun e w' => e = .returned (.bool (mileB d.unit)) ∧ W = w' from prefix_any d.unit ⟨#[109, 105, 108, 101]⟩ hd.1 (by decide +kernel) W))
  obtain ⟨kind, count, unit, dir, a, b⟩ := d
  obtain ⟨c1, c2⟩ := hc
  unfold Dsc.val
  dsimp only at HM HP c1 c2 ⊢
  have o4 : IntKind.i64.wrap (4 * count) = 4 * count := IntWalk.i64_in _ (by omega)
  have o12 : IntKind.i64.wrap (12 * count) = 12 * count := IntWalk.i64_in _ (by omega)
  cases hm : mileB unit
  all_goals
    rw [hm] at HM HP
    clear hm
    go_enter Tryz.func126, Tryz.ntmps126
    go_wp2_with fail
    refine (HP.out _).mono ?_; rintro e w' ⟨rfl, rfl⟩
    go_wp2_with fail
    go_ret
    exact ⟨ret_int (by rw [HM.out]; simp; omega), by (repeat (first | exact Below.refl _ _ | assumption | refine Below.drew ?_ | refine below_drewN' ?_ _ | refine Below.alloc ?_ (by (try simp); (try omega)) _ | refine Below.setCell ?_ (by (try simp); (try omega)) _))⟩
def lenV (d : Dsc) : Int × Int := if isD d = true then (if d.kind = 2 then (d.count * unitD d.unit d.count, 0) else (0, 5)) else (0, 1)
end Go.Proofs.YtaaioengebaebaaGreatDoor
