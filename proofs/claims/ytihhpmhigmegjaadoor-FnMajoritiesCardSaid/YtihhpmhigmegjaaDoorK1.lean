/- The order of strings; the closure of CastBallot; the search. -/
import Derived.Test.YtihhpmhigmegjaaDoorRows
import Derived.Test.YtihhpmhigmegjaaDoorL0
import Derived.Test.YtihhpmhigmegjaaDoorM0
import Derived.WalkKit
import Derived.ProofKit
import Derived.OpenShut
import Derived.BigQuiet
import Derived.Outline
import Derived.WalkSpells
import Derived.WalkLawsBesides
import Derived.Deep.DeepCutAuto
import Derived.Test.YtihhpmhigmegjaaDoorJ3
import Derived.Test.YtihhpmhigmegjaaDoorK0
import Derived.Test.YtihhpmhigmegjaaDoorFA
import Derived.Lib.QuietBelow
import Derived.Deep.QuietTactic
import Derived.StillTailTactics
import Derived.IntWalk
namespace Go.Proofs.YtihhpmhigmegjaaDoor
open Go.ChangeShapes Go.WideShapes Go.ChangeAt Go.RowKit Go.Sort

def cmpS (a b : ByteArray) : Int := Lib.compareBytes a.data.toList b.data.toList
theorem compare_less : ∀ x y : List UInt8, (Lib.compareBytes x y < 0 ↔ Op.bytesLess x y = true) ∧ (Lib.compareBytes x y = 0 ↔ x = y)
  | [], [] => by simp [Lib.compareBytes, Op.bytesLess]
  | [], _ :: _ => by simp [Lib.compareBytes, Op.bytesLess]
  | _ :: _, [] => by simp [Lib.compareBytes, Op.bytesLess]
  | a :: x, b :: y => by
    have ih := compare_less x y
    simp only [bytesLess_eq, decide_eq_true_eq] at ih ⊢
    rw [Lib.compareBytes]
    simp only [List.cons_lt_cons_iff, List.cons.injEq]
    by_cases h1 : a < b
    · have : a ≠ b := fun h => by subst h; exact absurd h1 (UInt8.lt_irrefl a)
      simp [h1, this]
    · by_cases h2 : b < a
      · have : a ≠ b := fun h => by subst h; exact absurd h2 (UInt8.lt_irrefl a)
        simp [h1, h2, this]
      · have h3 : a = b := by
          apply UInt8.toNat.inj
          rw [UInt8.lt_iff_toNat_lt] at h1 h2
          omega
        subst h3
        simp [h1, ih]
theorem cmpS_lt (a b : ByteArray) : (cmpS a b < 0) ↔ strLt a b = true := by
  unfold cmpS strLt
  rw [ByteArray.toList_eq, ByteArray.toList_eq]
  exact (compare_less _ _).1
theorem cmpS_eq (a b : ByteArray) : (cmpS a b = 0) ↔ a = b := by
  unfold cmpS
  rw [(compare_less _ _).2]
  exact ⟨fun h => str_inj (by rw [ByteArray.toList_eq, ByteArray.toList_eq]; exact h), fun h => by rw [h]⟩
theorem compareS_any (a b : ByteArray) (w : World) : Calls Tryd.prog 42 #[.string a, .string b] w fun e w' => e = .returned (.int .i64 (cmpS a b)) ∧ w = w' :=
  (Any.strings_Compare Tryd.lays106 a b w).mono fun _ _ h => ⟨h.1, h.2.symm⟩
set_option maxRecDepth 100000 in
theorem cast1_any (x y : Bal) (w : World) : Calls Tryd.prog 41 #[x.val, y.val] w fun e w' => e = .returned (.int .i64 (cmpS x.name y.name)) ∧ Below w.heap.size w w' := by
  have HC := Lib.hid (compareS_any x.name y.name)
  obtain ⟨n, c, wt⟩ := x
  obtain ⟨n', c', wt'⟩ := y
  unfold Bal.val
  dsimp only at HC ⊢
  generalize cmpS n n' = r at HC ⊢
  go_enter Tryd.func41, Tryd.ntmps41
  go_wp2_with fail
  refine (HC.out _).mono ?_; rintro e w' ⟨rfl, rfl⟩
  go_wp2_with fail
  go_ret
  exact ⟨rfl, by (repeat (first | exact Below.refl _ _ | assumption | refine Below.drew ?_ | refine below_drewN' ?_ _ | refine Below.alloc ?_ (by (try simp); (try omega)) _ | refine Below.setCell ?_ (by (try simp); (try omega)) _))⟩
/-- The first place whose member is not before s. -/
def posB (xs : List Bal) (s : ByteArray) : Nat := (xs.takeWhile fun b => strLt b.name s).length
def fndB (xs : List Bal) (s : ByteArray) : Bool := decide (posB xs s < xs.length) && decide (nmAt xs (posB xs s) = s)
theorem take_while_spec {p : Bal → Bool} : ∀ (l : List Bal), (∀ k (h : k < l.length), k < (l.takeWhile p).length → p l[k] = true) ∧ (∀ h : (l.takeWhile p).length < l.length, p l[(l.takeWhile p).length] = false)
  | [] => ⟨fun k h => by simp at h, fun h => by simp at h⟩
  | a :: l => by
    have ih := take_while_spec (p := p) l
    by_cases ha : p a = true
    · simp only [List.takeWhile_cons, ha, if_true, List.length_cons]
      refine ⟨fun k h hk => ?_, fun h => ?_⟩
      · cases k with
        | zero => exact ha
        | succ k => simpa using ih.1 k (by simpa using h) (by omega)
      · simpa using ih.2 (by omega)
    · simp only [List.takeWhile_cons, ha]
      refine ⟨fun k _ hk => by simp at hk, fun _ => by simpa using ha⟩
theorem pos_is {xs : List Bal} {s : ByteArray} {lo : Nat} (hlo : lo ≤ xs.length) (h1 : ∀ j, j < lo → strLt (nmAt xs j) s = true) (h2 : ∀ j, lo ≤ j → j < xs.length → strLt (nmAt xs j) s = false) : posB xs s = lo := by
  have hs := take_while_spec (p := fun b => strLt b.name s) xs
  have hp : posB xs s ≤ xs.length := by unfold posB; exact List.Sublist.length_le (List.takeWhile_sublist _)
  rcases Nat.lt_trichotomy (posB xs s) lo with h | h | h
  · have a := h1 _ h
    have b := hs.2 (by unfold posB at h; omega)
    rw [nmAt_eq (by omega)] at a
    exact absurd (a.symm.trans b) (by decide)
  · exact h
  · have a := h2 lo (Nat.le_refl _) (by omega)
    have b := hs.1 lo (by omega) (by unfold posB at h; exact h)
    rw [nmAt_eq (by omega)] at a
    exact absurd (b.symm.trans a) (by decide)
theorem srt_up {xs : List Bal} (ha : areB xs = true) {s : ByteArray} {i j : Nat} (hij : i ≤ j) (hj : j < xs.length) (h : strLt (nmAt xs j) s = true) : strLt (nmAt xs i) s = true := by
  by_cases e : i = j
  · rw [e]; exact h
  · have := names_lt ha (j - i - 1) i (by omega)
    rw [show i + 1 + (j - i - 1) = j by omega] at this
    exact strLt_trans this h
set_option maxRecDepth 100000 in
set_option maxHeartbeats 2000000 in
theorem search_any (xs : List Bal) (ha : areB xs = true) (y : Bal) (A : Option Addr) (c : Nat) (w : World) (hr : Reads w w.heap.size 3 A xs.length (baC xs)) :
    Calls Tryd.prog 40 #[.slice A xs.length c, y.val, .func (.func 41) #[] #[]] w fun e w' => e = .returned (.tuple #[.int .i64 (posB xs y.name), .bool (fndB xs y.name)]) ∧ Below w.heap.size w w' := by
  have hm := (fits_of ha).1.1
  have HR := Lib.hid hr; clear hr
  have HA := Lib.hid ha; clear ha
  have C1 := Lib.hid (fun x => cast1_any x y)
  have HP := Lib.hid (fun lo => pos_is (xs := xs) (s := y.name) (lo := lo))
  have HFd := Lib.hid (show fndB xs y.name = (decide (posB xs y.name < xs.length) && decide (nmAt xs (posB xs y.name) = y.name)) from rfl)
  generalize fndB xs y.name = fd at HFd ⊢
  generalize posB xs y.name = ps at HP HFd ⊢
  obtain ⟨n, ch, wt⟩ := y
  unfold Bal.val at C1 ⊢
  dsimp only at C1 HP HFd ⊢
  have KN := Lib.hid (three_new w 32 (.string n) (.int .i64 ch) (.int .i64 wt))
  go_enter Tryd.func40, Tryd.ntmps40
  go_wp2_with fail
  go_loopw [9, 10] (fun v9 v10 wr => ∃ lo hi : Nat, lo ≤ hi ∧ hi ≤ xs.length ∧ Hid (∀ j, j < lo → strLt (nmAt xs j) n = true) ∧ Hid (∀ j, hi ≤ j → j < xs.length → strLt (nmAt xs j) n = false) ∧ Hid (Blk wr w.heap.size 32 #[.string n, .int .i64 ch, .int .i64 wt]) ∧ Hid (Below w.heap.size w wr) ∧ v9 = .int .i64 lo ∧ v10 = .int .i64 hi) (fun a b _ => (intOf b).toNat - (intOf a).toNat)
  case atStart => exact ⟨0, xs.length, by omega, by omega, fun j h => by omega, fun j a b => by omega, Blk.new _ _ _, (Below.refl _ _).alloc (Nat.le_refl _) _, rfl, rfl⟩
  case round =>
    obtain ⟨lo, hi, hlh, hhn, HL, HH, BK, BW, rfl, rfl⟩ := hrel
    by_cases hlt : lo < hi
    · obtain ⟨ab, ao, rfl, hadb, hcell⟩ := (HR.out.below BW.out).2 (by omega)
      obtain ⟨md, hmd⟩ : ∃ md, (lo + hi) / 2 = md := ⟨_, rfl⟩
      have hmlt : md < xs.length := by omega
      obtain ⟨e0, e1, e2⟩ := baC_get xs md hmlt
      have c0 := hcell _ _ e0
      have c1 := hcell _ _ e1
      have c2 := hcell _ _ e2
      rw [← Nat.add_assoc] at c1 c2
      clear hcell e0 e1 e2
      go_upto_region 5 with (fail)
      have hb : xs[md].name = nmAt xs md := (nmAt_eq hmlt).symm
      have HUp := Lib.hid (fun (i : Nat) (h1 : i ≤ md) (h2 : strLt (nmAt xs md) n = true) => srt_up HA.out h1 hmlt h2)
      have HDn := Lib.hid (fun (j : Nat) (h1 : md ≤ j) (h2 : j < xs.length) (h3 : strLt (nmAt xs md) n = false) => (show strLt (nmAt xs j) n = false by
        cases hq : strLt (nmAt xs j) n with
        | false => rfl
        | true => rw [srt_up HA.out h1 h2 hq] at h3; cases h3))
      have HCm := Lib.hid (show (cmpS xs[md].name n < 0) ↔ strLt (nmAt xs md) n = true by rw [hb]; exact cmpS_lt _ _)
      have CX := Lib.hid (C1.out xs[md])
      generalize xs[md] = b at c0 c1 c2 HCm CX
      obtain ⟨bn, bc, bw⟩ := b
      dsimp only at c0 c1 c2 HCm CX
      generalize cmpS bn n = r at HCm CX
      obtain ⟨k0, k1, k2⟩ := cells_3 BK.out
      rw [show ((lo : Int) + (hi : Int)) / 2 = (md : Int) by omega]
      by_cases hr : r < 0
      · have HS := Lib.hid (HCm.out.1 hr)
        go_still_tail 6, (by kernel_rfl)
        change wpList _ _ _ _ _ (World.drew _)
        go_wp2_with fail
        refine (CX.out _).mono ?_; rintro e w2 ⟨rfl, b2⟩
        have B2 := Lib.hid (BW.out.drew.trans (b2.mono BW.out.size)); have K2 := Lib.hid (BK.out.drew.below b2 BK.out.drew.lt)
        go_wp2_with fail
        go_roundw
        case rel => exact ⟨md + 1, hi, by omega, by omega, fun j hj => HUp.out j (by omega) HS.out, HH.out, K2.out, B2.out, by go_num, rfl⟩
        case measure => simp [intOf]; omega
      · have HS := Lib.hid (show strLt (nmAt xs md) n = false by
          cases hq : strLt (nmAt xs md) n with
          | false => rfl
          | true => exact absurd (HCm.out.2 hq) hr)
        go_still_tail 6, (by kernel_rfl)
        change wpList _ _ _ _ _ (World.drew _)
        go_wp2_with fail
        refine (CX.out _).mono ?_; rintro e w2 ⟨rfl, b2⟩
        have B2 := Lib.hid (BW.out.drew.trans (b2.mono BW.out.size)); have K2 := Lib.hid (BK.out.drew.below b2 BK.out.drew.lt)
        go_wp2_with fail
        go_roundw
        case rel => exact ⟨lo, md, by omega, by omega, HL.out, fun j h1 h2 => HDn.out j h1 h2 HS.out, K2.out, B2.out, rfl, rfl⟩
        case measure => simp [intOf]; omega
    · obtain rfl : lo = hi := by omega
      have HPs := Lib.hid (HP.out lo hhn HL.out HH.out)
      obtain ⟨k0, k1, k2⟩ := cells_3 BK.out
      by_cases hln : lo < xs.length
      · have HFd2 := Lib.hid (show fd = decide (nmAt xs lo = n) by rw [HFd.out, HPs.out, decide_eq_true hln, Bool.true_and])
        obtain ⟨ab, ao, rfl, hadb, hcell⟩ := (HR.out.below BW.out).2 (by omega)
        obtain ⟨e0, e1, e2⟩ := baC_get xs lo hln
        have c0 := hcell _ _ e0
        have c1 := hcell _ _ e1
        have c2 := hcell _ _ e2
        rw [← Nat.add_assoc] at c1 c2
        clear hcell e0 e1 e2
        have HE := Lib.hid (show (cmpS xs[lo].name n = 0) ↔ nmAt xs lo = n by rw [nmAt_eq hln]; exact cmpS_eq _ _)
        have CX := Lib.hid (C1.out xs[lo])
        generalize xs[lo] = b at c0 c1 c2 HE CX
        obtain ⟨bn, bc, bw⟩ := b
        dsimp only at c0 c1 c2 HE CX
        generalize cmpS bn n = r at HE CX
        have r1 : ∀ d os, Calls Tryd.prog 41 #[.agg #[.string bn, .int .i64 bc, .int .i64 bw], .agg #[.string n, .int .i64 ch, .int .i64 wt]] (grow (redrawn wr d) os) (fun e w'' => e = .returned (.int .i64 r) ∧ ∃ p : Regrown, w'' = grow (redrawn wr p.d) p.os) := fun d os => Calls.regrown_of (CX.out _)
        have g0 := cell_regrown k0
        have g1 := cell_regrown k1
        have g2 := cell_regrown k2
        have d0 := cell_regrown c0
        have d1 := cell_regrown c1
        have d2 := cell_regrown c2
        have z1 : (lo : Int) < (xs.length : Int) := by omega
        have z0 : (0 : Int) ≤ (lo : Int) := by omega
        clear k0 k1 k2 c0 c1 c2
        by_cases hr : r = 0
        · have HV := Lib.hid (show fd = true by rw [HFd2.out, decide_eq_true (HE.out.1 hr)])
          have hr2 : (r == 0) = true := by simpa using hr
          clear hr
          go_upto_region 8 with (fail)
          refine wp_region_quiet_below (by kernel_rfl) (by kernel_rfl) ?_; (repeat (first | go_big_quiet_step ((first | with_reducible exact r1 _ _)))); refine wpQuiet_nil ?_; intro _ hw'; obtain ⟨⟨dq, osq⟩, rfl⟩ := hw'
          go_wp2_with fail
          go_ret2
          exact ⟨by rw [HPs.out, HV.out]; first | done | rfl, BW.out.trans ((below_regrown wr dq osq).mono BW.out.size)⟩
        · have HV := Lib.hid (show fd = false by rw [HFd2.out, decide_eq_false (fun h => hr (HE.out.2 h))])
          have hr2 : (r == 0) = false := by simpa using hr
          clear hr
          go_upto_region 8 with (fail)
          refine wp_region_quiet_below (by kernel_rfl) (by kernel_rfl) ?_; (repeat (first | go_big_quiet_step ((first | with_reducible exact r1 _ _)))); refine wpQuiet_nil ?_; intro _ hw'; obtain ⟨⟨dq, osq⟩, rfl⟩ := hw'
          go_wp2_with fail
          go_ret2
          exact ⟨by rw [HPs.out, HV.out]; first | done | rfl, BW.out.trans ((below_regrown wr dq osq).mono BW.out.size)⟩
      · have HV := Lib.hid (show fd = false by rw [HFd.out, HPs.out, decide_eq_false hln, Bool.false_and])
        have z1 : ¬ (lo : Int) < (xs.length : Int) := by omega
        go_upto_region 8 with (fail)
        refine wp_region_quiet_below (by kernel_rfl) (by kernel_rfl) ?_; (repeat (first | go_big_quiet_step (fail))); refine wpQuiet_nil ?_; intro _ hw'; obtain ⟨⟨dq, osq⟩, rfl⟩ := hw'
        go_wp2_with fail
        go_ret2
        exact ⟨by rw [HPs.out, HV.out]; first | done | rfl, BW.out.trans ((below_regrown wr dq osq).mono BW.out.size)⟩
end Go.Proofs.YtihhpmhigmegjaaDoor
