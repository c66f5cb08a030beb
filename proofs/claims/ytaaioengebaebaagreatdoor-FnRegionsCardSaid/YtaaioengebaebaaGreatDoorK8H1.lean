/- Sites in order: their names; the closure of findSite and the search. -/
import Derived.Test.YtaaioengebaebaaGreatDoorRows
import Derived.Test.YtaaioengebaebaaGreatDoorK8GA
import Derived.WalkKit
import Derived.ProofKit
import Derived.OpenShut
import Derived.BigQuiet
import Derived.Outline
import Derived.WalkSpells
import Derived.WalkLawsBesides
import Derived.Deep.DeepCutAuto
import Derived.Test.YtaaioengebaebaaGreatDoorK8GD
import Derived.Test.YtaaioengebaebaaGreatDoorK8H0
import Derived.Lib.QuietBelow
import Derived.Deep.QuietTactic
import Derived.StillTailTactics
import Derived.IntWalk
namespace Go.Proofs.YtaaioengebaebaaGreatDoor
open Go.ChangeShapes Go.WideShapes Go.ChangeAt Go.RowKit Go.Sort

def nsAt (xs : List Sit) (k : Nat) : ByteArray := match xs[k]? with | some b => b.name | none => ByteArray.empty
theorem nsAt_eq {xs : List Sit} {k : Nat} (h : k < xs.length) : nsAt xs k = xs[k].name := by simp [nsAt, h]
theorem sites_lt {xs : List Sit} (h : areS xs = true) : ∀ d i, i + 1 + d < xs.length → strLt (nsAt xs i) (nsAt xs (i + 1 + d)) = true := by
  rw [areS, Bool.and_eq_true] at h
  have one : ∀ i, i + 1 < xs.length → strLt (nsAt xs i) (nsAt xs (i + 1)) = true := fun i hi => by
    have := areSTo_le (k := i + 1 + 1) hi h.1
    rw [areSTo, Bool.and_eq_true, goodS, List.getElem?_eq_getElem hi] at this
    have := this.2
    simp only [Bool.and_eq_true] at this
    have := this.2
    rw [ordS, List.getElem?_eq_getElem (by omega)] at this
    rw [nsAt_eq (by omega), nsAt_eq hi]
    exact this
  intro d
  induction d with
  | zero => intro i hi; exact one i hi
  | succ d ih =>
    intro i hi
    exact strLt_trans (ih i (by omega)) (one (i + 1 + d) (by omega))
theorem sites_inj {xs : List Sit} (h : areS xs = true) {i j : Nat} (hi : i < xs.length) (hj : j < xs.length) (e : nsAt xs i = nsAt xs j) : i = j := by
  rcases Nat.lt_trichotomy i j with hl | hl | hl
  · have := sites_lt h (j - i - 1) i (by omega)
    rw [show i + 1 + (j - i - 1) = j by omega, e, strLt_self] at this
    cases this
  · exact hl
  · have := sites_lt h (i - j - 1) j (by omega)
    rw [show j + 1 + (i - j - 1) = i by omega, e, strLt_self] at this
    cases this
set_option maxRecDepth 100000 in
theorem find1_any (x : Sit) (s : ByteArray) (w : World) : Calls Tryz.prog 115 #[x.val, .string s] w fun e w' => e = .returned (.int .i64 (cmpS x.name s)) ∧ Below w.heap.size w w' := by
  have HC := Lib.hid (compareS_any x.name s)
  obtain ⟨n, c, wt⟩ := x
  unfold Sit.val
  dsimp only at HC ⊢
  generalize cmpS n s = r at HC ⊢
  go_enter Tryz.func115, Tryz.ntmps115
  go_wp2_with fail
  refine (HC.out _).mono ?_; rintro e w' ⟨rfl, rfl⟩
  go_wp2_with fail
  go_ret
  exact ⟨rfl, by (repeat (first | exact Below.refl _ _ | assumption | refine Below.drew ?_ | refine below_drewN' ?_ _ | refine Below.alloc ?_ (by (try simp); (try omega)) _ | refine Below.setCell ?_ (by (try simp); (try omega)) _))⟩
/-- The first place whose code is not before s. -/
def posT (xs : List Sit) (s : ByteArray) : Nat := (xs.takeWhile fun b => strLt b.name s).length
def fndT (xs : List Sit) (s : ByteArray) : Bool := decide (posT xs s < xs.length) && decide (nsAt xs (posT xs s) = s)
theorem take_while_spec {p : Sit → Bool} : ∀ (l : List Sit), (∀ k (h : k < l.length), k < (l.takeWhile p).length → p l[k] = true) ∧ (∀ h : (l.takeWhile p).length < l.length, p l[(l.takeWhile p).length] = false)
  | [] => ⟨fun k h => by simp at h, fun h => by simp at h⟩
  | a :: l => by
    have ih := take_while_spec (p := p) l
    by_cases ha : p a = true
    · simp only [List.takeWhile_cons, ha, if_true, List.length_cons]
      refine ⟨fun k h hk => ?_, fun h => ?_⟩
      · cases k with
        | zero => exact ha
        | succ k => simpa using ih.1 k (by simpa using h) (by omega)
      · simpa using ih.2 (by omega)
    · simp only [List.takeWhile_cons, ha]
      refine ⟨fun k _ hk => by simp at hk, fun _ => by simpa using ha⟩
theorem posT_is {xs : List Sit} {s : ByteArray} {lo : Nat} (hlo : lo ≤ xs.length) (h1 : ∀ j, j < lo → strLt (nsAt xs j) s = true) (h2 : ∀ j, lo ≤ j → j < xs.length → strLt (nsAt xs j) s = false) : posT xs s = lo := by
  have hs := take_while_spec (p := fun b => strLt b.name s) xs
  have hp : posT xs s ≤ xs.length := by unfold posT; exact List.Sublist.length_le (List.takeWhile_sublist _)
  rcases Nat.lt_trichotomy (posT xs s) lo with h | h | h
  · have a := h1 _ h
    have b := hs.2 (by unfold posT at h; omega)
    rw [nsAt_eq (by omega)] at a
    exact absurd (a.symm.trans b) (by decide)
  · exact h
  · have a := h2 lo (Nat.le_refl _) (by omega)
    have b := hs.1 lo (by omega) (by unfold posT at h; exact h)
    rw [nsAt_eq (by omega)] at a
    exact absurd (b.symm.trans a) (by decide)
theorem sit_up {xs : List Sit} (ha : areS xs = true) {s : ByteArray} {i j : Nat} (hij : i ≤ j) (hj : j < xs.length) (h : strLt (nsAt xs j) s = true) : strLt (nsAt xs i) s = true := by
  by_cases e : i = j
  · rw [e]; exact h
  · have := sites_lt ha (j - i - 1) i (by omega)
    rw [show i + 1 + (j - i - 1) = j by omega] at this
    exact strLt_trans this h
/-- The index of the site with a code, -1 if there is none. -/
def sitIx (s : ByteArray) (xs : List Sit) : Int := ixS s (xs.map Sit.name)
theorem pos_le (xs : List Sit) (s : ByteArray) : posT xs s ≤ xs.length := by unfold posT; exact List.Sublist.length_le (List.takeWhile_sublist _)
theorem ixS_at {s : ByteArray} : ∀ {L : List ByteArray} {k : Nat} (h : k < L.length), L[k] = s → (∀ j (hj : j < k), L[j] ≠ s) → ixS s L = k
  | [], _, h, _, _ => by simp at h
  | a :: r, 0, _, e, _ => by rw [ixS, if_pos (by simpa using e.symm)]; rfl
  | a :: r, k + 1, h, e, hn => by
    have ih := ixS_at (s := s) (L := r) (k := k) (by simpa using h) (by simpa using e) (fun j hj => by simpa using hn (j + 1) (by omega))
    rw [ixS, if_neg (fun h0 => hn 0 (by omega) (by simpa using h0.symm)), ih, if_neg (by omega)]
    push_cast; rfl
theorem ixS_none {s : ByteArray} {L : List ByteArray} (h : s ∉ L) : ixS s L = -1 := by
  have h1 := ixS_ge s L
  have h2 : ¬ 0 ≤ ixS s L := fun h0 => h ((ixS_mem s L).1 h0)
  omega
theorem fnd_ix {xs : List Sit} (ha : areS xs = true) (s : ByteArray) : (fndT xs s = true → sitIx s xs = (posT xs s : Int) ∧ posT xs s < xs.length) ∧ (fndT xs s = false → sitIx s xs = -1) := by
  have hs := take_while_spec (p := fun b => strLt b.name s) xs
  have hp := pos_le xs s
  constructor
  · intro h
    simp only [fndT, Bool.and_eq_true, decide_eq_true_eq] at h
    obtain ⟨h1, h2⟩ := h
    refine ⟨ixS_at (by simpa using h1) (by rw [List.getElem_map, ← nsAt_eq h1]; exact h2) (fun j hj => ?_), h1⟩
    rw [List.getElem_map]
    intro e
    have := hs.1 j (by omega) (by unfold posT at hj; exact hj)
    rw [e, strLt_self] at this
    cases this
  · intro h
    refine ixS_none (fun hm => ?_)
    obtain ⟨b, hb, e⟩ := List.mem_map.1 hm
    obtain ⟨j, hj, rfl⟩ := List.getElem_of_mem hb
    have e' : nsAt xs j = s := by rw [nsAt_eq hj]; exact e
    have hge : posT xs s ≤ j := by
      rcases Nat.lt_or_ge j (posT xs s) with hlt | hge
      · have := hs.1 j hj (by unfold posT at hlt; exact hlt)
        rw [e, strLt_self] at this
        cases this
      · exact hge
    have hlt : posT xs s < xs.length := by omega
    have h2 := hs.2 (by unfold posT at hlt; exact hlt)
    have h3 : strLt (nsAt xs (posT xs s)) s = false := by rw [nsAt_eq hlt]; exact h2
    rcases Nat.lt_or_ge (posT xs s) j with hl | hl
    · have := sites_lt ha (j - posT xs s - 1) (posT xs s) (by omega)
      rw [show posT xs s + 1 + (j - posT xs s - 1) = j by omega, e', h3] at this
      cases this
    · have hj2 : j = posT xs s := by omega
      rw [fndT, decide_eq_true hlt, decide_eq_true (by rw [← hj2]; exact e')] at h
      cases h
set_option maxRecDepth 100000 in
set_option maxHeartbeats 2000000 in
theorem searchT_any (xs : List Sit) (ha : areS xs = true) (n : ByteArray) (A : Option Addr) (c : Nat) (w : World) (hr : Reads w w.heap.size 3 A xs.length (siC xs)) :
    Calls Tryz.prog 114 #[.slice A xs.length c, .string n, .func (.func 115) #[] #[]] w fun e w' => e = .returned (.tuple #[.int .i64 (posT xs n), .bool (fndT xs n)]) ∧ Below w.heap.size w w' := by
  have hm : xs.length ≤ 10 := by rw [areS, Bool.and_eq_true, decide_eq_true_eq] at ha; omega
  have HR := Lib.hid hr; clear hr
  have HA := Lib.hid ha; clear ha
  have C1 := Lib.hid (fun x => find1_any x n)
  have HP := Lib.hid (fun lo => posT_is (xs := xs) (s := n) (lo := lo))
  have HFd := Lib.hid (show fndT xs n = (decide (posT xs n < xs.length) && decide (nsAt xs (posT xs n) = n)) from rfl)
  generalize fndT xs n = fd at HFd ⊢
  generalize posT xs n = ps at HP HFd ⊢
  unfold Sit.val at C1
  go_enter Tryz.func114, Tryz.ntmps114
  go_wp2_with fail
  go_loopw [9, 10] (fun v9 v10 wr => ∃ lo hi : Nat, lo ≤ hi ∧ hi ≤ xs.length ∧ Hid (∀ j, j < lo → strLt (nsAt xs j) n = true) ∧ Hid (∀ j, hi ≤ j → j < xs.length → strLt (nsAt xs j) n = false) ∧ Hid (Below w.heap.size w wr) ∧ v9 = .int .i64 lo ∧ v10 = .int .i64 hi) (fun a b _ => (intOf b).toNat - (intOf a).toNat)
  case atStart => exact ⟨0, xs.length, by omega, by omega, fun j h => by omega, fun j a b => by omega, Below.refl _ _, rfl, rfl⟩
  case round =>
    obtain ⟨lo, hi, hlh, hhn, HL, HH, BW, rfl, rfl⟩ := hrel
    by_cases hlt : lo < hi
    · obtain ⟨ab, ao, rfl, hadb, hcell⟩ := (HR.out.below BW.out).2 (by omega)
      obtain ⟨md, hmd⟩ : ∃ md, (lo + hi) / 2 = md := ⟨_, rfl⟩
      have hmlt : md < xs.length := by omega
      obtain ⟨e0, e1, e2⟩ := siC_get xs md hmlt
      have c0 := hcell _ _ e0
      have c1 := hcell _ _ e1
      have c2 := hcell _ _ e2
      rw [← Nat.add_assoc] at c1 c2
      clear hcell e0 e1 e2
      go_upto_region 5 with (fail)
      have hb : xs[md].name = nsAt xs md := (nsAt_eq hmlt).symm
      have HUp := Lib.hid (fun (i : Nat) (h1 : i ≤ md) (h2 : strLt (nsAt xs md) n = true) => sit_up HA.out h1 hmlt h2)
      have HDn := Lib.hid (fun (j : Nat) (h1 : md ≤ j) (h2 : j < xs.length) (h3 : strLt (nsAt xs md) n = false) => (show strLt (nsAt xs j) n = false by
        cases hq : strLt (nsAt xs j) n with
        | false => rfl
        | true => rw [sit_up HA.out h1 h2 hq] at h3; cases h3))
      have HCm := Lib.hid (show (cmpS xs[md].name n < 0) ↔ strLt (nsAt xs md) n = true by rw [hb]; exact cmpS_lt _ _)
      have CX := Lib.hid (C1.out xs[md])
      generalize xs[md] = b at c0 c1 c2 HCm CX
      obtain ⟨bn, bc, bw⟩ := b
      dsimp only at c0 c1 c2 HCm CX
      generalize cmpS bn n = r at HCm CX
      rw [show ((lo : Int) + (hi : Int)) / 2 = (md : Int) by omega]
      by_cases hr : r < 0
      · have HS := Lib.hid (HCm.out.1 hr)
        go_wp2_with fail
        refine (CX.out _).mono ?_; rintro e w2 ⟨rfl, b2⟩
        have B2 := Lib.hid (BW.out.trans (b2.mono BW.out.size))
        go_wp2_with fail
        go_roundw
        case rel => exact ⟨md + 1, hi, by omega, by omega, fun j hj => HUp.out j (by omega) HS.out, HH.out, B2.out, by go_num, rfl⟩
        case measure => simp [intOf]; omega
      · have HS := Lib.hid (show strLt (nsAt xs md) n = false by
          cases hq : strLt (nsAt xs md) n with
          | false => rfl
          | true => exact absurd (HCm.out.2 hq) hr)
        go_wp2_with fail
        refine (CX.out _).mono ?_; rintro e w2 ⟨rfl, b2⟩
        have B2 := Lib.hid (BW.out.trans (b2.mono BW.out.size))
        go_wp2_with fail
        go_roundw
        case rel => exact ⟨lo, md, by omega, by omega, HL.out, fun j h1 h2 => HDn.out j h1 h2 HS.out, B2.out, rfl, rfl⟩
        case measure => simp [intOf]; omega
    · obtain rfl : lo = hi := by omega
      have HPs := Lib.hid (HP.out lo hhn HL.out HH.out)
      by_cases hln : lo < xs.length
      · have HFd2 := Lib.hid (show fd = decide (nsAt xs lo = n) by rw [HFd.out, HPs.out, decide_eq_true hln, Bool.true_and])
        obtain ⟨ab, ao, rfl, hadb, hcell⟩ := (HR.out.below BW.out).2 (by omega)
        obtain ⟨e0, e1, e2⟩ := siC_get xs lo hln
        have c0 := hcell _ _ e0
        have c1 := hcell _ _ e1
        have c2 := hcell _ _ e2
        rw [← Nat.add_assoc] at c1 c2
        clear hcell e0 e1 e2
        have HE := Lib.hid (show (cmpS xs[lo].name n = 0) ↔ nsAt xs lo = n by rw [nsAt_eq hln]; exact cmpS_eq _ _)
        have CX := Lib.hid (C1.out xs[lo])
        generalize xs[lo] = b at c0 c1 c2 HE CX
        obtain ⟨bn, bc, bw⟩ := b
        dsimp only at c0 c1 c2 HE CX
        generalize cmpS bn n = r at HE CX
        have z1 : (lo : Int) < (xs.length : Int) := by omega
        have z0 : (0 : Int) ≤ (lo : Int) := by omega
        by_cases hr : r = 0
        · have HV := Lib.hid (show fd = true by rw [HFd2.out, decide_eq_true (HE.out.1 hr)])
          have hr2 : (r == 0) = true := by simpa using hr
          clear hr
          go_wp2_with fail
          refine (CX.out _).mono ?_; rintro e w2 ⟨rfl, b2⟩
          go_wp2_with fail
          go_ret2
          exact ⟨by rw [HPs.out, HV.out]; first | done | rfl, BW.out.trans (b2.mono BW.out.size)⟩
        · have HV := Lib.hid (show fd = false by rw [HFd2.out, decide_eq_false (fun h => hr (HE.out.2 h))])
          have hr2 : (r == 0) = false := by simpa using hr
          clear hr
          go_wp2_with fail
          refine (CX.out _).mono ?_; rintro e w2 ⟨rfl, b2⟩
          go_wp2_with fail
          go_ret2
          exact ⟨by rw [HPs.out, HV.out]; first | done | rfl, BW.out.trans (b2.mono BW.out.size)⟩
      · have HV := Lib.hid (show fd = false by rw [HFd.out, HPs.out, decide_eq_false hln, Bool.false_and])
        have z1 : ¬ (lo : Int) < (xs.length : Int) := by omega
        go_wp2_with fail
        go_ret2
        exact ⟨by rw [HPs.out, HV.out]; first | done | rfl, BW.out⟩
end Go.Proofs.YtaaioengebaebaaGreatDoor
