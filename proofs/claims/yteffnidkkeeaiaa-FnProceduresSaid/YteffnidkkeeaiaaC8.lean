/- The reference's search in depth: l25Rest. -/
import Derived.Test.YteffnidkkeeaiaaRows
import Derived.Test.YteffnidkkeeaiaaL0
import Derived.Test.YteffnidkkeeaiaaM0
import Derived.WalkKit
import Derived.ProofKit
import Derived.OpenShut
import Derived.BigQuiet
import Derived.Outline
import Derived.WalkSpells
import Derived.WalkLawsBesides
import Derived.Deep.DeepCutAuto
import Derived.Test.YteffnidkkeeaiaaC7
namespace Go.Proofs.Yteffnidkkeeaiaa
open Go.ChangeShapes Go.WideShapes Go.ChangeAt Go.RowKit

/-- What l25Rest answers. -/
def RestP (w : World) (r : Option (List Stp)) (e : Ending) (w' : World) : Prop := Below w.heap.size w w' ∧
  (match r with
   | none => ∃ v, e = .returned (.tuple #[v, .bool false])
   | some z => ∃ A2 c2, e = .returned (.tuple #[.slice A2 z.length c2, .bool true]) ∧ Reads w' w'.heap.size 2 A2 z.length (stC z) ∧ z.length ≤ c2)

set_option maxRecDepth 100000 in
set_option maxHeartbeats 4000000 in
theorem rest_zero (xs : List Stp) (day o : Int) (A : Option Addr) (c : Nat) (w : World) (hr : Reads w w.heap.size 2 A xs.length (stC xs)) (hxc : xs.length ≤ c) (hp : isProc xs = true) :
    Calls Try.prog 70 #[.slice A xs.length c, .int .i64 day, .int .i64 o, .int .i64 0] w (RestP w (restS day o 0 xs)) := by
  have hlen := isProc_len hp
  by_cases h : outcomeS (runR xs) = o
  · have HH := Lib.hid (show restS day o 0 xs = some xs by simp [restS, hit, h])
    have HO := Lib.hid h; clear h
    have HR := Lib.hid hr; clear hr
    go_enter Try.func70, Try.ntmps70
    go_wp2_with fail
    refine (l25Outcome_any xs _ _ _ HR.out (by omega)).mono ?_; rw [HO.out]; rintro e w1 ⟨rfl, b1⟩
    go_wp2_with fail
    go_ret2
    exact ⟨b1, by rw [HH.out]; exact ⟨A, c, rfl, (HR.out.below b1).more b1.size, hxc⟩⟩
  · have HH := Lib.hid (show restS day o 0 xs = none by simp [restS, hit, h])
    have HO := Lib.hid h; clear h
    have HR := Lib.hid hr; clear hr
    go_enter Try.func70, Try.ntmps70
    go_wp2_with fail
    refine (l25Outcome_any xs _ _ _ HR.out (by omega)).mono ?_; rintro e w1 ⟨rfl, b1⟩
    have hno : (outcomeS (runR xs) == o) = false := by simpa using HO.out
    go_wp2_with fail
    go_ret2
    exact ⟨b1, by rw [HH.out]; exact ⟨_, rfl⟩⟩

/-- The first hit among the kinds below k. -/
def among (day o : Int) (m : Nat) (xs : List Stp) (k : Nat) : Option (List Stp) := (kidsTo day xs k).findSome? (restS day o m)
theorem among_none {day o : Int} {m k : Nat} {xs : List Stp} (h : among day o m xs k = none) (hk : kid day xs k = none) : among day o m xs (k + 1) = none := by
  unfold among at h ⊢
  rw [kidsTo_succ, hk, Option.toList_none, List.append_nil]; exact h
theorem among_next {day o : Int} {m k : Nat} {xs z : List Stp} (h : among day o m xs k = none) (hk : kid day xs k = some z) : among day o m xs (k + 1) = restS day o m z := by
  unfold among at h ⊢
  rw [kidsTo_succ, hk, List.findSome?_append, h, Option.toList_some]
  simp only [Option.none_or, List.findSome?_cons, List.findSome?_nil]
  cases restS day o m z <;> rfl
theorem among_some {day o : Int} {m k : Nat} {xs z : List Stp} (h : among day o m xs k = some z) (j : Nat) : among day o m xs (k + j) = some z := by
  induction j with
  | zero => exact h
  | succ j ih =>
    unfold among at ih ⊢
    rw [show k + (j + 1) = (k + j) + 1 from by omega, kidsTo_succ, List.findSome?_append, ih]; rfl

set_option maxRecDepth 100000 in
set_option maxHeartbeats 4000000 in
theorem rest_succ (day o : Int) (hd : 0 ≤ day) (hd' : day ≤ 1000000000000) (m : Nat) (q : Int) (hq0 : 1 ≤ q) (hq5 : q ≤ 5)
    (ih : ∀ (xs : List Stp) (A : Option Addr) (c : Nat) (w : World), Reads w w.heap.size 2 A xs.length (stC xs) → xs.length ≤ c → isProc xs = true →
      Calls Try.prog 70 #[.slice A xs.length c, .int .i64 day, .int .i64 o, .int .i64 (q - 1)] w (RestP w (restS day o m xs)))
    (xs : List Stp) (A : Option Addr) (c : Nat) (w : World) (hr : Reads w w.heap.size 2 A xs.length (stC xs)) (hxc : xs.length ≤ c) (hp : isProc xs = true) :
    Calls Try.prog 70 #[.slice A xs.length c, .int .i64 day, .int .i64 o, .int .i64 q] w (RestP w (restS day o (m + 1) xs)) := by
  have IH := Lib.hid ih; clear ih
  have hlen := isProc_len hp
  have HP := Lib.hid hp; clear hp
  have HR := Lib.hid hr; clear hr
  have HS := Lib.hid (show restS day o (m + 1) xs = among day o m xs 8 from rfl)
  have hqz : (q == 0) = false := by simp; omega
  go_enter Try.func70, Try.ntmps70
  go_wp2_with fail
  go_loopw [10] (fun v10 wr => ∃ k : Nat, k ≤ 8 ∧ Hid (among day o m xs k = none) ∧ Below w.heap.size w wr ∧ v10 = .int .i64 k) (fun i _ => 8 - (intOf i).toNat)
  case atStart => exact ⟨0, by omega, rfl, Below.refl _ _, rfl⟩
  case round =>
    obtain ⟨k, hk, HA, hb, rfl⟩ := hrel
    by_cases hlt : k < 8
    · go_wp2_with fail
      refine (early_any xs day k A c wr ((HR.out.below hb).more hb.size) HP.out hd hd' (by omega)).mono ?_; rintro e w1 ⟨rfl, b1⟩
      have B1 := Lib.hid (hb.trans (b1.mono hb.size))
      have EL := early_law (day := day) (ys := xs) hlt HP.out hd
      generalize earlyS day xs (k : Int) = t at EL ⊢
      cases hkid : kid day xs k with
      | none =>
        have ht : t < 0 := by
          rw [hkid] at EL
          by_cases h : t < 0
          · exact h
          · rw [if_neg h] at EL; cases EL
        have HN := Lib.hid (among_none HA.out hkid)
        clear EL hkid
        go_wp2_with fail
        go_roundw
        case rel => exact ⟨k + 1, by omega, HN.out, B1.out, by go_num⟩
        case measure => simp [intOf]; omega
      | some z =>
        have ht : ¬ t < 0 := by
          rw [hkid] at EL
          intro h
          rw [if_pos h] at EL; cases EL
        have hz : xs ++ [(t, (k : Int))] = z := by
          rw [hkid, if_neg ht] at EL
          exact (Option.some.inj EL).symm
        have hpz := (kid_some hlt HP.out hkid).1
        have HN := Lib.hid (among_next HA.out hkid)
        have HPZ := Lib.hid hpz
        have HZ := Lib.hid hz
        clear EL hkid hpz hz
        go_wp2_with fail
        refine (with_at xs _ c (t := t) _ w1 rfl ((HR.out.below B1.out).more B1.out.size) (by omega)).mono ?_
        rw [HZ.out]
        rintro e w2 ⟨A2, c2, rfl, r2, b2, hc2⟩
        have B2 := Lib.hid (B1.out.trans (b2.mono B1.out.size))
        have R2 := Lib.hid r2
        clear r2 b2
        go_wp2_with fail
        refine (IH.out z A2 c2 w2 R2.out hc2 HPZ.out).mono ?_
        rintro e w3 ⟨b3, hres⟩
        have B3 := Lib.hid (B2.out.trans (b3.mono B2.out.size))
        clear b3
        cases hq : restS day o m z with
        | none =>
          rw [hq] at hres
          have HN2 := Lib.hid (HN.out.trans hq)
          clear hq
          obtain ⟨v, rfl⟩ := hres
          go_wp2_with fail
          go_roundw
          case rel => exact ⟨k + 1, by omega, HN2.out, B3.out, by go_num⟩
          case measure => simp [intOf]; omega
        | some y =>
          rw [hq] at hres
          have HN2 := Lib.hid (HN.out.trans hq)
          clear hq
          obtain ⟨A3, c3, rfl, r3, hc3⟩ := hres
          have R3 := Lib.hid r3; clear r3
          go_wp2_with fail
          go_ret2
          refine ⟨B3.out, ?_⟩
          have h8 := among_some HN2.out (8 - (k + 1))
          rw [show k + 1 + (8 - (k + 1)) = 8 from by omega] at h8
          rw [HS.out, h8]
          exact ⟨A3, c3, rfl, R3.out, hc3⟩
    · obtain rfl : k = 8 := by omega
      go_wp2_with fail
      go_ret2
      exact ⟨hb, by rw [HS.out, HA.out]; exact ⟨_, rfl⟩⟩
theorem rest_any (day o : Int) (hd : 0 ≤ day) (hd' : day ≤ 1000000000000) (m : Nat) (hm : m ≤ 5) : ∀ (xs : List Stp) (A : Option Addr) (c : Nat) (w : World), Reads w w.heap.size 2 A xs.length (stC xs) → xs.length ≤ c → isProc xs = true →
    Calls Try.prog 70 #[.slice A xs.length c, .int .i64 day, .int .i64 o, .int .i64 m] w (RestP w (restS day o m xs)) := by
  induction m with
  | zero => intro xs A c w hr hc hp; exact rest_zero xs day o A c w hr hc hp
  | succ m ih =>
    have e : ((m + 1 : Nat) : Int) - 1 = (m : Int) := by omega
    exact rest_succ day o hd hd' m ((m + 1 : Nat) : Int) (by omega) (by omega) (by rw [e]; exact ih (by omega))
end Go.Proofs.Yteffnidkkeeaiaa
