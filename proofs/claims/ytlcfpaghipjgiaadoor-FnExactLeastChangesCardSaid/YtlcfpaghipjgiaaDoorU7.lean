/- The law of LeastChanges returns true for all ballots and rules: the walk of the law. -/
import Derived.Test.YtlcfpaghipjgiaaDoorRows
import Derived.Test.YtlcfpaghipjgiaaDoorL0
import Derived.Test.YtlcfpaghipjgiaaDoorM0
import Derived.WalkKit
import Derived.ProofKit
import Derived.OpenShut
import Derived.BigQuiet
import Derived.Outline
import Derived.WalkSpells
import Derived.WalkLawsBesides
import Derived.Deep.DeepCutAuto
import Derived.Test.YtlcfpaghipjgiaaDoorU6
import Derived.Test.YtlcfpaghipjgiaaDoorV5
namespace Go.Proofs.YtlcfpaghipjgiaaDoor
open Go.ChangeShapes Go.WideShapes Go.ChangeAt Go.RowKit

set_option maxRecDepth 100000 in
set_option maxHeartbeats 1000000 in
theorem lawLeast_any (xs : List Bal) (rule : Int) (A : Option Addr) (c : Nat) (w : World) (h : HasBal w xs A) :
    Calls Tryd.prog 7 #[.slice A xs.length c, .int .i64 rule] w fun e w' => e = .returned (.bool true) ∧ Below w.heap.size w w' := by
  obtain ⟨va, vb, hres⟩ : ∃ va vb, Value.tuple #[.int .i64 (leastV xs rule).1, .int .i64 (leastV xs rule).2] = .tuple #[.int .i64 va, .int .i64 vb] := ⟨_, _, rfl⟩
  have H := Lib.hid (fun W (hb : Below w.heap.size w W) => h.below hb)
  have HZ := Lib.hid (szBalS_any xs A c w h.1 h.2.1 h.2.2)
  have hm' := h.2.1
  have S : ∀ A c w, HasBal w xs A → Calls Tryd.prog 24 #[.slice A xs.length c, .int .i64 rule] w fun e w' => e = .returned (.tuple #[.int .i64 va, .int .i64 vb]) ∧ Below w.heap.size w w' := fun A c w hr => by rw [← hres]; exact specLeast_any xs rule A c w hr
  have I : ∀ (a : Addr) c w, HasBal w xs (some a) → Calls Tryd.prog 25 #[.slice (some a) xs.length c, .int .i64 rule] w fun e w' => e = .returned (.tuple #[.int .i64 va, .int .i64 vb]) ∧ Below w.heap.size w w' := fun a c w hr => by rw [← hres]; first | exact implLeast_any xs rule (some a) c w hr | exact implLeast_any xs rule (some a) c (fun h => by cases h) w hr
  have HS := Lib.hid S; have HI := Lib.hid I; clear S I hres h
  by_cases hz : szB xs < 0
  · generalize szB xs = z at HZ hz
    go_enter Tryd.func7, Tryd.ntmps7
    go_wp2_with fail
    refine HZ.out.mono ?_; rintro e w1 ⟨rfl, b1⟩
    go_wp2_with fail
    go_ret
    exact ⟨rfl, b1⟩
  · have hsm := (szB_pos (xs := xs) (by omega)).1
    generalize szB xs = z at HZ hz
    go_enter Tryd.func7, Tryd.ntmps7
    go_wp2_with fail
    refine HZ.out.mono ?_; rintro e w0 ⟨rfl, b0⟩
    have B0 := Lib.hid b0; clear b0
    have HX := Lib.hid (H.out w0 B0.out)
    have HN := Lib.hid HX.out.2.2
    go_wp2_with fail
    refine (toBalS_any xs A c w0 HX.out.1 hsm).mono ?_; rintro e w1 ⟨rfl, h1, b1⟩
    have R1 := Lib.hid (show HasBal w1 xs _ from ⟨blk_rd h1 (baC_len xs), hm', HN.out⟩); have B1 := Lib.hid (B0.out.trans (b1.mono B0.out.size)); clear h1 b1
    go_wp2_with fail
    refine (HS.out _ _ w1 R1.out).mono ?_; rintro e w2 ⟨rfl, b2⟩
    have B2 := Lib.hid (B1.out.trans (b2.mono B1.out.size)); clear b2
    go_wp2_with fail
    refine (toBalS_any xs A c w2 (H.out w2 B2.out).1 hsm).mono ?_; rintro e w3 ⟨rfl, h3, b3⟩
    have R3 := Lib.hid (show HasBal w3 xs _ from ⟨blk_rd h3 (baC_len xs), hm', HN.out⟩); have B3 := Lib.hid (B2.out.trans (b3.mono B2.out.size)); clear h3 b3
    go_wp2_with fail
    refine (HI.out _ _ w3 R3.out).mono ?_; rintro e w4 ⟨rfl, b4⟩
    have R4 := Lib.hid (R3.out.below b4); have B4 := Lib.hid (B3.out.trans (b4.mono B3.out.size)); clear b4
    go_wp2_with fail
    refine (toBalS_any xs A c w4 (H.out w4 B4.out).1 hsm).mono ?_; rintro e w5 ⟨rfl, h5, b5⟩
    have R5 := Lib.hid (blk_rd h5 (baC_len xs)); have R5' := Lib.hid (R4.out.below b5).1; have B5 := Lib.hid (B4.out.trans (b5.mono B4.out.size)); clear h5 b5
    go_wp2_with fail
    refine (eqBalS_any xs xs _ _ _ _ w5 R5'.out R5.out hm').mono ?_; rw [decide_eq_true rfl]; rintro e w6 ⟨rfl, b6⟩
    go_wp2_with fail
    go_ret
    exact ⟨rfl, B5.out.trans (b6.mono B5.out.size)⟩
end Go.Proofs.YtlcfpaghipjgiaaDoor
