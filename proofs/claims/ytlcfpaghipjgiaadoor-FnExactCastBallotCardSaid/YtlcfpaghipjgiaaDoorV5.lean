/- The laws of AreBallots, CountVotes, IsCarried, HasQuorum return true for all ballots: the walks of the laws. -/
import Derived.Test.YtlcfpaghipjgiaaDoorRows
import Derived.Test.YtlcfpaghipjgiaaDoorL0
import Derived.Test.YtlcfpaghipjgiaaDoorM0
import Derived.WalkKit
import Derived.ProofKit
import Derived.OpenShut
import Derived.BigQuiet
import Derived.Outline
import Derived.WalkSpells
import Derived.WalkLawsBesides
import Derived.Deep.DeepCutAuto
import Derived.Test.YtlcfpaghipjgiaaDoorV4
import Derived.Lib.Hide
namespace Go.Proofs.YtlcfpaghipjgiaaDoor
open Go.ChangeShapes Go.WideShapes Go.ChangeAt Go.RowKit

theorem blk_rd {w : World} {g : Nat} {t : TypeId} {size n : Nat} {L : List Value} (h : Blk w g t L.toArray) (hl : L.length = n * size) : Reads w w.heap.size size (some ⟨g, 0, none⟩) n L :=
  ⟨hl, fun _ => ⟨g, 0, rfl, h.lt, fun j u hu => by rw [Nat.zero_add, h.cell]; simpa using hu⟩⟩
theorem countT_form (xs : List Bal) : ∃ a b c d, countT xs = #[.int .i64 a, .int .i64 b, .int .i64 c, .int .i64 d] := by
  unfold countT; split <;> exact ⟨_, _, _, _, rfl⟩
theorem carT_form (xs : List Bal) (rule : Int) : ∃ a b, carT xs rule = #[.bool a, .int .i64 b] := by
  unfold carT; split <;> exact ⟨_, _, rfl⟩
theorem quoT_form (xs : List Bal) (t p : Int) : ∃ a b, quoT xs t p = #[.bool a, .int .i64 b] := by
  unfold quoT; split
  · split <;> exact ⟨_, _, rfl⟩
  · exact ⟨_, _, rfl⟩
theorem specAre_has (xs : List Bal) (A : Option Addr) (c : Nat) (w : World) (h : HasBal w xs A) : Calls Tryd.prog 14 #[.slice A xs.length c] w fun e w' => e = .returned (.bool (areB xs)) ∧ Below w.heap.size w w' := specAre_any xs A c w h.1 h.2.1 h.2.2
theorem implAre_has (xs : List Bal) (A : Option Addr) (c : Nat) (w : World) (h : HasBal w xs A) : Calls Tryd.prog 16 #[.slice A xs.length c] w fun e w' => e = .returned (.bool (areB xs)) ∧ Below w.heap.size w w' := implAre_any xs A c w h.1 h.2.1 h.2.2
set_option maxRecDepth 100000 in
set_option maxHeartbeats 1000000 in
theorem lawAre_any (xs : List Bal)  (A : Option Addr) (c : Nat) (w : World) (h : HasBal w xs A) :
    Calls Tryd.prog 3 #[.slice A xs.length c] w fun e w' => e = .returned (.bool true) ∧ Below w.heap.size w w' := by
  obtain ⟨va, hres⟩ : ∃ va, Value.bool (areB xs) = .bool va := ⟨_, rfl⟩
  have H := Lib.hid (fun W (hb : Below w.heap.size w W) => h.below hb)
  have HZ := Lib.hid (szBalS_any xs A c w h.1 h.2.1 h.2.2)
  have hm' := h.2.1
  have S : ∀ A c w, HasBal w xs A → Calls Tryd.prog 14 #[.slice A xs.length c] w fun e w' => e = .returned (.bool va) ∧ Below w.heap.size w w' := fun A c w hr => by rw [← hres]; exact specAre_has xs A c w hr
  have I : ∀ A c w, HasBal w xs A → Calls Tryd.prog 16 #[.slice A xs.length c] w fun e w' => e = .returned (.bool va) ∧ Below w.heap.size w w' := fun A c w hr => by rw [← hres]; exact implAre_has xs A c w hr
  have HS := Lib.hid S; have HI := Lib.hid I; clear S I hres h
  by_cases hz : szB xs < 0
  · generalize szB xs = z at HZ hz
    go_enter Tryd.func3, Tryd.ntmps3
    go_wp2_with fail
    refine HZ.out.mono ?_; rintro e w1 ⟨rfl, b1⟩
    go_wp2_with fail
    go_ret
    exact ⟨rfl, b1⟩
  · have hsm := (szB_pos (xs := xs) (by omega)).1
    generalize szB xs = z at HZ hz
    go_enter Tryd.func3, Tryd.ntmps3
    go_wp2_with fail
    refine HZ.out.mono ?_; rintro e w0 ⟨rfl, b0⟩
    have B0 := Lib.hid b0; clear b0
    have HX := Lib.hid (H.out w0 B0.out)
    have HN := Lib.hid HX.out.2.2
    go_wp2_with fail
    refine (toBalS_any xs A c w0 HX.out.1 hsm).mono ?_; rintro e w1 ⟨rfl, h1, b1⟩
    have R1 := Lib.hid (show HasBal w1 xs _ from ⟨blk_rd h1 (baC_len xs), hm', HN.out⟩); have B1 := Lib.hid (B0.out.trans (b1.mono B0.out.size)); clear h1 b1
    go_wp2_with fail
    refine (HS.out _ _ w1 R1.out).mono ?_; rintro e w2 ⟨rfl, b2⟩
    have B2 := Lib.hid (B1.out.trans (b2.mono B1.out.size)); clear b2
    go_wp2_with fail
    refine (toBalS_any xs A c w2 (H.out w2 B2.out).1 hsm).mono ?_; rintro e w3 ⟨rfl, h3, b3⟩
    have R3 := Lib.hid (show HasBal w3 xs _ from ⟨blk_rd h3 (baC_len xs), hm', HN.out⟩); have B3 := Lib.hid (B2.out.trans (b3.mono B2.out.size)); clear h3 b3
    go_wp2_with fail
    refine (HI.out _ _ w3 R3.out).mono ?_; rintro e w4 ⟨rfl, b4⟩
    have R4 := Lib.hid (R3.out.below b4); have B4 := Lib.hid (B3.out.trans (b4.mono B3.out.size)); clear b4
    go_wp2_with fail
    refine (toBalS_any xs A c w4 (H.out w4 B4.out).1 hsm).mono ?_; rintro e w5 ⟨rfl, h5, b5⟩
    have R5 := Lib.hid (blk_rd h5 (baC_len xs)); have R5' := Lib.hid (R4.out.below b5).1; have B5 := Lib.hid (B4.out.trans (b5.mono B4.out.size)); clear h5 b5
    go_wp2_with fail
    refine (eqBalS_any xs xs _ _ _ _ w5 R5'.out R5.out hm').mono ?_; rw [decide_eq_true rfl]; rintro e w6 ⟨rfl, b6⟩
    go_wp2_with fail
    go_ret
    exact ⟨rfl, B5.out.trans (b6.mono B5.out.size)⟩
set_option maxRecDepth 100000 in
set_option maxHeartbeats 1000000 in
theorem lawCount_any (xs : List Bal)  (A : Option Addr) (c : Nat) (w : World) (h : HasBal w xs A) :
    Calls Tryd.prog 4 #[.slice A xs.length c] w fun e w' => e = .returned (.bool true) ∧ Below w.heap.size w w' := by
  obtain ⟨va, vb, vc, vd, hres⟩ : ∃ va vb vc vd, Value.tuple (countT xs) = .tuple #[.int .i64 va, .int .i64 vb, .int .i64 vc, .int .i64 vd] := by obtain ⟨a, b, c, d, h⟩ := countT_form xs; exact ⟨a, b, c, d, by rw [h]⟩
  have H := Lib.hid (fun W (hb : Below w.heap.size w W) => h.below hb)
  have HZ := Lib.hid (szBalS_any xs A c w h.1 h.2.1 h.2.2)
  have hm' := h.2.1
  have S : ∀ A c w, HasBal w xs A → Calls Tryd.prog 18 #[.slice A xs.length c] w fun e w' => e = .returned (.tuple #[.int .i64 va, .int .i64 vb, .int .i64 vc, .int .i64 vd]) ∧ Below w.heap.size w w' := fun A c w hr => by rw [← hres]; exact specCount_any xs A c w hr
  have I : ∀ A c w, HasBal w xs A → Calls Tryd.prog 19 #[.slice A xs.length c] w fun e w' => e = .returned (.tuple #[.int .i64 va, .int .i64 vb, .int .i64 vc, .int .i64 vd]) ∧ Below w.heap.size w w' := fun A c w hr => by rw [← hres]; exact implCount_any xs A c w hr
  have HS := Lib.hid S; have HI := Lib.hid I; clear S I hres h
  by_cases hz : szB xs < 0
  · generalize szB xs = z at HZ hz
    go_enter Tryd.func4, Tryd.ntmps4
    go_wp2_with fail
    refine HZ.out.mono ?_; rintro e w1 ⟨rfl, b1⟩
    go_wp2_with fail
    go_ret
    exact ⟨rfl, b1⟩
  · have hsm := (szB_pos (xs := xs) (by omega)).1
    generalize szB xs = z at HZ hz
    go_enter Tryd.func4, Tryd.ntmps4
    go_wp2_with fail
    refine HZ.out.mono ?_; rintro e w0 ⟨rfl, b0⟩
    have B0 := Lib.hid b0; clear b0
    have HX := Lib.hid (H.out w0 B0.out)
    have HN := Lib.hid HX.out.2.2
    go_wp2_with fail
    refine (toBalS_any xs A c w0 HX.out.1 hsm).mono ?_; rintro e w1 ⟨rfl, h1, b1⟩
    have R1 := Lib.hid (show HasBal w1 xs _ from ⟨blk_rd h1 (baC_len xs), hm', HN.out⟩); have B1 := Lib.hid (B0.out.trans (b1.mono B0.out.size)); clear h1 b1
    go_wp2_with fail
    refine (HS.out _ _ w1 R1.out).mono ?_; rintro e w2 ⟨rfl, b2⟩
    have B2 := Lib.hid (B1.out.trans (b2.mono B1.out.size)); clear b2
    go_wp2_with fail
    refine (toBalS_any xs A c w2 (H.out w2 B2.out).1 hsm).mono ?_; rintro e w3 ⟨rfl, h3, b3⟩
    have R3 := Lib.hid (show HasBal w3 xs _ from ⟨blk_rd h3 (baC_len xs), hm', HN.out⟩); have B3 := Lib.hid (B2.out.trans (b3.mono B2.out.size)); clear h3 b3
    go_wp2_with fail
    refine (HI.out _ _ w3 R3.out).mono ?_; rintro e w4 ⟨rfl, b4⟩
    have R4 := Lib.hid (R3.out.below b4); have B4 := Lib.hid (B3.out.trans (b4.mono B3.out.size)); clear b4
    go_wp2_with fail
    refine (toBalS_any xs A c w4 (H.out w4 B4.out).1 hsm).mono ?_; rintro e w5 ⟨rfl, h5, b5⟩
    have R5 := Lib.hid (blk_rd h5 (baC_len xs)); have R5' := Lib.hid (R4.out.below b5).1; have B5 := Lib.hid (B4.out.trans (b5.mono B4.out.size)); clear h5 b5
    go_wp2_with fail
    refine (eqBalS_any xs xs _ _ _ _ w5 R5'.out R5.out hm').mono ?_; rw [decide_eq_true rfl]; rintro e w6 ⟨rfl, b6⟩
    go_wp2_with fail
    go_ret
    exact ⟨rfl, B5.out.trans (b6.mono B5.out.size)⟩
set_option maxRecDepth 100000 in
set_option maxHeartbeats 1000000 in
theorem lawCar_any (xs : List Bal) (rule : Int) (A : Option Addr) (c : Nat) (w : World) (h : HasBal w xs A) :
    Calls Tryd.prog 6 #[.slice A xs.length c, .int .i64 rule] w fun e w' => e = .returned (.bool true) ∧ Below w.heap.size w w' := by
  obtain ⟨va, vb, hres⟩ : ∃ va vb, Value.tuple (carT xs rule) = .tuple #[.bool va, .int .i64 vb] := by obtain ⟨a, b, h⟩ := carT_form xs rule; exact ⟨a, b, by rw [h]⟩
  have H := Lib.hid (fun W (hb : Below w.heap.size w W) => h.below hb)
  have HZ := Lib.hid (szBalS_any xs A c w h.1 h.2.1 h.2.2)
  have hm' := h.2.1
  have S : ∀ A c w, HasBal w xs A → Calls Tryd.prog 22 #[.slice A xs.length c, .int .i64 rule] w fun e w' => e = .returned (.tuple #[.bool va, .int .i64 vb]) ∧ Below w.heap.size w w' := fun A c w hr => by rw [← hres]; exact specIsCar_any xs rule A c w hr
  have I : ∀ A c w, HasBal w xs A → Calls Tryd.prog 23 #[.slice A xs.length c, .int .i64 rule] w fun e w' => e = .returned (.tuple #[.bool va, .int .i64 vb]) ∧ Below w.heap.size w w' := fun A c w hr => by rw [← hres]; exact implIsCar_any xs rule A c w hr
  have HS := Lib.hid S; have HI := Lib.hid I; clear S I hres h
  by_cases hz : szB xs < 0
  · generalize szB xs = z at HZ hz
    go_enter Tryd.func6, Tryd.ntmps6
    go_wp2_with fail
    refine HZ.out.mono ?_; rintro e w1 ⟨rfl, b1⟩
    go_wp2_with fail
    go_ret
    exact ⟨rfl, b1⟩
  · have hsm := (szB_pos (xs := xs) (by omega)).1
    generalize szB xs = z at HZ hz
    go_enter Tryd.func6, Tryd.ntmps6
    go_wp2_with fail
    refine HZ.out.mono ?_; rintro e w0 ⟨rfl, b0⟩
    have B0 := Lib.hid b0; clear b0
    have HX := Lib.hid (H.out w0 B0.out)
    have HN := Lib.hid HX.out.2.2
    go_wp2_with fail
    refine (toBalS_any xs A c w0 HX.out.1 hsm).mono ?_; rintro e w1 ⟨rfl, h1, b1⟩
    have R1 := Lib.hid (show HasBal w1 xs _ from ⟨blk_rd h1 (baC_len xs), hm', HN.out⟩); have B1 := Lib.hid (B0.out.trans (b1.mono B0.out.size)); clear h1 b1
    go_wp2_with fail
    refine (HS.out _ _ w1 R1.out).mono ?_; rintro e w2 ⟨rfl, b2⟩
    have B2 := Lib.hid (B1.out.trans (b2.mono B1.out.size)); clear b2
    go_wp2_with fail
    refine (toBalS_any xs A c w2 (H.out w2 B2.out).1 hsm).mono ?_; rintro e w3 ⟨rfl, h3, b3⟩
    have R3 := Lib.hid (show HasBal w3 xs _ from ⟨blk_rd h3 (baC_len xs), hm', HN.out⟩); have B3 := Lib.hid (B2.out.trans (b3.mono B2.out.size)); clear h3 b3
    go_wp2_with fail
    refine (HI.out _ _ w3 R3.out).mono ?_; rintro e w4 ⟨rfl, b4⟩
    have R4 := Lib.hid (R3.out.below b4); have B4 := Lib.hid (B3.out.trans (b4.mono B3.out.size)); clear b4
    go_wp2_with fail
    refine (toBalS_any xs A c w4 (H.out w4 B4.out).1 hsm).mono ?_; rintro e w5 ⟨rfl, h5, b5⟩
    have R5 := Lib.hid (blk_rd h5 (baC_len xs)); have R5' := Lib.hid (R4.out.below b5).1; have B5 := Lib.hid (B4.out.trans (b5.mono B4.out.size)); clear h5 b5
    go_wp2_with fail
    refine (eqBalS_any xs xs _ _ _ _ w5 R5'.out R5.out hm').mono ?_; rw [decide_eq_true rfl]; rintro e w6 ⟨rfl, b6⟩
    go_wp2_with fail
    go_ret
    exact ⟨rfl, B5.out.trans (b6.mono B5.out.size)⟩
set_option maxRecDepth 100000 in
set_option maxHeartbeats 1000000 in
theorem lawQuo_any (xs : List Bal) (t p : Int) (A : Option Addr) (c : Nat) (w : World) (h : HasBal w xs A) :
    Calls Tryd.prog 5 #[.slice A xs.length c, .int .i64 t, .int .i64 p] w fun e w' => e = .returned (.bool true) ∧ Below w.heap.size w w' := by
  obtain ⟨va, vb, hres⟩ : ∃ va vb, Value.tuple (quoT xs t p) = .tuple #[.bool va, .int .i64 vb] := by obtain ⟨a, b, h⟩ := quoT_form xs t p; exact ⟨a, b, by rw [h]⟩
  have H := Lib.hid (fun W (hb : Below w.heap.size w W) => h.below hb)
  have HZ := Lib.hid (szBalS_any xs A c w h.1 h.2.1 h.2.2)
  have hm' := h.2.1
  have S : ∀ A c w, HasBal w xs A → Calls Tryd.prog 20 #[.slice A xs.length c, .int .i64 t, .int .i64 p] w fun e w' => e = .returned (.tuple #[.bool va, .int .i64 vb]) ∧ Below w.heap.size w w' := fun A c w hr => by rw [← hres]; exact specQuo_any xs t p A c w hr
  have I : ∀ A c w, HasBal w xs A → Calls Tryd.prog 21 #[.slice A xs.length c, .int .i64 t, .int .i64 p] w fun e w' => e = .returned (.tuple #[.bool va, .int .i64 vb]) ∧ Below w.heap.size w w' := fun A c w hr => by rw [← hres]; exact implQuo_any xs t p A c w hr
  have HS := Lib.hid S; have HI := Lib.hid I; clear S I hres h
  by_cases hz : szB xs < 0
  · generalize szB xs = z at HZ hz
    go_enter Tryd.func5, Tryd.ntmps5
    go_wp2_with fail
    refine HZ.out.mono ?_; rintro e w1 ⟨rfl, b1⟩
    go_wp2_with fail
    go_ret
    exact ⟨rfl, b1⟩
  · have hsm := (szB_pos (xs := xs) (by omega)).1
    generalize szB xs = z at HZ hz
    go_enter Tryd.func5, Tryd.ntmps5
    go_wp2_with fail
    refine HZ.out.mono ?_; rintro e w0 ⟨rfl, b0⟩
    have B0 := Lib.hid b0; clear b0
    have HX := Lib.hid (H.out w0 B0.out)
    have HN := Lib.hid HX.out.2.2
    go_wp2_with fail
    refine (toBalS_any xs A c w0 HX.out.1 hsm).mono ?_; rintro e w1 ⟨rfl, h1, b1⟩
    have R1 := Lib.hid (show HasBal w1 xs _ from ⟨blk_rd h1 (baC_len xs), hm', HN.out⟩); have B1 := Lib.hid (B0.out.trans (b1.mono B0.out.size)); clear h1 b1
    go_wp2_with fail
    refine (HS.out _ _ w1 R1.out).mono ?_; rintro e w2 ⟨rfl, b2⟩
    have B2 := Lib.hid (B1.out.trans (b2.mono B1.out.size)); clear b2
    go_wp2_with fail
    refine (toBalS_any xs A c w2 (H.out w2 B2.out).1 hsm).mono ?_; rintro e w3 ⟨rfl, h3, b3⟩
    have R3 := Lib.hid (show HasBal w3 xs _ from ⟨blk_rd h3 (baC_len xs), hm', HN.out⟩); have B3 := Lib.hid (B2.out.trans (b3.mono B2.out.size)); clear h3 b3
    go_wp2_with fail
    refine (HI.out _ _ w3 R3.out).mono ?_; rintro e w4 ⟨rfl, b4⟩
    have R4 := Lib.hid (R3.out.below b4); have B4 := Lib.hid (B3.out.trans (b4.mono B3.out.size)); clear b4
    go_wp2_with fail
    refine (toBalS_any xs A c w4 (H.out w4 B4.out).1 hsm).mono ?_; rintro e w5 ⟨rfl, h5, b5⟩
    have R5 := Lib.hid (blk_rd h5 (baC_len xs)); have R5' := Lib.hid (R4.out.below b5).1; have B5 := Lib.hid (B4.out.trans (b5.mono B4.out.size)); clear h5 b5
    go_wp2_with fail
    refine (eqBalS_any xs xs _ _ _ _ w5 R5'.out R5.out hm').mono ?_; rw [decide_eq_true rfl]; rintro e w6 ⟨rfl, b6⟩
    go_wp2_with fail
    go_ret
    exact ⟨rfl, B5.out.trans (b6.mono B5.out.size)⟩
end Go.Proofs.YtlcfpaghipjgiaaDoor
