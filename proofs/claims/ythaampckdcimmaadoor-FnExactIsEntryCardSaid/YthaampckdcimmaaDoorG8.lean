/- The law of IsEntry returns true for all arguments: the walk of the law. -/
import Derived.Test.YthaampckdcimmaaDoorRows
import Derived.Test.YthaampckdcimmaaDoorL0
import Derived.Test.YthaampckdcimmaaDoorM0
import Derived.WalkKit
import Derived.ProofKit
import Derived.OpenShut
import Derived.BigQuiet
import Derived.Outline
import Derived.WalkSpells
import Derived.WalkLawsBesides
import Derived.Deep.DeepCutAuto
import Derived.Test.YthaampckdcimmaaDoorG5
import Derived.Lib.QuietBelow
import Derived.Deep.QuietTactic
import Derived.Lib.Hide
namespace Go.Proofs.YthaampckdcimmaaDoor
open Go.ChangeShapes Go.WideShapes Go.ChangeAt Go.RowKit

set_option maxRecDepth 100000 in
set_option maxHeartbeats 4000000 in
theorem lawIsE_any (b : Ent) (hb : b.Ok) (w : World) :
    Calls Tryd.prog 3 #[.agg #[.string b.text, .int .i64 b.x, .int .i64 b.y, .int .i64 b.since]] w fun e w' => e = .returned (.bool true) ∧ Below w.heap.size w w' := by
  have HZ0 := Lib.hid (szEnt_any b hb (1048576) (by omega) (by omega))
  unfold Ent.val at HZ0
  rcases (show szEnt (1048576) b < 0 ∨ ¬ szEnt (1048576) b < 0 by omega) with hz0 | hz0
  · have hz := hz0
    generalize szEnt (1048576) b = z0 at *
    have KN := Lib.hid (blks_one w 25 #[.string b.text, .int .i64 b.x, .int .i64 b.y, .int .i64 b.since])
    go_enter Tryd.func3, Tryd.ntmps3
    go_wp2_with fail
    generalize hW : (w.alloc (.cells #[.string b.text, .int .i64 b.x, .int .i64 b.y, .int .i64 b.since] 25)) = w0
    obtain ⟨kb, bw, _⟩ := KN.out w0 hW.symm
    clear hW
    have SBb := Lib.hid kb; have SLb := Lib.hid kb.lt; clear kb
    have B0 := Lib.hid bw; clear bw
    refine (HZ0.out w0).mono ?_; rintro e w1 ⟨rfl, b1⟩
    have B1 := Lib.hid (B0.out.trans (b1.mono B0.out.size))
    have SBb := Lib.hid (SBb.out.below b1 SLb.out); have SLb := Lib.hid SBb.out.lt
    obtain ⟨xb0, xb1, xb2, xb3⟩ := cells_4 SBb.out
    clear b1
    go_wp2_with fail
    go_ret
    exact ⟨rfl, B1.out⟩
  have q0 := szEnt_pos (left := 1048576) (b := b) (by omega)
  obtain ⟨va, hres⟩ : ∃ va, Value.bool (entB b) = .bool va := ⟨_, rfl⟩
  have HS := Lib.hid (show ∀ W, Below w.heap.size w W → Calls Tryd.prog 13 #[.agg #[.string b.text, .int .i64 b.x, .int .i64 b.y, .int .i64 b.since]] W fun e w' => e = .returned (.bool va) ∧ Below W.heap.size W w' from fun W hb => by
    rw [← hres]; exact specEnt_any b (by omega) W)
  have HI := Lib.hid (show ∀ W, Below w.heap.size w W → Calls Tryd.prog 15 #[.agg #[.string b.text, .int .i64 b.x, .int .i64 b.y, .int .i64 b.since]] W fun e w' => e = .returned (.bool va) ∧ Below W.heap.size W w' from fun W hb => by
    rw [← hres]; exact implEnt_any b (by omega) W)
  clear hres
  have HTb := Lib.hid (toEnt_any b)
  unfold Ent.val at HTb
  generalize szEnt (1048576) b = z0 at *
  have KN := Lib.hid (blks_one w 25 #[.string b.text, .int .i64 b.x, .int .i64 b.y, .int .i64 b.since])
  go_enter Tryd.func3, Tryd.ntmps3
  go_wp2_with fail
  generalize hW : (w.alloc (.cells #[.string b.text, .int .i64 b.x, .int .i64 b.y, .int .i64 b.since] 25)) = w0
  obtain ⟨kb, bw, _⟩ := KN.out w0 hW.symm
  clear hW
  have SBb := Lib.hid kb; have SLb := Lib.hid kb.lt; clear kb
  have B0 := Lib.hid bw; clear bw
  refine (HZ0.out w0).mono ?_; rintro e w1 ⟨rfl, b1⟩
  have B1 := Lib.hid (B0.out.trans (b1.mono B0.out.size))
  have SBb := Lib.hid (SBb.out.below b1 SLb.out); have SLb := Lib.hid SBb.out.lt
  obtain ⟨xb0, xb1, xb2, xb3⟩ := cells_4 SBb.out
  clear b1
  go_wp2_with fail
  refine (HTb.out w1).mono ?_; rintro e w2 ⟨rfl, b2⟩
  have B2 := Lib.hid (B1.out.trans (b2.mono B1.out.size))
  have SBb := Lib.hid (SBb.out.below b2 SLb.out); have SLb := Lib.hid SBb.out.lt
  obtain ⟨xb0, xb1, xb2, xb3⟩ := cells_4 SBb.out
  clear b2
  go_wp2_with fail
  refine (HS.out w2 B2.out).mono ?_; rintro e w3 ⟨rfl, b3⟩
  have B3 := Lib.hid (B2.out.trans (b3.mono B2.out.size))
  have SBb := Lib.hid (SBb.out.below b3 SLb.out); have SLb := Lib.hid SBb.out.lt
  obtain ⟨xb0, xb1, xb2, xb3⟩ := cells_4 SBb.out
  clear b3
  go_wp2_with fail
  refine (HTb.out w3).mono ?_; rintro e w4 ⟨rfl, b4⟩
  have B4 := Lib.hid (B3.out.trans (b4.mono B3.out.size))
  have SBb := Lib.hid (SBb.out.below b4 SLb.out); have SLb := Lib.hid SBb.out.lt
  obtain ⟨xb0, xb1, xb2, xb3⟩ := cells_4 SBb.out
  clear b4
  go_wp2_with fail
  refine (HI.out w4 B4.out).mono ?_; rintro e w5 ⟨rfl, b5⟩
  have B5 := Lib.hid (B4.out.trans (b5.mono B4.out.size))
  have SBb := Lib.hid (SBb.out.below b5 SLb.out); have SLb := Lib.hid SBb.out.lt
  obtain ⟨xb0, xb1, xb2, xb3⟩ := cells_4 SBb.out
  clear b5
  go_wp2_with fail
  go_ret
  exact ⟨rfl, B5.out⟩
end Go.Proofs.YthaampckdcimmaaDoor
