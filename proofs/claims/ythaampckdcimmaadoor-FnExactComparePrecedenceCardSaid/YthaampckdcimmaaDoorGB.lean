/- The law of ComparePrecedence returns true for all arguments: the walk of the law. -/
import Derived.Test.YthaampckdcimmaaDoorRows
import Derived.Test.YthaampckdcimmaaDoorL0
import Derived.Test.YthaampckdcimmaaDoorM0
import Derived.WalkKit
import Derived.ProofKit
import Derived.OpenShut
import Derived.BigQuiet
import Derived.Outline
import Derived.WalkSpells
import Derived.WalkLawsBesides
import Derived.Deep.DeepCutAuto
import Derived.Test.YthaampckdcimmaaDoorGA
import Derived.Lib.QuietBelow
import Derived.Deep.QuietTactic
import Derived.Lib.Hide
namespace Go.Proofs.YthaampckdcimmaaDoor
open Go.ChangeShapes Go.WideShapes Go.ChangeAt Go.RowKit Go.Sort

set_option maxRecDepth 100000 in
set_option maxHeartbeats 4000000 in
theorem lawCpr_any (a : Ent) (ha : a.Ok) (b : Ent) (hb : b.Ok) (w : World) :
    Calls Tryd.prog 6 #[.agg #[.string a.text, .int .i64 a.x, .int .i64 a.y, .int .i64 a.since], .agg #[.string b.text, .int .i64 b.x, .int .i64 b.y, .int .i64 b.since]] w fun e w' => e = .returned (.bool true) ∧ Below w.heap.size w w' := by
  have HZ0 := Lib.hid (szEnt_any a ha (1048576) (by omega) (by omega))
  unfold Ent.val at HZ0
  rcases (show szEnt (1048576) a < 0 ∨ ¬ szEnt (1048576) a < 0 by omega) with hz0 | hz0
  · have hz := hz0
    generalize szEnt (1048576) a = z0 at *
    have KN := Lib.hid (blks_two w 25 25 #[.string a.text, .int .i64 a.x, .int .i64 a.y, .int .i64 a.since] #[.string b.text, .int .i64 b.x, .int .i64 b.y, .int .i64 b.since])
    go_enter Tryd.func6, Tryd.ntmps6
    go_wp2_with fail
    generalize hW : ((w.alloc (.cells #[.string a.text, .int .i64 a.x, .int .i64 a.y, .int .i64 a.since] 25)).alloc (.cells #[.string b.text, .int .i64 b.x, .int .i64 b.y, .int .i64 b.since] 25)) = w0
    obtain ⟨ka, kb, bw, _⟩ := KN.out w0 hW.symm
    clear hW
    have SBa := Lib.hid ka; have SLa := Lib.hid ka.lt; clear ka
    have SBb := Lib.hid kb; have SLb := Lib.hid kb.lt; clear kb
    have B0 := Lib.hid bw; clear bw
    refine (HZ0.out w0).mono ?_; rintro e w1 ⟨rfl, b1⟩
    have B1 := Lib.hid (B0.out.trans (b1.mono B0.out.size))
    have SBa := Lib.hid (SBa.out.below b1 SLa.out); have SLa := Lib.hid SBa.out.lt
    have SBb := Lib.hid (SBb.out.below b1 SLb.out); have SLb := Lib.hid SBb.out.lt
    obtain ⟨xa0, xa1, xa2, xa3⟩ := cells_4 SBa.out
    obtain ⟨xb0, xb1, xb2, xb3⟩ := cells_4 SBb.out
    clear b1
    go_wp2_with fail
    go_ret
    exact ⟨rfl, B1.out⟩
  have q0 := szEnt_pos (left := 1048576) (b := a) (by omega)
  have HZ1 := Lib.hid (szEnt_any b hb (szEnt (1048576) a) (by omega) (by omega))
  unfold Ent.val at HZ1
  rcases (show szEnt (szEnt (1048576) a) b < 0 ∨ ¬ szEnt (szEnt (1048576) a) b < 0 by omega) with hz1 | hz1
  · have hz := hz1
    generalize szEnt (szEnt (1048576) a) b = z1 at *
    generalize szEnt (1048576) a = z0 at *
    have KN := Lib.hid (blks_two w 25 25 #[.string a.text, .int .i64 a.x, .int .i64 a.y, .int .i64 a.since] #[.string b.text, .int .i64 b.x, .int .i64 b.y, .int .i64 b.since])
    go_enter Tryd.func6, Tryd.ntmps6
    go_wp2_with fail
    generalize hW : ((w.alloc (.cells #[.string a.text, .int .i64 a.x, .int .i64 a.y, .int .i64 a.since] 25)).alloc (.cells #[.string b.text, .int .i64 b.x, .int .i64 b.y, .int .i64 b.since] 25)) = w0
    obtain ⟨ka, kb, bw, _⟩ := KN.out w0 hW.symm
    clear hW
    have SBa := Lib.hid ka; have SLa := Lib.hid ka.lt; clear ka
    have SBb := Lib.hid kb; have SLb := Lib.hid kb.lt; clear kb
    have B0 := Lib.hid bw; clear bw
    refine (HZ0.out w0).mono ?_; rintro e w1 ⟨rfl, b1⟩
    have B1 := Lib.hid (B0.out.trans (b1.mono B0.out.size))
    have SBa := Lib.hid (SBa.out.below b1 SLa.out); have SLa := Lib.hid SBa.out.lt
    have SBb := Lib.hid (SBb.out.below b1 SLb.out); have SLb := Lib.hid SBb.out.lt
    obtain ⟨xa0, xa1, xa2, xa3⟩ := cells_4 SBa.out
    obtain ⟨xb0, xb1, xb2, xb3⟩ := cells_4 SBb.out
    clear b1
    go_wp2_with fail
    refine (HZ1.out w1).mono ?_; rintro e w2 ⟨rfl, b2⟩
    have B2 := Lib.hid (B1.out.trans (b2.mono B1.out.size))
    have SBa := Lib.hid (SBa.out.below b2 SLa.out); have SLa := Lib.hid SBa.out.lt
    have SBb := Lib.hid (SBb.out.below b2 SLb.out); have SLb := Lib.hid SBb.out.lt
    obtain ⟨xa0, xa1, xa2, xa3⟩ := cells_4 SBa.out
    obtain ⟨xb0, xb1, xb2, xb3⟩ := cells_4 SBb.out
    clear b2
    go_wp2_with fail
    go_ret
    exact ⟨rfl, B2.out⟩
  have q1 := szEnt_pos (left := szEnt (1048576) a) (b := b) (by omega)
  obtain ⟨va, vc, hres⟩ : ∃ va vc, Value.tuple #[.int .i64 (cprT a b).1, .int .i64 (cprT a b).2] = .tuple #[.int .i64 va, .int .i64 vc] := ⟨_, _, rfl⟩
  have HS := Lib.hid (show ∀ W, Below w.heap.size w W → Calls Tryd.prog 23 #[.agg #[.string a.text, .int .i64 a.x, .int .i64 a.y, .int .i64 a.since], .agg #[.string b.text, .int .i64 b.x, .int .i64 b.y, .int .i64 b.since]] W fun e w' => e = .returned (.tuple #[.int .i64 va, .int .i64 vc]) ∧ Below W.heap.size W w' from fun W hb => by
    rw [← hres]; exact specCpr_any a b (by omega) (by omega) W)
  have HI := Lib.hid (show ∀ W, Below w.heap.size w W → Calls Tryd.prog 24 #[.agg #[.string a.text, .int .i64 a.x, .int .i64 a.y, .int .i64 a.since], .agg #[.string b.text, .int .i64 b.x, .int .i64 b.y, .int .i64 b.since]] W fun e w' => e = .returned (.tuple #[.int .i64 va, .int .i64 vc]) ∧ Below W.heap.size W w' from fun W hb => by
    rw [← hres]; exact implCpr_any a b (by omega) (by omega) W)
  clear hres
  have HTa := Lib.hid (toEnt_any a)
  unfold Ent.val at HTa
  have HTb := Lib.hid (toEnt_any b)
  unfold Ent.val at HTb
  generalize szEnt (szEnt (1048576) a) b = z1 at *
  generalize szEnt (1048576) a = z0 at *
  have KN := Lib.hid (blks_two w 25 25 #[.string a.text, .int .i64 a.x, .int .i64 a.y, .int .i64 a.since] #[.string b.text, .int .i64 b.x, .int .i64 b.y, .int .i64 b.since])
  go_enter Tryd.func6, Tryd.ntmps6
  go_wp2_with fail
  generalize hW : ((w.alloc (.cells #[.string a.text, .int .i64 a.x, .int .i64 a.y, .int .i64 a.since] 25)).alloc (.cells #[.string b.text, .int .i64 b.x, .int .i64 b.y, .int .i64 b.since] 25)) = w0
  obtain ⟨ka, kb, bw, _⟩ := KN.out w0 hW.symm
  clear hW
  have SBa := Lib.hid ka; have SLa := Lib.hid ka.lt; clear ka
  have SBb := Lib.hid kb; have SLb := Lib.hid kb.lt; clear kb
  have B0 := Lib.hid bw; clear bw
  refine (HZ0.out w0).mono ?_; rintro e w1 ⟨rfl, b1⟩
  have B1 := Lib.hid (B0.out.trans (b1.mono B0.out.size))
  have SBa := Lib.hid (SBa.out.below b1 SLa.out); have SLa := Lib.hid SBa.out.lt
  have SBb := Lib.hid (SBb.out.below b1 SLb.out); have SLb := Lib.hid SBb.out.lt
  obtain ⟨xa0, xa1, xa2, xa3⟩ := cells_4 SBa.out
  obtain ⟨xb0, xb1, xb2, xb3⟩ := cells_4 SBb.out
  clear b1
  go_wp2_with fail
  refine (HZ1.out w1).mono ?_; rintro e w2 ⟨rfl, b2⟩
  have B2 := Lib.hid (B1.out.trans (b2.mono B1.out.size))
  have SBa := Lib.hid (SBa.out.below b2 SLa.out); have SLa := Lib.hid SBa.out.lt
  have SBb := Lib.hid (SBb.out.below b2 SLb.out); have SLb := Lib.hid SBb.out.lt
  obtain ⟨xa0, xa1, xa2, xa3⟩ := cells_4 SBa.out
  obtain ⟨xb0, xb1, xb2, xb3⟩ := cells_4 SBb.out
  clear b2
  go_upto_region 8 with (fail)
  have ga0 := cell_regrown xa0
  have ga1 := cell_regrown xa1
  have ga2 := cell_regrown xa2
  have ga3 := cell_regrown xa3
  have r1 : ∀ d os, Calls Tryd.prog 14 #[.agg #[.string a.text, .int .i64 a.x, .int .i64 a.y, .int .i64 a.since]] (grow (redrawn w2 d) os) (fun e w'' => e = .returned (.agg #[.string a.text, .int .i64 a.x, .int .i64 a.y, .int .i64 a.since]) ∧ ∃ p : Regrown, w'' = grow (redrawn w2 p.d) p.os) := fun d os => Calls.regrown_of (HTa.out _)
  have gb0 := cell_regrown xb0
  have gb1 := cell_regrown xb1
  have gb2 := cell_regrown xb2
  have gb3 := cell_regrown xb3
  have r2 : ∀ d os, Calls Tryd.prog 14 #[.agg #[.string b.text, .int .i64 b.x, .int .i64 b.y, .int .i64 b.since]] (grow (redrawn w2 d) os) (fun e w'' => e = .returned (.agg #[.string b.text, .int .i64 b.x, .int .i64 b.y, .int .i64 b.since]) ∧ ∃ p : Regrown, w'' = grow (redrawn w2 p.d) p.os) := fun d os => Calls.regrown_of (HTb.out _)
  have r3 : ∀ d os, Calls Tryd.prog 23 #[.agg #[.string a.text, .int .i64 a.x, .int .i64 a.y, .int .i64 a.since], .agg #[.string b.text, .int .i64 b.x, .int .i64 b.y, .int .i64 b.since]] (grow (redrawn w2 d) os) (fun e w'' => e = .returned (.tuple #[.int .i64 va, .int .i64 vc]) ∧ ∃ p : Regrown, w'' = grow (redrawn w2 p.d) p.os) := fun d os => Calls.regrown_of (HS.out _ (B2.out.trans ((below_regrown w2 d os).mono B2.out.size)))
  clear xa0 xa1 xa2 xa3 xb0 xb1 xb2 xb3
  refine wp_region_quiet_below (by kernel_rfl) (by kernel_rfl) ?_; (repeat (first | go_big_quiet_step ((first | with_reducible exact r1 _ _ | with_reducible exact r2 _ _ | with_reducible exact r3 _ _)))); refine wpQuiet_nil ?_; intro _ hw'; obtain ⟨⟨dq, osq⟩, rfl⟩ := hw'
  have b3 := below_regrown w2 dq osq
  generalize grow (redrawn w2 dq) osq = w3 at *
  clear r1 r2 r3 ga0 ga1 ga2 ga3 gb0 gb1 gb2 gb3
  have B3 := Lib.hid (B2.out.trans (b3.mono B2.out.size))
  have SBa := Lib.hid (SBa.out.below b3 SLa.out); have SLa := Lib.hid SBa.out.lt
  have SBb := Lib.hid (SBb.out.below b3 SLb.out); have SLb := Lib.hid SBb.out.lt
  obtain ⟨xa0, xa1, xa2, xa3⟩ := cells_4 SBa.out
  obtain ⟨xb0, xb1, xb2, xb3⟩ := cells_4 SBb.out
  clear b3
  go_upto_region 9 with (fail)
  have ga0 := cell_regrown xa0
  have ga1 := cell_regrown xa1
  have ga2 := cell_regrown xa2
  have ga3 := cell_regrown xa3
  have r1 : ∀ d os, Calls Tryd.prog 14 #[.agg #[.string a.text, .int .i64 a.x, .int .i64 a.y, .int .i64 a.since]] (grow (redrawn w3 d) os) (fun e w'' => e = .returned (.agg #[.string a.text, .int .i64 a.x, .int .i64 a.y, .int .i64 a.since]) ∧ ∃ p : Regrown, w'' = grow (redrawn w3 p.d) p.os) := fun d os => Calls.regrown_of (HTa.out _)
  have gb0 := cell_regrown xb0
  have gb1 := cell_regrown xb1
  have gb2 := cell_regrown xb2
  have gb3 := cell_regrown xb3
  have r2 : ∀ d os, Calls Tryd.prog 14 #[.agg #[.string b.text, .int .i64 b.x, .int .i64 b.y, .int .i64 b.since]] (grow (redrawn w3 d) os) (fun e w'' => e = .returned (.agg #[.string b.text, .int .i64 b.x, .int .i64 b.y, .int .i64 b.since]) ∧ ∃ p : Regrown, w'' = grow (redrawn w3 p.d) p.os) := fun d os => Calls.regrown_of (HTb.out _)
  have r3 : ∀ d os, Calls Tryd.prog 24 #[.agg #[.string a.text, .int .i64 a.x, .int .i64 a.y, .int .i64 a.since], .agg #[.string b.text, .int .i64 b.x, .int .i64 b.y, .int .i64 b.since]] (grow (redrawn w3 d) os) (fun e w'' => e = .returned (.tuple #[.int .i64 va, .int .i64 vc]) ∧ ∃ p : Regrown, w'' = grow (redrawn w3 p.d) p.os) := fun d os => Calls.regrown_of (HI.out _ (B3.out.trans ((below_regrown w3 d os).mono B3.out.size)))
  clear xa0 xa1 xa2 xa3 xb0 xb1 xb2 xb3
  refine wp_region_quiet_below (by kernel_rfl) (by kernel_rfl) ?_; (repeat (first | go_big_quiet_step ((first | with_reducible exact r1 _ _ | with_reducible exact r2 _ _ | with_reducible exact r3 _ _)))); refine wpQuiet_nil ?_; intro _ hw'; obtain ⟨⟨dq, osq⟩, rfl⟩ := hw'
  have b4 := below_regrown w3 dq osq
  generalize grow (redrawn w3 dq) osq = w4 at *
  clear r1 r2 r3 ga0 ga1 ga2 ga3 gb0 gb1 gb2 gb3
  have B4 := Lib.hid (B3.out.trans (b4.mono B3.out.size))
  have SBa := Lib.hid (SBa.out.below b4 SLa.out); have SLa := Lib.hid SBa.out.lt
  have SBb := Lib.hid (SBb.out.below b4 SLb.out); have SLb := Lib.hid SBb.out.lt
  obtain ⟨xa0, xa1, xa2, xa3⟩ := cells_4 SBa.out
  obtain ⟨xb0, xb1, xb2, xb3⟩ := cells_4 SBb.out
  clear b4
  go_wp2_with fail
  go_ret
  exact ⟨rfl, B4.out⟩
end Go.Proofs.YthaampckdcimmaaDoor
