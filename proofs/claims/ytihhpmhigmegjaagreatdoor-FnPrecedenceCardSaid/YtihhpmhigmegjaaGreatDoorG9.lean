/- The precedence of entries: what it is; compareEntries of the program, l26Compare of the reference. -/
import Derived.Test.YtihhpmhigmegjaaGreatDoorRows
import Derived.Test.YtihhpmhigmegjaaGreatDoorL0
import Derived.Test.YtihhpmhigmegjaaGreatDoorM0
import Derived.WalkKit
import Derived.ProofKit
import Derived.OpenShut
import Derived.BigQuiet
import Derived.Outline
import Derived.WalkSpells
import Derived.WalkLawsBesides
import Derived.Deep.DeepCutAuto
import Derived.Test.YtihhpmhigmegjaaGreatDoorG5
import Derived.Test.YtihhpmhigmegjaaGreatDoorI2
import Derived.Test.YtihhpmhigmegjaaGreatDoorH0
import Derived.StillTailTactics
namespace Go.Proofs.YtihhpmhigmegjaaGreatDoor
open Go.ChangeShapes Go.WideShapes Go.ChangeAt Go.RowKit Go.Sort

/-- Which of two entries has precedence. -/
def cmpE (a b : Ent) : Int := orI [cmpI a.since b.since, cmpS a.text b.text, cmpI a.x b.x, cmpI a.y b.y]
theorem new_in4 (w : World) (t : TypeId) (a b c d : Int) : Reads (w.alloc (.cells #[.int .i64 a, .int .i64 b, .int .i64 c, .int .i64 d] t)) (w.alloc (.cells #[.int .i64 a, .int .i64 b, .int .i64 c, .int .i64 d] t)).heap.size 1 (some ⟨w.heap.size, 0, none⟩) 4 (inC [a, b, c, d]) :=
  ⟨rfl, fun _ => ⟨w.heap.size, 0, rfl, by simp, fun j u hu => by
    rw [Nat.zero_add, (Blk.new w t #[.int .i64 a, .int .i64 b, .int .i64 c, .int .i64 d]).cell]; simpa [inC] using hu⟩⟩
set_option maxRecDepth 100000 in
set_option maxHeartbeats 1000000 in
theorem implCmpE_any (a b : Ent) (w : World) :
    Calls Tryz.prog 81 #[a.val, b.val] w fun e w' => e = .returned (.int .i64 (cmpE a b)) ∧ Below w.heap.size w w' := by
  have HX := Lib.hid (show cmpE a b = orI [cmpI a.since b.since, cmpS a.text b.text, cmpI a.x b.x, cmpI a.y b.y] from rfl)
  have KN := Lib.hid (blks_two w 45 45 #[.string a.text, .int .i64 a.x, .int .i64 a.y, .int .i64 a.since] #[.string b.text, .int .i64 b.x, .int .i64 b.y, .int .i64 b.since])
  have H1 := Lib.hid (fun W => (compare64_any a.since b.since W).mono fun _ _ h => And.intro h.1 h.2.symm)
  have H2 := Lib.hid (fun W => (compareS_any a.text b.text W).mono fun _ _ h => And.intro h.1 h.2.symm)
  have H3 := Lib.hid (fun W => (compare64_any a.x b.x W).mono fun _ _ h => And.intro h.1 h.2.symm)
  have H4 := Lib.hid (fun W => (compare64_any a.y b.y W).mono fun _ _ h => And.intro h.1 h.2.symm)
  unfold Ent.val
  generalize cmpE a b = r at HX ⊢
  generalize cmpI a.since b.since = q1 at *
  generalize cmpS a.text b.text = q2 at *
  generalize cmpI a.x b.x = q3 at *
  generalize cmpI a.y b.y = q4 at *
  have HO := Lib.hid (fun (W : World) => or_any [q1, q2, q3, q4] (by simp) (some ⟨W.heap.size, 0, none⟩) 4 (W.alloc (.cells #[.int .i64 q1, .int .i64 q2, .int .i64 q3, .int .i64 q4] 3)).drew (new_in4 W _ q1 q2 q3 q4))
  go_enter Tryz.func81, Tryz.ntmps81
  go_upto_region 1 with (fail)
  generalize hW : (w.alloc (.cells #[.string a.text, .int .i64 a.x, .int .i64 a.y, .int .i64 a.since] 45)).alloc (.cells #[.string b.text, .int .i64 b.x, .int .i64 b.y, .int .i64 b.since] 45) = W
  obtain ⟨ka, kb, bw, hsz⟩ := KN.out W hW.symm
  clear hW
  obtain ⟨x0, x1, x2, x3⟩ := cells_4 ka
  obtain ⟨y0, y1, y2, y3⟩ := cells_4 kb
  have C1 := H1.out W.drew
  have C2 := H2.out W.drew
  have C3 := H3.out W.drew
  have C4 := H4.out W.drew
  have BW := Lib.hid bw
  clear ka kb bw hsz
  refine wp_region_still_tail 24 (by kernel_rfl) (by kernel_rfl) ?_
  simp only [List.take_succ_cons, List.take_zero, List.drop_succ_cons, List.drop_zero]
  repeat (first | still_step | still_call (by first | with_reducible exact C1 | with_reducible exact C2 | with_reducible exact C3 | with_reducible exact C4))
  try refine wpStill_nil ?_
  change wpList _ _ _ _ _ (World.drew _)
  clear C1 C2 C3 C4 x0 x1 x2 x3 y0 y1 y2 y3
  go_wp2_with fail
  refine (HO.out W).mono ?_; rintro e w' ⟨rfl, rfl⟩
  go_wp2_with fail
  go_ret
  exact ⟨ret_int HX.out.symm, (BW.out.alloc BW.out.size _).drew⟩
end Go.Proofs.YtihhpmhigmegjaaGreatDoor
