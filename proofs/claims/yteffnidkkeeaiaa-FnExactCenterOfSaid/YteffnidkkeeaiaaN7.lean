/- The law's copy and comparison of a mask, and the law of CenterOf. -/
import Derived.Test.YteffnidkkeeaiaaRows
import Derived.Test.YteffnidkkeeaiaaL0
import Derived.Test.YteffnidkkeeaiaaM0
import Derived.WalkKit
import Derived.ProofKit
import Derived.OpenShut
import Derived.BigQuiet
import Derived.Outline
import Derived.WalkSpells
import Derived.WalkLawsBesides
import Derived.Deep.DeepCutAuto
import Derived.Test.YteffnidkkeeaiaaN6
namespace Go.Proofs.Yteffnidkkeeaiaa
open Go.ChangeShapes Go.WideShapes Go.ChangeAt Go.RowKit Go.Sort

set_option maxRecDepth 100000 in
set_option maxHeartbeats 4000000 in
theorem toMask_any (x y W H : Int) (xs : List Bool) (A : Option Addr) (c : Nat) (w : World) (hr : Reads w w.heap.size 1 A xs.length (bC xs)) (hm : xs.length ≤ 1048576) :
    Calls Try.prog 15 #[maskV x y W H A xs.length c] w fun e w' => ∃ g : Nat, e = .returned (maskV x y W H (some ⟨g, 0, none⟩) xs.length xs.length) ∧ Blk w' g 4 (bC xs).toArray ∧ Below w.heap.size w w' := by
  unfold maskV
  have HR := Lib.hid hr; clear hr
  go_enter Try.func15, Try.ntmps15
  go_wp2_with (go_at_call 54; refine (toPoint_any _ _ _).mono ?_; rintro e w1 ⟨rfl, b1⟩; obtain ⟨q1, q2⟩ := bcell b1; have z1 := b1.size; simp at z1)
  have y0 : w.heap.size < w1.heap.size := by omega
  have y1 : w.heap.size + 1 < w1.heap.size := by omega
  have y2 : w.heap.size + 1 + 1 < w1.heap.size := by omega
  have hb1 : Below w.heap.size w w1 := ((((Below.refl _ _).alloc (Nat.le_refl _) _).alloc (by simp) _).alloc (by simp; omega) _).trans (b1.mono (by simp; omega))
  clear b1
  have hb3 : Below w.heap.size w ((((w1.setCell ⟨w.heap.size + 1 + 1, 0, none⟩ (.int .i64 x)).setCell ⟨w.heap.size + 1 + 1, 1, none⟩ (.int .i64 y)).setCell ⟨w.heap.size + 1 + 1, 2, none⟩ (.int .i64 W)).setCell ⟨w.heap.size + 1 + 1, 3, none⟩ (.int .i64 H)) := by
    refine (((hb1.setCell ?_ _).setCell ?_ _).setCell ?_ _).setCell ?_ _ <;> (simp; try omega)
  refine (toBoolS_any xs A c _ ((HR.out.below hb3).more hb3.size) hm).mono ?_
  rintro e w5 ⟨rfl, h5, b5⟩
  obtain ⟨q3, q4⟩ := bcell b5
  have hb5 := hb3.trans (b5.mono hb3.size)
  clear b5 hb3 hb1
  simp only [World.size_setCell] at h5 hb5 q3 q4 ⊢
  have H5 := Lib.hid h5; clear h5
  have HB5 := Lib.hid hb5; clear hb5
  go_wp2_with fail
  refine bodyPost_ret (v := .agg #[.int .i64 x, .int .i64 y, .int .i64 W, .int .i64 H, .slice (some ⟨w1.heap.size, 0, none⟩) xs.length xs.length]) (by simp [results, Try.results15, go_sem, *]) rfl ⟨w1.heap.size, rfl, ?_, ?_⟩
  · exact (((((H5.out.far (by simp; omega) _).far (by simp; omega) _).far (by simp; omega) _).far (by simp; omega) _).far (by simp; omega) _).far (by simp; omega) _
  · exact (((((HB5.out.setCell (by simp; omega) _).setCell (by simp) _).setCell (by simp) _).setCell (by simp) _).setCell (by simp) _).setCell (by simp) _

set_option maxRecDepth 100000 in
set_option maxHeartbeats 4000000 in
theorem eqMask_same (x y W H : Int) (xs : List Bool) (A A' : Option Addr) (c c' : Nat) (w : World) (hr : Reads w w.heap.size 1 A xs.length (bC xs)) (hr' : Reads w w.heap.size 1 A' xs.length (bC xs)) (hm : xs.length ≤ 9223372036854775807) :
    Calls Try.prog 18 #[maskV x y W H A xs.length c, maskV x y W H A' xs.length c'] w fun e w' => e = .returned (.bool true) ∧ Below w.heap.size w w' := by
  unfold maskV
  have RR : ∀ W, Below w.heap.size w W → Reads W W.heap.size 1 A xs.length (bC xs) := fun W hb => (hr.below hb).more hb.size
  have RR' : ∀ W, Below w.heap.size w W → Reads W W.heap.size 1 A' xs.length (bC xs) := fun W hb => (hr'.below hb).more hb.size
  have HR := Lib.hid RR; have HR' := Lib.hid RR'; clear hr hr' RR RR'
  go_enter Try.func18, Try.ntmps18
  go_wp2_with (go_at_call 17; refine (eqPoint_same _ _ _).mono ?_; rintro e w1 ⟨rfl, b1⟩; have BW := Lib.hid b1; obtain ⟨q1, q2⟩ := bcell b1; have z1 := b1.size; simp at z1; clear b1)
  have hb1 : Below w.heap.size w w1 := (((Below.refl _ _).alloc (Nat.le_refl _) _).alloc (by simp) _).trans (BW.out.mono (by simp; omega))
  refine (eqBoolS_same xs xs.length rfl _ _ _ _ _ (HR.out _ hb1) (HR'.out _ hb1) hm).mono ?_
  rintro e w2 ⟨rfl, b2⟩
  have HB := Lib.hid (hb1.trans (b2.mono hb1.size)); clear b2
  go_wp2_with fail
  go_ret
  exact ⟨rfl, HB.out⟩

set_option maxRecDepth 100000 in
set_option maxHeartbeats 4000000 in
theorem lawCenter_big (x y W H : Int) (A : Option Addr) (n c : Nat) (w : World) (h : 1048576 < n) (hn : n ≤ 9223372036854775807) :
    Calls Try.prog 3 #[maskV x y W H A n c] w fun e w' => e = .returned (.bool true) ∧ Below w.heap.size w w' := by
  have SZ := fun W1 => szM_big x y W H A n c hn h W1
  unfold maskV at SZ ⊢
  go_enter Try.func3, Try.ntmps3
  go_wp2_with (go_at_call 13; refine (SZ _).mono ?_; rintro e w1 ⟨rfl, b1⟩; have BW := Lib.hid b1; clear b1)
  go_ret
  exact ⟨rfl, ((Below.refl _ _).alloc (Nat.le_refl _) _).trans (BW.out.mono (by simp))⟩
theorem specCenter (x y W H : Int) (A : Option Addr) (c : Nat) (cs : List Bool) (hn : cs.length ≤ 9223372036854775807) (w : World) (hr : Reads w w.heap.size 1 A cs.length (bC cs)) :
    Calls Try.prog 14 #[maskV x y W H A cs.length c] w fun e w' => e = .returned (cenVal (cenP x y W H cs)) ∧ Below w.heap.size w w' := by
  cases hm : maskB x y W H cs.length
  · rw [cenP, hm]; exact specCenter_no x y W H A c cs.length hn hm w
  · exact specCenter_yes x y W H A c cs hm w hr
theorem implCenter (x y W H : Int) (A : Option Addr) (c : Nat) (cs : List Bool) (hn : cs.length ≤ 9223372036854775807) (w : World) (hr : Reads w w.heap.size 1 A cs.length (bC cs)) :
    Calls Try.prog 16 #[maskV x y W H A cs.length c] w fun e w' => e = .returned (cenVal (cenP x y W H cs)) ∧ Below w.heap.size w w' := by
  cases hm : maskB x y W H cs.length
  · rw [cenP, hm]; exact implCenter_no x y W H A c cs.length hn hm w
  · exact implCenter_yes x y W H A c cs hm w hr
end Go.Proofs.Yteffnidkkeeaiaa
