/- The law of ReadDescription returns true for every text: the walk of the law. -/
import Derived.Test.YtnbpbidflacoiaaDoorRows
import Derived.Test.YtnbpbidflacoiaaDoorL0
import Derived.Test.YtnbpbidflacoiaaDoorM0
import Derived.WalkKit
import Derived.ProofKit
import Derived.OpenShut
import Derived.BigQuiet
import Derived.Outline
import Derived.WalkSpells
import Derived.WalkLawsBesides
import Derived.Deep.DeepCutAuto
import Derived.Test.YtnbpbidflacoiaaDoorDD2
namespace Go.Proofs.YtnbpbidflacoiaaDoor
open Go.ChangeShapes Go.WideShapes Go.ChangeAt Go.RowKit

set_option maxRecDepth 100000 in
set_option maxHeartbeats 1000000 in
theorem lawRD_any (s : ByteArray) (hs : s.size ≤ 9223372036854775807) (w : World) (hd : Dirs w) (ht : Tab w) (he : Errs w) :
    Calls Tryd.prog 6 #[.string s] w fun e w' => e = .returned (.bool true) ∧ Below w.heap.size w w' := by
  by_cases hbig : (1048576 : Int) < (s.size : Int)
  · go_enter Tryd.func6, Tryd.ntmps6
    go_wp2_with fail
    go_ret
    exact ⟨rfl, Below.refl _ _⟩
  have HS := Lib.hid (specRD_any s (by omega))
  have HI := Lib.hid (fun W (h : Below w.heap.size w W) => implRD_any s (by omega) W (ht.below h) (he.below h) (hd.below h))
  rw [rd_same] at HS
  generalize (rdP s).1 = x at HS HI
  generalize (rdP s).2 = n at HS HI
  have HE := Lib.hid (eqD_same x)
  clear ht he hd
  obtain ⟨xk, xc, xu, xd, xa, xb⟩ := x
  unfold Dsc.val at HS HI HE
  dsimp only at HS HI HE
  have KX := Lib.hid (fun W => dsc_new W 25 #[.int .i64 xk, .int .i64 xc, .string xu, .int .i64 xd, .string xa, .string xb])
  go_enter Tryd.func6, Tryd.ntmps6
  go_wp2_with fail
  refine (HS.out w).mono ?_; rintro e w1 ⟨rfl, b1⟩
  have B1 := Lib.hid b1; clear b1
  go_wp2_with fail
  generalize hX : w1.alloc (.cells #[.int .i64 xk, .int .i64 xc, .string xu, .int .i64 xd, .string xa, .string xb] 25) = W3
  obtain ⟨bx, bxw⟩ := KX.out w1 W3 hX.symm
  clear hX
  have B3 := Lib.hid (B1.out.trans (bxw.mono B1.out.size))
  refine (HI.out W3 B3.out).mono ?_; rintro e w4 ⟨rfl, b4⟩
  have BX4 := Lib.hid (bx.below b4 bx.lt)
  have B4 := Lib.hid (B3.out.trans (b4.mono B3.out.size))
  clear b4 bx bxw
  go_upto_region 5 with (fail)
  generalize hX : w4.alloc (.cells #[.int .i64 xk, .int .i64 xc, .string xu, .int .i64 xd, .string xa, .string xb] 25) = W5
  obtain ⟨bg, bgw⟩ := KX.out w4 W5 hX.symm
  clear hX
  have B5 := Lib.hid (B4.out.trans (bgw.mono B4.out.size))
  obtain ⟨k0, k1, k2, k3, k4, k5⟩ := dsc_cells (BX4.out.below bgw BX4.out.lt)
  obtain ⟨m0, m1, m2, m3, m4, m5⟩ := dsc_cells bg
  clear bg bgw
  go_wp2_with fail
  refine (HE.out W5).mono ?_; rintro e w6 ⟨rfl, b6⟩
  have B6 := Lib.hid (B5.out.trans (b6.mono B5.out.size)); clear b6
  go_wp2_with fail
  go_ret
  exact ⟨rfl, B6.out⟩
end Go.Proofs.YtnbpbidflacoiaaDoor
