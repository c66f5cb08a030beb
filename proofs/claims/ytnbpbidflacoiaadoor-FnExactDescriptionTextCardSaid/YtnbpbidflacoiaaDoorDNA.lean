/- The law of DescriptionText returns true for all descriptions: the walk of the law. -/
import Derived.Test.YtnbpbidflacoiaaDoorRows
import Derived.Test.YtnbpbidflacoiaaDoorL0
import Derived.Test.YtnbpbidflacoiaaDoorM0
import Derived.WalkKit
import Derived.ProofKit
import Derived.OpenShut
import Derived.BigQuiet
import Derived.Outline
import Derived.WalkSpells
import Derived.WalkLawsBesides
import Derived.Deep.DeepCutAuto
import Derived.Test.YtnbpbidflacoiaaDoorDN9
import Derived.Lib.Hide
namespace Go.Proofs.YtnbpbidflacoiaaDoor
open Go.ChangeShapes Go.WideShapes Go.ChangeAt Go.RowKit

set_option maxRecDepth 100000 in
set_option maxHeartbeats 1000000 in
theorem lawDT_any (d : Dsc) (hd : d.Ok) (w : World) (hdir : Dirs w) (ht : Tab w) :
    Calls Tryd.prog 4 #[d.val] w fun e w' => e = .returned (.bool true) ∧ Below w.heap.size w w' := by
  have HZ := Lib.hid (szD_any d hd)
  have HT := Lib.hid (toD_any d)
  have HS := Lib.hid (specDT_any d hd)
  have HI := Lib.hid (fun W (h : Below w.heap.size w W) => implDT_any d hd W (ht.below h) (hdir.below h))
  generalize (dtV d).1 = r1 at HS HI
  generalize (dtV d).2 = r2 at HS HI
  generalize szD d = z at HZ
  obtain ⟨kind, count, unit, dir, a, b⟩ := d
  unfold Dsc.val at HZ HT HS HI ⊢
  dsimp only at HZ HT HS HI ⊢
  have KN := Lib.hid (dsc_new w 43 #[.int .i64 kind, .int .i64 count, .string unit, .int .i64 dir, .string a, .string b])
  by_cases hz : z < 0
  · go_enter Tryd.func4, Tryd.ntmps4
    go_wp2_with fail
    generalize hW : w.alloc (.cells #[.int .i64 kind, .int .i64 count, .string unit, .int .i64 dir, .string a, .string b] 43) = W
    obtain ⟨bk, bw⟩ := KN.out W hW.symm
    clear hW
    refine (HZ.out W).mono ?_; rintro e w1 ⟨rfl, b1⟩
    have BK := Lib.hid bk
    have BL := Lib.hid bk.lt
    have B1 := Lib.hid b1
    have BW := Lib.hid bw
    clear bk b1 bw
    obtain ⟨k0, k1, k2, k3, k4, k5⟩ := dsc_cells (BK.out.below B1.out BL.out)
    go_wp2_with fail
    go_ret
    exact ⟨rfl, BW.out.trans (B1.out.mono BW.out.size)⟩
  go_enter Tryd.func4, Tryd.ntmps4
  go_wp2_with fail
  generalize hW : w.alloc (.cells #[.int .i64 kind, .int .i64 count, .string unit, .int .i64 dir, .string a, .string b] 43) = W
  obtain ⟨bk, bw⟩ := KN.out W hW.symm
  clear hW
  refine (HZ.out W).mono ?_; rintro e w1 ⟨rfl, b1⟩
  have BK := Lib.hid bk
  have BL := Lib.hid bk.lt
  have B1 := Lib.hid b1
  have BW := Lib.hid bw
  clear bk b1 bw
  obtain ⟨k0, k1, k2, k3, k4, k5⟩ := dsc_cells (BK.out.below B1.out BL.out)
  go_wp2_with fail
  refine (HT.out w1).mono ?_; rintro e w2 ⟨rfl, b2⟩
  have B2 := Lib.hid (B1.out.trans (b2.mono B1.out.size)); clear b2
  obtain ⟨k0, k1, k2, k3, k4, k5⟩ := dsc_cells (BK.out.below B2.out BL.out)
  go_wp2_with fail
  refine (HS.out w2).mono ?_; rintro e w3 ⟨rfl, b3⟩
  have B3 := Lib.hid (B2.out.trans (b3.mono B2.out.size)); clear b3
  obtain ⟨k0, k1, k2, k3, k4, k5⟩ := dsc_cells (BK.out.below B3.out BL.out)
  go_wp2_with fail
  refine (HT.out w3).mono ?_; rintro e w4 ⟨rfl, b4⟩
  have B4 := Lib.hid (B3.out.trans (b4.mono B3.out.size)); clear b4
  obtain ⟨k0, k1, k2, k3, k4, k5⟩ := dsc_cells (BK.out.below B4.out BL.out)
  go_wp2_with fail
  have BB4 := Lib.hid (BW.out.trans (B4.out.mono BW.out.size))
  refine (HI.out w4 BB4.out).mono ?_; rintro e w5 ⟨rfl, b5⟩
  have B5 := Lib.hid (B4.out.trans (b5.mono B4.out.size)); clear b5
  obtain ⟨k0, k1, k2, k3, k4, k5⟩ := dsc_cells (BK.out.below B5.out BL.out)
  go_wp2_with fail
  go_ret
  exact ⟨rfl, BW.out.trans (B5.out.mono BW.out.size)⟩
end Go.Proofs.YtnbpbidflacoiaaDoor
