/- The law of ReplacePlaceIn returns true for all descriptions and codes: the walk of the law. -/
import Derived.Test.YtphkfnhmpngjpaaDoorRows
import Derived.Test.YtphkfnhmpngjpaaDoorL0
import Derived.Test.YtphkfnhmpngjpaaDoorM0
import Derived.WalkKit
import Derived.ProofKit
import Derived.OpenShut
import Derived.BigQuiet
import Derived.Outline
import Derived.WalkSpells
import Derived.WalkLawsBesides
import Derived.Deep.DeepCutAuto
import Derived.Test.YtphkfnhmpngjpaaDoorQG
import Derived.Lib.Hide
namespace Go.Proofs.YtphkfnhmpngjpaaDoor
open Go.ChangeShapes Go.WideShapes Go.ChangeAt Go.RowKit

set_option maxRecDepth 100000 in
set_option maxHeartbeats 1000000 in
theorem lawRep_any (d : Dsc) (hd : d.Ok) (old : ByteArray) (hold : old.size ≤ 9223372036854775807) (code : ByteArray) (hcode : code.size ≤ 9223372036854775807) (w : World) (hdir : Dirs w) :
    Calls Tryd.prog 9 #[d.val, .string old, .string code] w fun e w' => e = .returned (.bool true) ∧ Below w.heap.size w w' := by
  have HZ := Lib.hid (szD_any d hd)
  have HT := Lib.hid (toD_any d)
  have HS := Lib.hid (specRep_any d hd old hold code hcode)
  have HI := Lib.hid (fun W (h : Below w.heap.size w W) => implRep_any d hd old hold code hcode W (hdir.below h))
  generalize (repV d old code).2 = n at HS HI
  generalize (repV d old code).1 = x at HS HI
  have HE := Lib.hid (eqD_same x)
  obtain ⟨xk, xc, xu, xd, xa, xb⟩ := x
  generalize szD d = z at HZ
  obtain ⟨kind, count, unit, dir, a, b⟩ := d
  unfold Dsc.val at HZ HT HS HI HE ⊢
  dsimp only at HZ HT HS HI HE ⊢
  have KN := Lib.hid (dsc_new w 23 #[.int .i64 kind, .int .i64 count, .string unit, .int .i64 dir, .string a, .string b])
  by_cases zold : 1048576 < old.size
  · go_enter Tryd.func9, Tryd.ntmps9
    go_wp2_with fail
    go_ret
    exact ⟨rfl, by (repeat (first | exact Below.refl _ _ | assumption | refine Below.drew ?_ | refine below_drewN' ?_ _ | refine Below.alloc ?_ (by (try simp); (try omega)) _ | refine Below.setCell ?_ (by (try simp); (try omega)) _))⟩
  by_cases zcode : 1048576 < code.size
  · go_enter Tryd.func9, Tryd.ntmps9
    go_wp2_with fail
    go_ret
    exact ⟨rfl, by (repeat (first | exact Below.refl _ _ | assumption | refine Below.drew ?_ | refine below_drewN' ?_ _ | refine Below.alloc ?_ (by (try simp); (try omega)) _ | refine Below.setCell ?_ (by (try simp); (try omega)) _))⟩
  by_cases hz : z < 0
  · go_enter Tryd.func9, Tryd.ntmps9
    go_wp2_with fail
    generalize hW : w.alloc (.cells #[.int .i64 kind, .int .i64 count, .string unit, .int .i64 dir, .string a, .string b] 23) = W
    obtain ⟨bk, bw⟩ := KN.out W hW.symm
    clear hW
    refine (HZ.out W).mono ?_; rintro e w1 ⟨rfl, b1⟩
    have BK := Lib.hid bk
    have BL := Lib.hid bk.lt
    have B1 := Lib.hid b1
    have BW := Lib.hid bw
    clear bk b1 bw
    obtain ⟨k0, k1, k2, k3, k4, k5⟩ := dsc_cells (BK.out.below B1.out BL.out)
    go_wp2_with fail
    go_ret
    exact ⟨rfl, BW.out.trans (B1.out.mono BW.out.size)⟩
  go_enter Tryd.func9, Tryd.ntmps9
  go_wp2_with fail
  generalize hW : w.alloc (.cells #[.int .i64 kind, .int .i64 count, .string unit, .int .i64 dir, .string a, .string b] 23) = W
  obtain ⟨bk, bw⟩ := KN.out W hW.symm
  clear hW
  refine (HZ.out W).mono ?_; rintro e w1 ⟨rfl, b1⟩
  have BK := Lib.hid bk
  have BL := Lib.hid bk.lt
  have B1 := Lib.hid b1
  have BW := Lib.hid bw
  clear bk b1 bw
  obtain ⟨k0, k1, k2, k3, k4, k5⟩ := dsc_cells (BK.out.below B1.out BL.out)
  go_wp2_with fail
  refine (HT.out w1).mono ?_; rintro e w2 ⟨rfl, b2⟩
  have B2 := Lib.hid (B1.out.trans (b2.mono B1.out.size)); clear b2
  obtain ⟨k0, k1, k2, k3, k4, k5⟩ := dsc_cells (BK.out.below B2.out BL.out)
  go_wp2_with fail
  refine (HS.out w2).mono ?_; rintro e w3 ⟨rfl, b3⟩
  have B3 := Lib.hid (B2.out.trans (b3.mono B2.out.size)); clear b3
  obtain ⟨k0, k1, k2, k3, k4, k5⟩ := dsc_cells (BK.out.below B3.out BL.out)
  have z3 : w.heap.size < w3.heap.size := Nat.lt_of_lt_of_le BL.out B3.out.size
  have KX := Lib.hid (dsc_new w3 26 #[.int .i64 xk, .int .i64 xc, .string xu, .int .i64 xd, .string xa, .string xb])
  go_wp2_with fail
  generalize hX : w3.alloc (.cells #[.int .i64 xk, .int .i64 xc, .string xu, .int .i64 xd, .string xa, .string xb] 26) = X3
  obtain ⟨bx, bxw⟩ := KX.out X3 hX.symm
  have BX3 := Lib.hid bx; have LX3 := Lib.hid bx.lt
  replace B3 := Lib.hid (B3.out.trans (bxw.mono B3.out.size))
  clear hX bx bxw k0 k1 k2 k3 k4 k5
  refine (HT.out X3).mono ?_; rintro e w4 ⟨rfl, b4⟩
  have B4 := Lib.hid (B3.out.trans (b4.mono B3.out.size)); have BX4 := Lib.hid (BX3.out.below b4 LX3.out); clear b4
  go_wp2_with fail
  have BB4 := Lib.hid (BW.out.trans (B4.out.mono BW.out.size))
  refine (HI.out w4 BB4.out).mono ?_; rintro e w5 ⟨rfl, b5⟩
  have B5 := Lib.hid (B4.out.trans (b5.mono B4.out.size)); have BX5 := Lib.hid (BX4.out.below b5 BX4.out.lt); clear b5
  obtain ⟨k0, k1, k2, k3, k4, k5⟩ := dsc_cells BX5.out
  have z5 := BX5.out.lt
  go_wp2_with fail
  have bxx : Below W.heap.size W (w5.alloc (.cells #[.int .i64 xk, .int .i64 xc, .string xu, .int .i64 xd, .string xa, .string xb] 26)) := B5.out.alloc B5.out.size _
  replace B5 := Lib.hid bxx; clear bxx
  refine (HE.out _).mono ?_; rintro e w6 ⟨rfl, b6⟩
  have B6 := Lib.hid (B5.out.trans (b6.mono B5.out.size)); clear b6
  go_wp2_with fail
  go_ret
  exact ⟨rfl, BW.out.trans (B6.out.mono BW.out.size)⟩
end Go.Proofs.YtphkfnhmpngjpaaDoor
