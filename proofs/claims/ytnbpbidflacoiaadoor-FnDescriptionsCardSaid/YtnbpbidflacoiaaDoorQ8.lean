/- Opposite of both. -/
import Derived.Test.YtnbpbidflacoiaaDoorRows
import Derived.Test.YtnbpbidflacoiaaDoorL0
import Derived.Test.YtnbpbidflacoiaaDoorM0
import Derived.WalkKit
import Derived.ProofKit
import Derived.OpenShut
import Derived.BigQuiet
import Derived.Outline
import Derived.WalkSpells
import Derived.WalkLawsBesides
import Derived.Deep.DeepCutAuto
import Derived.Test.YtnbpbidflacoiaaDoorQ7
import Derived.Lib.Hide
import Derived.IntWalk
namespace Go.Proofs.YtnbpbidflacoiaaDoor
open Go.ChangeShapes Go.WideShapes Go.ChangeAt Go.RowKit Go.Sort

/-- What Opposite gives. -/
def oppV (d : Dsc) (code : ByteArray) : Dsc × Int := if (isD d && (codeW code && !decide (code = d.a))) = true then (if d.kind = 3 then (zeroD, 5) else ({ d with a := code, dir := if d.kind = 2 then (d.dir + 4) % 8 else d.dir }, 0)) else (zeroD, 1)
set_option maxRecDepth 100000 in
set_option maxHeartbeats 4000000 in
theorem specOpp_any (d : Dsc) (hd : d.Ok) (code : ByteArray) (hcode : code.size ≤ 9223372036854775807) (w : World) :
    Calls Tryd.prog 11 #[d.val, .string code] w fun e w' => e = .returned (.tuple #[(oppV d code).1.val, .int .i64 (oppV d code).2]) ∧ Below w.heap.size w w' := by
  have HS := Lib.hid (specIsD_any d hd)
  have HC := Lib.hid (specCodeW_any code hcode)
  have HF := Lib.hid (fun (h : isD d = true) (hk : d.kind = 2) => (isD_from h hk).2.2.1)
  have HX := Lib.hid (show oppV d code = if (isD d && (codeW code && !decide (code = d.a))) = true then (if d.kind = 3 then (zeroD, 5) else ({ d with a := code, dir := if d.kind = 2 then (d.dir + 4) % 8 else d.dir }, 0)) else (zeroD, 1) from rfl)
  have se := str_eq code d.a
  generalize isD d = i at HS HF HX
  generalize codeW code = cw at HC HX
  obtain ⟨kind, count, unit, dir, a, b⟩ := d
  unfold Dsc.val at HS
  dsimp only at HS HF HX se
  change Calls Tryd.prog 11 #[.agg #[.int .i64 kind, .int .i64 count, .string unit, .int .i64 dir, .string a, .string b], .string code] w _
  have KN := Lib.hid (two_new w 25 #[.int .i64 kind, .int .i64 count, .string unit, .int .i64 dir, .string a, .string b] #[.int .i64 0, .int .i64 0, .string ⟨#[]⟩, .int .i64 0, .string ⟨#[]⟩, .string ⟨#[]⟩])
  cases i
  · go_enter Tryd.func11, Tryd.ntmps11
    go_wp2_with fail
    generalize hW : (w.alloc (.cells #[.int .i64 kind, .int .i64 count, .string unit, .int .i64 dir, .string a, .string b] 25)).alloc (.cells #[.int .i64 0, .int .i64 0, .string ⟨#[]⟩, .int .i64 0, .string ⟨#[]⟩, .string ⟨#[]⟩] 25) = W
    obtain ⟨bk, br, bw, hsz⟩ := KN.out W hW.symm
    clear hW
    refine (HS.out W).mono ?_; rintro e w1 ⟨rfl, b1⟩
    have B1 := Lib.hid (bw.trans (b1.mono bw.size)); have K1 := Lib.hid (bk.below b1 bk.lt); have R1 := Lib.hid (br.below b1 br.lt)
    clear bk br b1
    obtain ⟨k0, k1, k2, k3, k4, k5⟩ := dsc_cells K1.out
    obtain ⟨g0, g1, g2, g3, g4, g5, g6, g7, g8, g9, g10, g11, g12, g13, g14, g15, g16, g17⟩ := six_facts R1.out
    go_wp2_with fail
    refine bodyPost_ret (v := .tuple #[(oppV ⟨kind, count, unit, dir, a, b⟩ code).1.val, .int .i64 (oppV ⟨kind, count, unit, dir, a, b⟩ code).2]) (by rw [HX.out]; simp [results, Tryd.results11, go_sem, Dsc.val, zeroD, g12, g13, g14, g15, g16, g17]) rfl ⟨rfl, ((((((B1.out).setCell (by simp) _).setCell (by simp) _).setCell (by simp) _).setCell (by simp) _).setCell (by simp) _).setCell (by simp) _⟩
  cases cw
  · go_enter Tryd.func11, Tryd.ntmps11
    go_wp2_with fail
    generalize hW : (w.alloc (.cells #[.int .i64 kind, .int .i64 count, .string unit, .int .i64 dir, .string a, .string b] 25)).alloc (.cells #[.int .i64 0, .int .i64 0, .string ⟨#[]⟩, .int .i64 0, .string ⟨#[]⟩, .string ⟨#[]⟩] 25) = W
    obtain ⟨bk, br, bw, hsz⟩ := KN.out W hW.symm
    clear hW
    refine (HS.out W).mono ?_; rintro e w1 ⟨rfl, b1⟩
    have B1 := Lib.hid (bw.trans (b1.mono bw.size)); have K1 := Lib.hid (bk.below b1 bk.lt); have R1 := Lib.hid (br.below b1 br.lt)
    clear bk br b1
    obtain ⟨k0, k1, k2, k3, k4, k5⟩ := dsc_cells K1.out
    go_wp2_with fail
    refine (HC.out w1).mono ?_; rintro e w2 ⟨rfl, b2⟩
    have B2 := Lib.hid (B1.out.trans (b2.mono B1.out.size)); have K2 := Lib.hid (K1.out.below b2 K1.out.lt); have R2 := Lib.hid (R1.out.below b2 R1.out.lt)
    clear b2
    obtain ⟨k0, k1, k2, k3, k4, k5⟩ := dsc_cells K2.out
    obtain ⟨g0, g1, g2, g3, g4, g5, g6, g7, g8, g9, g10, g11, g12, g13, g14, g15, g16, g17⟩ := six_facts R2.out
    go_wp2_with fail
    refine bodyPost_ret (v := .tuple #[(oppV ⟨kind, count, unit, dir, a, b⟩ code).1.val, .int .i64 (oppV ⟨kind, count, unit, dir, a, b⟩ code).2]) (by rw [HX.out]; simp [results, Tryd.results11, go_sem, Dsc.val, zeroD, g12, g13, g14, g15, g16, g17]) rfl ⟨rfl, ((((((B2.out).setCell (by simp) _).setCell (by simp) _).setCell (by simp) _).setCell (by simp) _).setCell (by simp) _).setCell (by simp) _⟩
  by_cases he : code = a
  · rw [decide_eq_true he] at se HX
    clear he
    go_enter Tryd.func11, Tryd.ntmps11
    go_wp2_with fail
    generalize hW : (w.alloc (.cells #[.int .i64 kind, .int .i64 count, .string unit, .int .i64 dir, .string a, .string b] 25)).alloc (.cells #[.int .i64 0, .int .i64 0, .string ⟨#[]⟩, .int .i64 0, .string ⟨#[]⟩, .string ⟨#[]⟩] 25) = W
    obtain ⟨bk, br, bw, hsz⟩ := KN.out W hW.symm
    clear hW
    refine (HS.out W).mono ?_; rintro e w1 ⟨rfl, b1⟩
    have B1 := Lib.hid (bw.trans (b1.mono bw.size)); have K1 := Lib.hid (bk.below b1 bk.lt); have R1 := Lib.hid (br.below b1 br.lt)
    clear bk br b1
    obtain ⟨k0, k1, k2, k3, k4, k5⟩ := dsc_cells K1.out
    go_wp2_with fail
    refine (HC.out w1).mono ?_; rintro e w2 ⟨rfl, b2⟩
    have B2 := Lib.hid (B1.out.trans (b2.mono B1.out.size)); have K2 := Lib.hid (K1.out.below b2 K1.out.lt); have R2 := Lib.hid (R1.out.below b2 R1.out.lt)
    clear b2
    obtain ⟨k0, k1, k2, k3, k4, k5⟩ := dsc_cells K2.out
    obtain ⟨g0, g1, g2, g3, g4, g5, g6, g7, g8, g9, g10, g11, g12, g13, g14, g15, g16, g17⟩ := six_facts R2.out
    go_wp2_with fail
    refine bodyPost_ret (v := .tuple #[(oppV ⟨kind, count, unit, dir, a, b⟩ code).1.val, .int .i64 (oppV ⟨kind, count, unit, dir, a, b⟩ code).2]) (by rw [HX.out]; simp [results, Tryd.results11, go_sem, Dsc.val, zeroD, g12, g13, g14, g15, g16, g17]) rfl ⟨rfl, ((((((B2.out).setCell (by simp) _).setCell (by simp) _).setCell (by simp) _).setCell (by simp) _).setCell (by simp) _).setCell (by simp) _⟩
  rw [decide_eq_false he] at se HX
  clear he
  by_cases h3 : kind = 3
  · subst h3
    go_enter Tryd.func11, Tryd.ntmps11
    go_wp2_with fail
    generalize hW : (w.alloc (.cells #[.int .i64 3, .int .i64 count, .string unit, .int .i64 dir, .string a, .string b] 25)).alloc (.cells #[.int .i64 0, .int .i64 0, .string ⟨#[]⟩, .int .i64 0, .string ⟨#[]⟩, .string ⟨#[]⟩] 25) = W
    obtain ⟨bk, br, bw, hsz⟩ := KN.out W hW.symm
    clear hW
    refine (HS.out W).mono ?_; rintro e w1 ⟨rfl, b1⟩
    have B1 := Lib.hid (bw.trans (b1.mono bw.size)); have K1 := Lib.hid (bk.below b1 bk.lt); have R1 := Lib.hid (br.below b1 br.lt)
    clear bk br b1
    obtain ⟨k0, k1, k2, k3, k4, k5⟩ := dsc_cells K1.out
    go_wp2_with fail
    refine (HC.out w1).mono ?_; rintro e w2 ⟨rfl, b2⟩
    have B2 := Lib.hid (B1.out.trans (b2.mono B1.out.size)); have K2 := Lib.hid (K1.out.below b2 K1.out.lt); have R2 := Lib.hid (R1.out.below b2 R1.out.lt)
    clear b2
    obtain ⟨k0, k1, k2, k3, k4, k5⟩ := dsc_cells K2.out
    obtain ⟨g0, g1, g2, g3, g4, g5, g6, g7, g8, g9, g10, g11, g12, g13, g14, g15, g16, g17⟩ := six_facts R2.out
    go_wp2_with fail
    refine bodyPost_ret (v := .tuple #[(oppV ⟨3, count, unit, dir, a, b⟩ code).1.val, .int .i64 (oppV ⟨3, count, unit, dir, a, b⟩ code).2]) (by rw [HX.out]; simp [results, Tryd.results11, go_sem, Dsc.val, zeroD, g12, g13, g14, g15, g16, g17]) rfl ⟨rfl, ((((((B2.out).setCell (by simp) _).setCell (by simp) _).setCell (by simp) _).setCell (by simp) _).setCell (by simp) _).setCell (by simp) _⟩
  by_cases h2 : kind = 2
  · subst h2
    have HDr := HF.out rfl rfl
    have hw : IntKind.i64.wrap (dir + 4) = dir + 4 := IntWalk.i64_in _ (by omega)
    have ht : (dir + 4).tmod 8 = (dir + 4) % 8 := Int.tmod_eq_emod_of_nonneg (by omega)
    have hw2 : IntKind.i64.wrap ((dir + 4) % 8) = (dir + 4) % 8 := IntWalk.i64_in _ (by omega)
    go_enter Tryd.func11, Tryd.ntmps11
    go_wp2_with fail
    generalize hW : (w.alloc (.cells #[.int .i64 2, .int .i64 count, .string unit, .int .i64 dir, .string a, .string b] 25)).alloc (.cells #[.int .i64 0, .int .i64 0, .string ⟨#[]⟩, .int .i64 0, .string ⟨#[]⟩, .string ⟨#[]⟩] 25) = W
    obtain ⟨bk, br, bw, hsz⟩ := KN.out W hW.symm
    clear hW
    refine (HS.out W).mono ?_; rintro e w1 ⟨rfl, b1⟩
    have B1 := Lib.hid (bw.trans (b1.mono bw.size)); have K1 := Lib.hid (bk.below b1 bk.lt); have R1 := Lib.hid (br.below b1 br.lt)
    clear bk br b1
    obtain ⟨k0, k1, k2, k3, k4, k5⟩ := dsc_cells K1.out
    go_wp2_with fail
    refine (HC.out w1).mono ?_; rintro e w2 ⟨rfl, b2⟩
    have B2 := Lib.hid (B1.out.trans (b2.mono B1.out.size)); have K2 := Lib.hid (K1.out.below b2 K1.out.lt); have R2 := Lib.hid (R1.out.below b2 R1.out.lt)
    clear b2
    obtain ⟨k0, k1, k2, k3, k4, k5⟩ := dsc_cells K2.out
    have K3 : Blk (w2.setCell ⟨w.heap.size, 3, none⟩ (.int .i64 ((dir + 4) % 8))) w.heap.size 25 #[.int .i64 2, .int .i64 count, .string unit, .int .i64 ((dir + 4) % 8), .string a, .string b] := by simpa using K2.out.set_ 3 (.int .i64 ((dir + 4) % 8))
    have K4 : Blk ((w2.setCell ⟨w.heap.size, 3, none⟩ (.int .i64 ((dir + 4) % 8))).setCell ⟨w.heap.size, 4, none⟩ (.string code)) w.heap.size 25 #[.int .i64 2, .int .i64 count, .string unit, .int .i64 ((dir + 4) % 8), .string code, .string b] := by simpa using K3.set_ 4 (.string code)
    have f3 := K2.out.frozen 3
    have f4 := K3.frozen 4
    have c4 := (dsc_cells K3).2.2.2.2.1
    have R4 : Blk ((w2.setCell ⟨w.heap.size, 3, none⟩ (.int .i64 ((dir + 4) % 8))).setCell ⟨w.heap.size, 4, none⟩ (.string code)) (w.heap.size + 1) 25 #[.int .i64 0, .int .i64 0, .string ⟨#[]⟩, .int .i64 0, .string ⟨#[]⟩, .string ⟨#[]⟩] := (R2.out.far (p := ⟨w.heap.size, 3, none⟩) (by simp) _).far (p := ⟨w.heap.size, 4, none⟩) (by simp) _
    obtain ⟨n0, n1, n2, n3, n4, n5⟩ := dsc_cells K4
    obtain ⟨g0, g1, g2, g3, g4, g5, g6, g7, g8, g9, g10, g11, g12, g13, g14, g15, g16, g17⟩ := six_facts R4
    go_wp2_with fail
    refine bodyPost_ret (v := .tuple #[(oppV ⟨2, count, unit, dir, a, b⟩ code).1.val, .int .i64 (oppV ⟨2, count, unit, dir, a, b⟩ code).2]) (by rw [HX.out]; simp [results, Tryd.results11, go_sem, Dsc.val, zeroD, g12, g13, g14, g15, g16, g17]) rfl ⟨rfl, (((((((B2.out.setCell (p := ⟨w.heap.size, 3, none⟩) (Nat.le_refl _) _).setCell (p := ⟨w.heap.size, 4, none⟩) (Nat.le_refl _) _).setCell (by simp) _).setCell (by simp) _).setCell (by simp) _).setCell (by simp) _).setCell (by simp) _).setCell (by simp) _⟩
  · have q2 : (kind == 2) = false := by simpa using h2
    have q3 : (kind == 3) = false := by simpa using h3
    rw [if_neg h3, if_neg h2] at HX
    clear h2 h3
    go_enter Tryd.func11, Tryd.ntmps11
    go_wp2_with fail
    generalize hW : (w.alloc (.cells #[.int .i64 kind, .int .i64 count, .string unit, .int .i64 dir, .string a, .string b] 25)).alloc (.cells #[.int .i64 0, .int .i64 0, .string ⟨#[]⟩, .int .i64 0, .string ⟨#[]⟩, .string ⟨#[]⟩] 25) = W
    obtain ⟨bk, br, bw, hsz⟩ := KN.out W hW.symm
    clear hW
    refine (HS.out W).mono ?_; rintro e w1 ⟨rfl, b1⟩
    have B1 := Lib.hid (bw.trans (b1.mono bw.size)); have K1 := Lib.hid (bk.below b1 bk.lt); have R1 := Lib.hid (br.below b1 br.lt)
    clear bk br b1
    obtain ⟨k0, k1, k2, k3, k4, k5⟩ := dsc_cells K1.out
    go_wp2_with fail
    refine (HC.out w1).mono ?_; rintro e w2 ⟨rfl, b2⟩
    have B2 := Lib.hid (B1.out.trans (b2.mono B1.out.size)); have K2 := Lib.hid (K1.out.below b2 K1.out.lt); have R2 := Lib.hid (R1.out.below b2 R1.out.lt)
    clear b2
    obtain ⟨k0, k1, k2, k3, k4, k5⟩ := dsc_cells K2.out
    have K3 : Blk (w2.setCell ⟨w.heap.size, 4, none⟩ (.string code)) w.heap.size 25 #[.int .i64 kind, .int .i64 count, .string unit, .int .i64 dir, .string code, .string b] := by simpa using K2.out.set_ 4 (.string code)
    have f4 := K2.out.frozen 4
    have R4 : Blk (w2.setCell ⟨w.heap.size, 4, none⟩ (.string code)) (w.heap.size + 1) 25 #[.int .i64 0, .int .i64 0, .string ⟨#[]⟩, .int .i64 0, .string ⟨#[]⟩, .string ⟨#[]⟩] := R2.out.far (p := ⟨w.heap.size, 4, none⟩) (by simp) _
    obtain ⟨n0, n1, n2, n3, n4, n5⟩ := dsc_cells K3
    obtain ⟨g0, g1, g2, g3, g4, g5, g6, g7, g8, g9, g10, g11, g12, g13, g14, g15, g16, g17⟩ := six_facts R4
    go_wp2_with fail
    refine bodyPost_ret (v := .tuple #[(oppV ⟨kind, count, unit, dir, a, b⟩ code).1.val, .int .i64 (oppV ⟨kind, count, unit, dir, a, b⟩ code).2]) (by rw [HX.out]; simp [results, Tryd.results11, go_sem, Dsc.val, zeroD, g12, g13, g14, g15, g16, g17]) rfl ⟨rfl, ((((((B2.out.setCell (p := ⟨w.heap.size, 4, none⟩) (Nat.le_refl _) _).setCell (by simp) _).setCell (by simp) _).setCell (by simp) _).setCell (by simp) _).setCell (by simp) _).setCell (by simp) _⟩
set_option maxRecDepth 100000 in
set_option maxHeartbeats 4000000 in
theorem implOpp_any (d : Dsc) (hd : d.Ok) (code : ByteArray) (hcode : code.size ≤ 9223372036854775807) (w : World) (hdir : Dirs w) :
    Calls Tryd.prog 10 #[d.val, .string code] w fun e w' => e = .returned (.tuple #[(oppV d code).1.val, .int .i64 (oppV d code).2]) ∧ Below w.heap.size w w' := by
  have HS := Lib.hid (fun W (h : Below w.heap.size w W) => implIsD_any d hd W (hdir.below h))
  have HC := Lib.hid (fun W (h : Below w.heap.size w W) => implCodeW_any code hcode W (hdir.below h))
  have HF := Lib.hid (fun (h : isD d = true) (hk : d.kind = 2) => (isD_from h hk).2.2.1)
  have HX := Lib.hid (show oppV d code = if (isD d && (codeW code && !decide (code = d.a))) = true then (if d.kind = 3 then (zeroD, 5) else ({ d with a := code, dir := if d.kind = 2 then (d.dir + 4) % 8 else d.dir }, 0)) else (zeroD, 1) from rfl)
  have se := str_eq code d.a
  generalize isD d = i at HS HF HX
  generalize codeW code = cw at HC HX
  obtain ⟨kind, count, unit, dir, a, b⟩ := d
  unfold Dsc.val at HS
  dsimp only at HS HF HX se
  change Calls Tryd.prog 10 #[.agg #[.int .i64 kind, .int .i64 count, .string unit, .int .i64 dir, .string a, .string b], .string code] w _
  have KN := Lib.hid (two_new w 25 #[.int .i64 kind, .int .i64 count, .string unit, .int .i64 dir, .string a, .string b] #[.int .i64 0, .int .i64 0, .string ⟨#[]⟩, .int .i64 0, .string ⟨#[]⟩, .string ⟨#[]⟩])
  cases i
  · go_enter Tryd.func10, Tryd.ntmps10
    go_wp2_with fail
    generalize hW : (w.alloc (.cells #[.int .i64 kind, .int .i64 count, .string unit, .int .i64 dir, .string a, .string b] 25)).alloc (.cells #[.int .i64 0, .int .i64 0, .string ⟨#[]⟩, .int .i64 0, .string ⟨#[]⟩, .string ⟨#[]⟩] 25) = W
    obtain ⟨bk, br, bw, hsz⟩ := KN.out W hW.symm
    clear hW
    refine (HS.out W bw).mono ?_; rintro e w1 ⟨rfl, b1⟩
    have B1 := Lib.hid (bw.trans (b1.mono bw.size)); have K1 := Lib.hid (bk.below b1 bk.lt); have R1 := Lib.hid (br.below b1 br.lt)
    clear bk br b1
    obtain ⟨k0, k1, k2, k3, k4, k5⟩ := dsc_cells K1.out
    obtain ⟨g0, g1, g2, g3, g4, g5, g6, g7, g8, g9, g10, g11, g12, g13, g14, g15, g16, g17⟩ := six_facts R1.out
    go_wp2_with fail
    refine bodyPost_ret (v := .tuple #[(oppV ⟨kind, count, unit, dir, a, b⟩ code).1.val, .int .i64 (oppV ⟨kind, count, unit, dir, a, b⟩ code).2]) (by rw [HX.out]; simp [results, Tryd.results10, go_sem, Dsc.val, zeroD, g12, g13, g14, g15, g16, g17]) rfl ⟨rfl, ((((((B1.out).setCell (by simp) _).setCell (by simp) _).setCell (by simp) _).setCell (by simp) _).setCell (by simp) _).setCell (by simp) _⟩
  cases cw
  · go_enter Tryd.func10, Tryd.ntmps10
    go_wp2_with fail
    generalize hW : (w.alloc (.cells #[.int .i64 kind, .int .i64 count, .string unit, .int .i64 dir, .string a, .string b] 25)).alloc (.cells #[.int .i64 0, .int .i64 0, .string ⟨#[]⟩, .int .i64 0, .string ⟨#[]⟩, .string ⟨#[]⟩] 25) = W
    obtain ⟨bk, br, bw, hsz⟩ := KN.out W hW.symm
    clear hW
    refine (HS.out W bw).mono ?_; rintro e w1 ⟨rfl, b1⟩
    have B1 := Lib.hid (bw.trans (b1.mono bw.size)); have K1 := Lib.hid (bk.below b1 bk.lt); have R1 := Lib.hid (br.below b1 br.lt)
    clear bk br b1
    obtain ⟨k0, k1, k2, k3, k4, k5⟩ := dsc_cells K1.out
    go_wp2_with fail
    refine (HC.out w1 B1.out).mono ?_; rintro e w2 ⟨rfl, b2⟩
    have B2 := Lib.hid (B1.out.trans (b2.mono B1.out.size)); have K2 := Lib.hid (K1.out.below b2 K1.out.lt); have R2 := Lib.hid (R1.out.below b2 R1.out.lt)
    clear b2
    obtain ⟨k0, k1, k2, k3, k4, k5⟩ := dsc_cells K2.out
    obtain ⟨g0, g1, g2, g3, g4, g5, g6, g7, g8, g9, g10, g11, g12, g13, g14, g15, g16, g17⟩ := six_facts R2.out
    go_wp2_with fail
    refine bodyPost_ret (v := .tuple #[(oppV ⟨kind, count, unit, dir, a, b⟩ code).1.val, .int .i64 (oppV ⟨kind, count, unit, dir, a, b⟩ code).2]) (by rw [HX.out]; simp [results, Tryd.results10, go_sem, Dsc.val, zeroD, g12, g13, g14, g15, g16, g17]) rfl ⟨rfl, ((((((B2.out).setCell (by simp) _).setCell (by simp) _).setCell (by simp) _).setCell (by simp) _).setCell (by simp) _).setCell (by simp) _⟩
  by_cases he : code = a
  · rw [decide_eq_true he] at se HX
    clear he
    go_enter Tryd.func10, Tryd.ntmps10
    go_wp2_with fail
    generalize hW : (w.alloc (.cells #[.int .i64 kind, .int .i64 count, .string unit, .int .i64 dir, .string a, .string b] 25)).alloc (.cells #[.int .i64 0, .int .i64 0, .string ⟨#[]⟩, .int .i64 0, .string ⟨#[]⟩, .string ⟨#[]⟩] 25) = W
    obtain ⟨bk, br, bw, hsz⟩ := KN.out W hW.symm
    clear hW
    refine (HS.out W bw).mono ?_; rintro e w1 ⟨rfl, b1⟩
    have B1 := Lib.hid (bw.trans (b1.mono bw.size)); have K1 := Lib.hid (bk.below b1 bk.lt); have R1 := Lib.hid (br.below b1 br.lt)
    clear bk br b1
    obtain ⟨k0, k1, k2, k3, k4, k5⟩ := dsc_cells K1.out
    go_wp2_with fail
    refine (HC.out w1 B1.out).mono ?_; rintro e w2 ⟨rfl, b2⟩
    have B2 := Lib.hid (B1.out.trans (b2.mono B1.out.size)); have K2 := Lib.hid (K1.out.below b2 K1.out.lt); have R2 := Lib.hid (R1.out.below b2 R1.out.lt)
    clear b2
    obtain ⟨k0, k1, k2, k3, k4, k5⟩ := dsc_cells K2.out
    obtain ⟨g0, g1, g2, g3, g4, g5, g6, g7, g8, g9, g10, g11, g12, g13, g14, g15, g16, g17⟩ := six_facts R2.out
    go_wp2_with fail
    refine bodyPost_ret (v := .tuple #[(oppV ⟨kind, count, unit, dir, a, b⟩ code).1.val, .int .i64 (oppV ⟨kind, count, unit, dir, a, b⟩ code).2]) (by rw [HX.out]; simp [results, Tryd.results10, go_sem, Dsc.val, zeroD, g12, g13, g14, g15, g16, g17]) rfl ⟨rfl, ((((((B2.out).setCell (by simp) _).setCell (by simp) _).setCell (by simp) _).setCell (by simp) _).setCell (by simp) _).setCell (by simp) _⟩
  rw [decide_eq_false he] at se HX
  clear he
  by_cases h3 : kind = 3
  · subst h3
    go_enter Tryd.func10, Tryd.ntmps10
    go_wp2_with fail
    generalize hW : (w.alloc (.cells #[.int .i64 3, .int .i64 count, .string unit, .int .i64 dir, .string a, .string b] 25)).alloc (.cells #[.int .i64 0, .int .i64 0, .string ⟨#[]⟩, .int .i64 0, .string ⟨#[]⟩, .string ⟨#[]⟩] 25) = W
    obtain ⟨bk, br, bw, hsz⟩ := KN.out W hW.symm
    clear hW
    refine (HS.out W bw).mono ?_; rintro e w1 ⟨rfl, b1⟩
    have B1 := Lib.hid (bw.trans (b1.mono bw.size)); have K1 := Lib.hid (bk.below b1 bk.lt); have R1 := Lib.hid (br.below b1 br.lt)
    clear bk br b1
    obtain ⟨k0, k1, k2, k3, k4, k5⟩ := dsc_cells K1.out
    go_wp2_with fail
    refine (HC.out w1 B1.out).mono ?_; rintro e w2 ⟨rfl, b2⟩
    have B2 := Lib.hid (B1.out.trans (b2.mono B1.out.size)); have K2 := Lib.hid (K1.out.below b2 K1.out.lt); have R2 := Lib.hid (R1.out.below b2 R1.out.lt)
    clear b2
    obtain ⟨k0, k1, k2, k3, k4, k5⟩ := dsc_cells K2.out
    obtain ⟨g0, g1, g2, g3, g4, g5, g6, g7, g8, g9, g10, g11, g12, g13, g14, g15, g16, g17⟩ := six_facts R2.out
    go_wp2_with fail
    refine bodyPost_ret (v := .tuple #[(oppV ⟨3, count, unit, dir, a, b⟩ code).1.val, .int .i64 (oppV ⟨3, count, unit, dir, a, b⟩ code).2]) (by rw [HX.out]; simp [results, Tryd.results10, go_sem, Dsc.val, zeroD, g12, g13, g14, g15, g16, g17]) rfl ⟨rfl, ((((((B2.out).setCell (by simp) _).setCell (by simp) _).setCell (by simp) _).setCell (by simp) _).setCell (by simp) _).setCell (by simp) _⟩
  by_cases h2 : kind = 2
  · subst h2
    have HDr := HF.out rfl rfl
    have hw : IntKind.i64.wrap (dir + 4) = dir + 4 := IntWalk.i64_in _ (by omega)
    have ht : (dir + 4).tmod 8 = (dir + 4) % 8 := Int.tmod_eq_emod_of_nonneg (by omega)
    have hw2 : IntKind.i64.wrap ((dir + 4) % 8) = (dir + 4) % 8 := IntWalk.i64_in _ (by omega)
    go_enter Tryd.func10, Tryd.ntmps10
    go_wp2_with fail
    generalize hW : (w.alloc (.cells #[.int .i64 2, .int .i64 count, .string unit, .int .i64 dir, .string a, .string b] 25)).alloc (.cells #[.int .i64 0, .int .i64 0, .string ⟨#[]⟩, .int .i64 0, .string ⟨#[]⟩, .string ⟨#[]⟩] 25) = W
    obtain ⟨bk, br, bw, hsz⟩ := KN.out W hW.symm
    clear hW
    refine (HS.out W bw).mono ?_; rintro e w1 ⟨rfl, b1⟩
    have B1 := Lib.hid (bw.trans (b1.mono bw.size)); have K1 := Lib.hid (bk.below b1 bk.lt); have R1 := Lib.hid (br.below b1 br.lt)
    clear bk br b1
    obtain ⟨k0, k1, k2, k3, k4, k5⟩ := dsc_cells K1.out
    go_wp2_with fail
    refine (HC.out w1 B1.out).mono ?_; rintro e w2 ⟨rfl, b2⟩
    have B2 := Lib.hid (B1.out.trans (b2.mono B1.out.size)); have K2 := Lib.hid (K1.out.below b2 K1.out.lt); have R2 := Lib.hid (R1.out.below b2 R1.out.lt)
    clear b2
    obtain ⟨k0, k1, k2, k3, k4, k5⟩ := dsc_cells K2.out
    have K3 : Blk (w2.setCell ⟨w.heap.size, 4, none⟩ (.string code)) w.heap.size 25 #[.int .i64 2, .int .i64 count, .string unit, .int .i64 dir, .string code, .string b] := by simpa using K2.out.set_ 4 (.string code)
    have K4 : Blk ((w2.setCell ⟨w.heap.size, 4, none⟩ (.string code)).setCell ⟨w.heap.size, 3, none⟩ (.int .i64 ((dir + 4) % 8))) w.heap.size 25 #[.int .i64 2, .int .i64 count, .string unit, .int .i64 ((dir + 4) % 8), .string code, .string b] := by simpa using K3.set_ 3 (.int .i64 ((dir + 4) % 8))
    have f4 := K2.out.frozen 4
    have f3 := K3.frozen 3
    obtain ⟨m0, m1, m2, m3, m4, m5⟩ := dsc_cells K3
    have R4 : Blk ((w2.setCell ⟨w.heap.size, 4, none⟩ (.string code)).setCell ⟨w.heap.size, 3, none⟩ (.int .i64 ((dir + 4) % 8))) (w.heap.size + 1) 25 #[.int .i64 0, .int .i64 0, .string ⟨#[]⟩, .int .i64 0, .string ⟨#[]⟩, .string ⟨#[]⟩] := (R2.out.far (p := ⟨w.heap.size, 4, none⟩) (by simp) _).far (p := ⟨w.heap.size, 3, none⟩) (by simp) _
    obtain ⟨n0, n1, n2, n3, n4, n5⟩ := dsc_cells K4
    obtain ⟨g0, g1, g2, g3, g4, g5, g6, g7, g8, g9, g10, g11, g12, g13, g14, g15, g16, g17⟩ := six_facts R4
    go_wp2_with fail
    refine bodyPost_ret (v := .tuple #[(oppV ⟨2, count, unit, dir, a, b⟩ code).1.val, .int .i64 (oppV ⟨2, count, unit, dir, a, b⟩ code).2]) (by rw [HX.out]; simp [results, Tryd.results10, go_sem, Dsc.val, zeroD, g12, g13, g14, g15, g16, g17]) rfl ⟨rfl, (((((((B2.out.setCell (p := ⟨w.heap.size, 4, none⟩) (Nat.le_refl _) _).setCell (p := ⟨w.heap.size, 3, none⟩) (Nat.le_refl _) _).setCell (by simp) _).setCell (by simp) _).setCell (by simp) _).setCell (by simp) _).setCell (by simp) _).setCell (by simp) _⟩
  · have q2 : (kind == 2) = false := by simpa using h2
    have q3 : (kind == 3) = false := by simpa using h3
    rw [if_neg h3, if_neg h2] at HX
    clear h2 h3
    go_enter Tryd.func10, Tryd.ntmps10
    go_wp2_with fail
    generalize hW : (w.alloc (.cells #[.int .i64 kind, .int .i64 count, .string unit, .int .i64 dir, .string a, .string b] 25)).alloc (.cells #[.int .i64 0, .int .i64 0, .string ⟨#[]⟩, .int .i64 0, .string ⟨#[]⟩, .string ⟨#[]⟩] 25) = W
    obtain ⟨bk, br, bw, hsz⟩ := KN.out W hW.symm
    clear hW
    refine (HS.out W bw).mono ?_; rintro e w1 ⟨rfl, b1⟩
    have B1 := Lib.hid (bw.trans (b1.mono bw.size)); have K1 := Lib.hid (bk.below b1 bk.lt); have R1 := Lib.hid (br.below b1 br.lt)
    clear bk br b1
    obtain ⟨k0, k1, k2, k3, k4, k5⟩ := dsc_cells K1.out
    go_wp2_with fail
    refine (HC.out w1 B1.out).mono ?_; rintro e w2 ⟨rfl, b2⟩
    have B2 := Lib.hid (B1.out.trans (b2.mono B1.out.size)); have K2 := Lib.hid (K1.out.below b2 K1.out.lt); have R2 := Lib.hid (R1.out.below b2 R1.out.lt)
    clear b2
    obtain ⟨k0, k1, k2, k3, k4, k5⟩ := dsc_cells K2.out
    have K3 : Blk (w2.setCell ⟨w.heap.size, 4, none⟩ (.string code)) w.heap.size 25 #[.int .i64 kind, .int .i64 count, .string unit, .int .i64 dir, .string code, .string b] := by simpa using K2.out.set_ 4 (.string code)
    have f4 := K2.out.frozen 4
    have R4 : Blk (w2.setCell ⟨w.heap.size, 4, none⟩ (.string code)) (w.heap.size + 1) 25 #[.int .i64 0, .int .i64 0, .string ⟨#[]⟩, .int .i64 0, .string ⟨#[]⟩, .string ⟨#[]⟩] := R2.out.far (p := ⟨w.heap.size, 4, none⟩) (by simp) _
    obtain ⟨n0, n1, n2, n3, n4, n5⟩ := dsc_cells K3
    obtain ⟨g0, g1, g2, g3, g4, g5, g6, g7, g8, g9, g10, g11, g12, g13, g14, g15, g16, g17⟩ := six_facts R4
    go_wp2_with fail
    refine bodyPost_ret (v := .tuple #[(oppV ⟨kind, count, unit, dir, a, b⟩ code).1.val, .int .i64 (oppV ⟨kind, count, unit, dir, a, b⟩ code).2]) (by rw [HX.out]; simp [results, Tryd.results10, go_sem, Dsc.val, zeroD, g12, g13, g14, g15, g16, g17]) rfl ⟨rfl, ((((((B2.out.setCell (p := ⟨w.heap.size, 4, none⟩) (Nat.le_refl _) _).setCell (by simp) _).setCell (by simp) _).setCell (by simp) _).setCell (by simp) _).setCell (by simp) _).setCell (by simp) _⟩
end Go.Proofs.YtnbpbidflacoiaaDoor
