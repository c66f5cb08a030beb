/- InLeagues of both. -/
import Derived.Test.YtnbpbidflacoiaaDoorRows
import Derived.Test.YtnbpbidflacoiaaDoorL0
import Derived.Test.YtnbpbidflacoiaaDoorM0
import Derived.WalkKit
import Derived.ProofKit
import Derived.OpenShut
import Derived.BigQuiet
import Derived.Outline
import Derived.WalkSpells
import Derived.WalkLawsBesides
import Derived.Deep.DeepCutAuto
import Derived.Test.YtnbpbidflacoiaaDoorQ7
import Derived.Lib.Hide
import Derived.IntWalk
namespace Go.Proofs.YtnbpbidflacoiaaDoor
open Go.ChangeShapes Go.WideShapes Go.ChangeAt Go.RowKit Go.Sort

/-- What InLeagues gives. -/
def lgV (d : Dsc) : Dsc × Int := if isD d = true then (if d.unit = ⟨#[109, 105, 108, 101, 115]⟩ ∧ d.count % 3 = 0 then ({ d with count := d.count / 3, unit := if d.count / 3 = 1 then ⟨#[108, 101, 97, 103, 117, 101]⟩ else ⟨#[108, 101, 97, 103, 117, 101, 115]⟩ }, 0) else (d, 0)) else (zeroD, 1)
theorem isD_miles {d : Dsc} (h : isD d = true) (hu : d.unit = ⟨#[109, 105, 108, 101, 115]⟩) : d.kind = 2 := by
  by_cases hk : d.kind = 2
  · exact hk
  · rw [isD, if_neg hk] at h
    simp only [Bool.and_eq_true, decide_eq_true_eq] at h
    have := h.2.1.2.1
    rw [hu] at this
    exact absurd (congrArg ByteArray.size this) (by decide)
set_option maxRecDepth 100000 in
set_option maxHeartbeats 4000000 in
theorem specLg_any (d : Dsc) (hd : d.Ok) (w : World) :
    Calls Tryd.prog 14 #[d.val] w fun e w' => e = .returned (.tuple #[(lgV d).1.val, .int .i64 (lgV d).2]) ∧ Below w.heap.size w w' := by
  have HS := Lib.hid (specIsD_any d hd)
  have HF := Lib.hid (fun (h : isD d = true) (hk : d.kind = 2) => (isD_from h hk).1)
  have HU := Lib.hid (fun (h : isD d = true) (hu : d.unit = ⟨#[109, 105, 108, 101, 115]⟩) => isD_miles h hu)
  have HX := Lib.hid (show lgV d = if isD d = true then (if d.unit = ⟨#[109, 105, 108, 101, 115]⟩ ∧ d.count % 3 = 0 then ({ d with count := d.count / 3, unit := if d.count / 3 = 1 then ⟨#[108, 101, 97, 103, 117, 101]⟩ else ⟨#[108, 101, 97, 103, 117, 101, 115]⟩ }, 0) else (d, 0)) else (zeroD, 1) from rfl)
  have su := str_lit d.unit [109, 105, 108, 101, 115]
  generalize isD d = i at HS HF HX HU
  obtain ⟨kind, count, unit, dir, a, b⟩ := d
  unfold Dsc.val at HS
  dsimp only at HS HF HX HU su
  change Calls Tryd.prog 14 #[.agg #[.int .i64 kind, .int .i64 count, .string unit, .int .i64 dir, .string a, .string b]] w _
  have KN := Lib.hid (two_new w 25 #[.int .i64 kind, .int .i64 count, .string unit, .int .i64 dir, .string a, .string b] #[.int .i64 0, .int .i64 0, .string ⟨#[]⟩, .int .i64 0, .string ⟨#[]⟩, .string ⟨#[]⟩])
  cases i
  · rw [if_neg (by decide)] at HX
    go_enter Tryd.func14, Tryd.ntmps14
    go_wp2_with fail
    generalize hW : (w.alloc (.cells #[.int .i64 kind, .int .i64 count, .string unit, .int .i64 dir, .string a, .string b] 25)).alloc (.cells #[.int .i64 0, .int .i64 0, .string ⟨#[]⟩, .int .i64 0, .string ⟨#[]⟩, .string ⟨#[]⟩] 25) = W
    obtain ⟨bk, br, bw, hsz⟩ := KN.out W hW.symm
    clear hW
    refine (HS.out W).mono ?_; rintro e w1 ⟨rfl, b1⟩
    have B1 := Lib.hid (bw.trans (b1.mono bw.size)); have K1 := Lib.hid (bk.below b1 bk.lt); have R1 := Lib.hid (br.below b1 br.lt)
    have z1 : w.heap.size + 1 < w1.heap.size := R1.out.lt
    clear bk br b1
    obtain ⟨k0, k1, k2, k3, k4, k5⟩ := dsc_cells K1.out
    obtain ⟨g0, g1, g2, g3, g4, g5, g6, g7, g8, g9, g10, g11, g12, g13, g14, g15, g16, g17⟩ := six_facts R1.out
    go_wp2_with fail
    refine bodyPost_ret (v := .tuple #[(lgV ⟨kind, count, unit, dir, a, b⟩).1.val, .int .i64 (lgV ⟨kind, count, unit, dir, a, b⟩).2]) (by rw [HX.out]; simp [results, Tryd.results14, go_sem, Dsc.val, zeroD, g12, g13, g14, g15, g16, g17]) rfl ⟨rfl, ((((((B1.out).setCell (by simp) _).setCell (by simp) _).setCell (by simp) _).setCell (by simp) _).setCell (by simp) _).setCell (by simp) _⟩
  rw [if_pos rfl] at HX
  by_cases hu : unit = ⟨#[109, 105, 108, 101, 115]⟩
  · have hk := HU.out rfl hu
    subst hk
    rw [decide_eq_true hu] at su
    have HC := HF.out rfl rfl
    have ht : count.tmod 3 = count % 3 := Int.tmod_eq_emod_of_nonneg (by omega)
    have hd : count.tdiv 3 = count / 3 := Int.tdiv_eq_ediv_of_nonneg (by omega)
    have hw : IntKind.i64.wrap (count % 3) = count % 3 := IntWalk.i64_in _ (by omega)
    have hw2 : IntKind.i64.wrap (count / 3) = count / 3 := IntWalk.i64_in _ (by omega)
    by_cases h3 : count % 3 = 0
    · rw [if_pos ⟨hu, h3⟩] at HX
      by_cases h1 : count / 3 = 1
      · have q1 : (count / 3 == 1) = true := by simpa using h1
        rw [if_pos h1] at HX
        clear h1 hu
        go_enter Tryd.func14, Tryd.ntmps14
        go_wp2_with fail
        generalize hW : (w.alloc (.cells #[.int .i64 2, .int .i64 count, .string unit, .int .i64 dir, .string a, .string b] 25)).alloc (.cells #[.int .i64 0, .int .i64 0, .string ⟨#[]⟩, .int .i64 0, .string ⟨#[]⟩, .string ⟨#[]⟩] 25) = W
        obtain ⟨bk, br, bw, hsz⟩ := KN.out W hW.symm
        clear hW
        refine (HS.out W).mono ?_; rintro e w1 ⟨rfl, b1⟩
        have B1 := Lib.hid (bw.trans (b1.mono bw.size)); have K1 := Lib.hid (bk.below b1 bk.lt); have R1 := Lib.hid (br.below b1 br.lt)
        have z1 : w.heap.size + 1 < w1.heap.size := R1.out.lt
        clear bk br b1
        obtain ⟨k0, k1, k2, k3, k4, k5⟩ := dsc_cells K1.out
        have K3 : Blk (w1.setCell ⟨w.heap.size, 1, none⟩ (.int .i64 (count / 3))) w.heap.size 25 #[.int .i64 2, .int .i64 (count / 3), .string unit, .int .i64 dir, .string a, .string b] := by simpa using K1.out.set_ 1 (.int .i64 (count / 3))
        have K4 : Blk ((w1.setCell ⟨w.heap.size, 1, none⟩ (.int .i64 (count / 3))).setCell ⟨w.heap.size, 2, none⟩ (.string ⟨#[108, 101, 97, 103, 117, 101, 115]⟩)) w.heap.size 25 #[.int .i64 2, .int .i64 (count / 3), .string ⟨#[108, 101, 97, 103, 117, 101, 115]⟩, .int .i64 dir, .string a, .string b] := by simpa using K3.set_ 2 (.string ⟨#[108, 101, 97, 103, 117, 101, 115]⟩)
        have f1 := K1.out.frozen 1
        have f2 := K3.frozen 2
        obtain ⟨m0, m1, m2, m3, m4, m5⟩ := dsc_cells K3
        obtain ⟨n0, n1, n2, n3, n4, n5⟩ := dsc_cells K4
        have K5 : Blk (((w1.setCell ⟨w.heap.size, 1, none⟩ (.int .i64 (count / 3))).setCell ⟨w.heap.size, 2, none⟩ (.string ⟨#[108, 101, 97, 103, 117, 101, 115]⟩)).setCell ⟨w.heap.size, 2, none⟩ (.string ⟨#[108, 101, 97, 103, 117, 101]⟩)) w.heap.size 25 #[.int .i64 2, .int .i64 (count / 3), .string ⟨#[108, 101, 97, 103, 117, 101]⟩, .int .i64 dir, .string a, .string b] := by simpa using K4.set_ 2 (.string ⟨#[108, 101, 97, 103, 117, 101]⟩)
        have f4 := K4.frozen 2
        obtain ⟨o0, o1, o2, o3, o4, o5⟩ := dsc_cells K5
        have R4 : Blk (((w1.setCell ⟨w.heap.size, 1, none⟩ (.int .i64 (count / 3))).setCell ⟨w.heap.size, 2, none⟩ (.string ⟨#[108, 101, 97, 103, 117, 101, 115]⟩)).setCell ⟨w.heap.size, 2, none⟩ (.string ⟨#[108, 101, 97, 103, 117, 101]⟩)) (w.heap.size + 1) 25 #[.int .i64 0, .int .i64 0, .string ⟨#[]⟩, .int .i64 0, .string ⟨#[]⟩, .string ⟨#[]⟩] := ((R1.out.far (p := ⟨w.heap.size, 1, none⟩) (by simp) _).far (p := ⟨w.heap.size, 2, none⟩) (by simp) _).far (p := ⟨w.heap.size, 2, none⟩) (by simp) _
        obtain ⟨g0, g1, g2, g3, g4, g5, g6, g7, g8, g9, g10, g11, g12, g13, g14, g15, g16, g17⟩ := six_facts R4
        go_wp2_with fail
        refine bodyPost_ret (v := .tuple #[(lgV ⟨2, count, unit, dir, a, b⟩).1.val, .int .i64 (lgV ⟨2, count, unit, dir, a, b⟩).2]) (by rw [HX.out]; simp [results, Tryd.results14, go_sem, Dsc.val, zeroD, g12, g13, g14, g15, g16, g17]) rfl ⟨rfl, ((((((((B1.out.setCell (p := ⟨w.heap.size, 1, none⟩) (Nat.le_refl _) _).setCell (p := ⟨w.heap.size, 2, none⟩) (Nat.le_refl _) _).setCell (p := ⟨w.heap.size, 2, none⟩) (Nat.le_refl _) _).setCell (by simp) _).setCell (by simp) _).setCell (by simp) _).setCell (by simp) _).setCell (by simp) _).setCell (by simp) _⟩
      · have q1 : (count / 3 == 1) = false := by simpa using h1
        rw [if_neg h1] at HX
        clear h1 hu
        go_enter Tryd.func14, Tryd.ntmps14
        go_wp2_with fail
        generalize hW : (w.alloc (.cells #[.int .i64 2, .int .i64 count, .string unit, .int .i64 dir, .string a, .string b] 25)).alloc (.cells #[.int .i64 0, .int .i64 0, .string ⟨#[]⟩, .int .i64 0, .string ⟨#[]⟩, .string ⟨#[]⟩] 25) = W
        obtain ⟨bk, br, bw, hsz⟩ := KN.out W hW.symm
        clear hW
        refine (HS.out W).mono ?_; rintro e w1 ⟨rfl, b1⟩
        have B1 := Lib.hid (bw.trans (b1.mono bw.size)); have K1 := Lib.hid (bk.below b1 bk.lt); have R1 := Lib.hid (br.below b1 br.lt)
        have z1 : w.heap.size + 1 < w1.heap.size := R1.out.lt
        clear bk br b1
        obtain ⟨k0, k1, k2, k3, k4, k5⟩ := dsc_cells K1.out
        have K3 : Blk (w1.setCell ⟨w.heap.size, 1, none⟩ (.int .i64 (count / 3))) w.heap.size 25 #[.int .i64 2, .int .i64 (count / 3), .string unit, .int .i64 dir, .string a, .string b] := by simpa using K1.out.set_ 1 (.int .i64 (count / 3))
        have K4 : Blk ((w1.setCell ⟨w.heap.size, 1, none⟩ (.int .i64 (count / 3))).setCell ⟨w.heap.size, 2, none⟩ (.string ⟨#[108, 101, 97, 103, 117, 101, 115]⟩)) w.heap.size 25 #[.int .i64 2, .int .i64 (count / 3), .string ⟨#[108, 101, 97, 103, 117, 101, 115]⟩, .int .i64 dir, .string a, .string b] := by simpa using K3.set_ 2 (.string ⟨#[108, 101, 97, 103, 117, 101, 115]⟩)
        have f1 := K1.out.frozen 1
        have f2 := K3.frozen 2
        obtain ⟨m0, m1, m2, m3, m4, m5⟩ := dsc_cells K3
        obtain ⟨n0, n1, n2, n3, n4, n5⟩ := dsc_cells K4
        have R4 : Blk ((w1.setCell ⟨w.heap.size, 1, none⟩ (.int .i64 (count / 3))).setCell ⟨w.heap.size, 2, none⟩ (.string ⟨#[108, 101, 97, 103, 117, 101, 115]⟩)) (w.heap.size + 1) 25 #[.int .i64 0, .int .i64 0, .string ⟨#[]⟩, .int .i64 0, .string ⟨#[]⟩, .string ⟨#[]⟩] := (R1.out.far (p := ⟨w.heap.size, 1, none⟩) (by simp) _).far (p := ⟨w.heap.size, 2, none⟩) (by simp) _
        obtain ⟨g0, g1, g2, g3, g4, g5, g6, g7, g8, g9, g10, g11, g12, g13, g14, g15, g16, g17⟩ := six_facts R4
        go_wp2_with fail
        refine bodyPost_ret (v := .tuple #[(lgV ⟨2, count, unit, dir, a, b⟩).1.val, .int .i64 (lgV ⟨2, count, unit, dir, a, b⟩).2]) (by rw [HX.out]; simp [results, Tryd.results14, go_sem, Dsc.val, zeroD, g12, g13, g14, g15, g16, g17]) rfl ⟨rfl, (((((((B1.out.setCell (p := ⟨w.heap.size, 1, none⟩) (Nat.le_refl _) _).setCell (p := ⟨w.heap.size, 2, none⟩) (Nat.le_refl _) _).setCell (by simp) _).setCell (by simp) _).setCell (by simp) _).setCell (by simp) _).setCell (by simp) _).setCell (by simp) _⟩
    · rw [if_neg (fun h => h3 h.2)] at HX
      have q3 : (count % 3 == 0) = false := by simpa using h3
      clear h3 hu
      go_enter Tryd.func14, Tryd.ntmps14
      go_wp2_with fail
      generalize hW : (w.alloc (.cells #[.int .i64 2, .int .i64 count, .string unit, .int .i64 dir, .string a, .string b] 25)).alloc (.cells #[.int .i64 0, .int .i64 0, .string ⟨#[]⟩, .int .i64 0, .string ⟨#[]⟩, .string ⟨#[]⟩] 25) = W
      obtain ⟨bk, br, bw, hsz⟩ := KN.out W hW.symm
      clear hW
      refine (HS.out W).mono ?_; rintro e w1 ⟨rfl, b1⟩
      have B1 := Lib.hid (bw.trans (b1.mono bw.size)); have K1 := Lib.hid (bk.below b1 bk.lt); have R1 := Lib.hid (br.below b1 br.lt)
      have z1 : w.heap.size + 1 < w1.heap.size := R1.out.lt
      clear bk br b1
      obtain ⟨k0, k1, k2, k3, k4, k5⟩ := dsc_cells K1.out
      obtain ⟨g0, g1, g2, g3, g4, g5, g6, g7, g8, g9, g10, g11, g12, g13, g14, g15, g16, g17⟩ := six_facts R1.out
      go_wp2_with fail
      refine bodyPost_ret (v := .tuple #[(lgV ⟨2, count, unit, dir, a, b⟩).1.val, .int .i64 (lgV ⟨2, count, unit, dir, a, b⟩).2]) (by rw [HX.out]; simp [results, Tryd.results14, go_sem, Dsc.val, zeroD, g12, g13, g14, g15, g16, g17]) rfl ⟨rfl, ((((((B1.out).setCell (by simp) _).setCell (by simp) _).setCell (by simp) _).setCell (by simp) _).setCell (by simp) _).setCell (by simp) _⟩
  · rw [if_neg (fun h => hu h.1)] at HX
    rw [decide_eq_false hu] at su
    clear hu
    by_cases hk : kind = 2
    · subst hk
      go_enter Tryd.func14, Tryd.ntmps14
      go_wp2_with fail
      generalize hW : (w.alloc (.cells #[.int .i64 2, .int .i64 count, .string unit, .int .i64 dir, .string a, .string b] 25)).alloc (.cells #[.int .i64 0, .int .i64 0, .string ⟨#[]⟩, .int .i64 0, .string ⟨#[]⟩, .string ⟨#[]⟩] 25) = W
      obtain ⟨bk, br, bw, hsz⟩ := KN.out W hW.symm
      clear hW
      refine (HS.out W).mono ?_; rintro e w1 ⟨rfl, b1⟩
      have B1 := Lib.hid (bw.trans (b1.mono bw.size)); have K1 := Lib.hid (bk.below b1 bk.lt); have R1 := Lib.hid (br.below b1 br.lt)
      have z1 : w.heap.size + 1 < w1.heap.size := R1.out.lt
      clear bk br b1
      obtain ⟨k0, k1, k2, k3, k4, k5⟩ := dsc_cells K1.out
      obtain ⟨g0, g1, g2, g3, g4, g5, g6, g7, g8, g9, g10, g11, g12, g13, g14, g15, g16, g17⟩ := six_facts R1.out
      go_wp2_with fail
      refine bodyPost_ret (v := .tuple #[(lgV ⟨2, count, unit, dir, a, b⟩).1.val, .int .i64 (lgV ⟨2, count, unit, dir, a, b⟩).2]) (by rw [HX.out]; simp [results, Tryd.results14, go_sem, Dsc.val, zeroD, g12, g13, g14, g15, g16, g17]) rfl ⟨rfl, ((((((B1.out).setCell (by simp) _).setCell (by simp) _).setCell (by simp) _).setCell (by simp) _).setCell (by simp) _).setCell (by simp) _⟩
    · have q2 : (kind == 2) = false := by simpa using hk
      clear hk
      go_enter Tryd.func14, Tryd.ntmps14
      go_wp2_with fail
      generalize hW : (w.alloc (.cells #[.int .i64 kind, .int .i64 count, .string unit, .int .i64 dir, .string a, .string b] 25)).alloc (.cells #[.int .i64 0, .int .i64 0, .string ⟨#[]⟩, .int .i64 0, .string ⟨#[]⟩, .string ⟨#[]⟩] 25) = W
      obtain ⟨bk, br, bw, hsz⟩ := KN.out W hW.symm
      clear hW
      refine (HS.out W).mono ?_; rintro e w1 ⟨rfl, b1⟩
      have B1 := Lib.hid (bw.trans (b1.mono bw.size)); have K1 := Lib.hid (bk.below b1 bk.lt); have R1 := Lib.hid (br.below b1 br.lt)
      have z1 : w.heap.size + 1 < w1.heap.size := R1.out.lt
      clear bk br b1
      obtain ⟨k0, k1, k2, k3, k4, k5⟩ := dsc_cells K1.out
      obtain ⟨g0, g1, g2, g3, g4, g5, g6, g7, g8, g9, g10, g11, g12, g13, g14, g15, g16, g17⟩ := six_facts R1.out
      go_wp2_with fail
      refine bodyPost_ret (v := .tuple #[(lgV ⟨kind, count, unit, dir, a, b⟩).1.val, .int .i64 (lgV ⟨kind, count, unit, dir, a, b⟩).2]) (by rw [HX.out]; simp [results, Tryd.results14, go_sem, Dsc.val, zeroD, g12, g13, g14, g15, g16, g17]) rfl ⟨rfl, ((((((B1.out).setCell (by simp) _).setCell (by simp) _).setCell (by simp) _).setCell (by simp) _).setCell (by simp) _).setCell (by simp) _⟩
set_option maxRecDepth 100000 in
set_option maxHeartbeats 4000000 in
theorem implLg_any (d : Dsc) (hd : d.Ok) (w : World) (hdir : Dirs w) :
    Calls Tryd.prog 13 #[d.val] w fun e w' => e = .returned (.tuple #[(lgV d).1.val, .int .i64 (lgV d).2]) ∧ Below w.heap.size w w' := by
  have HS := Lib.hid (fun W (h : Below w.heap.size w W) => implIsD_any d hd W (hdir.below h))
  have HF := Lib.hid (fun (h : isD d = true) (hk : d.kind = 2) => (isD_from h hk).1)
  have HU := Lib.hid (fun (h : isD d = true) (hu : d.unit = ⟨#[109, 105, 108, 101, 115]⟩) => isD_miles h hu)
  have HX := Lib.hid (show lgV d = if isD d = true then (if d.unit = ⟨#[109, 105, 108, 101, 115]⟩ ∧ d.count % 3 = 0 then ({ d with count := d.count / 3, unit := if d.count / 3 = 1 then ⟨#[108, 101, 97, 103, 117, 101]⟩ else ⟨#[108, 101, 97, 103, 117, 101, 115]⟩ }, 0) else (d, 0)) else (zeroD, 1) from rfl)
  have su := str_lit d.unit [109, 105, 108, 101, 115]
  generalize isD d = i at HS HF HX HU
  obtain ⟨kind, count, unit, dir, a, b⟩ := d
  unfold Dsc.val at HS
  dsimp only at HS HF HX HU su
  change Calls Tryd.prog 13 #[.agg #[.int .i64 kind, .int .i64 count, .string unit, .int .i64 dir, .string a, .string b]] w _
  have KN := Lib.hid (two_new w 25 #[.int .i64 kind, .int .i64 count, .string unit, .int .i64 dir, .string a, .string b] #[.int .i64 0, .int .i64 0, .string ⟨#[]⟩, .int .i64 0, .string ⟨#[]⟩, .string ⟨#[]⟩])
  cases i
  · rw [if_neg (by decide)] at HX
    go_enter Tryd.func13, Tryd.ntmps13
    go_wp2_with fail
    generalize hW : (w.alloc (.cells #[.int .i64 kind, .int .i64 count, .string unit, .int .i64 dir, .string a, .string b] 25)).alloc (.cells #[.int .i64 0, .int .i64 0, .string ⟨#[]⟩, .int .i64 0, .string ⟨#[]⟩, .string ⟨#[]⟩] 25) = W
    obtain ⟨bk, br, bw, hsz⟩ := KN.out W hW.symm
    clear hW
    refine (HS.out W bw).mono ?_; rintro e w1 ⟨rfl, b1⟩
    have B1 := Lib.hid (bw.trans (b1.mono bw.size)); have K1 := Lib.hid (bk.below b1 bk.lt); have R1 := Lib.hid (br.below b1 br.lt)
    have z1 : w.heap.size + 1 < w1.heap.size := R1.out.lt
    clear bk br b1
    obtain ⟨k0, k1, k2, k3, k4, k5⟩ := dsc_cells K1.out
    obtain ⟨g0, g1, g2, g3, g4, g5, g6, g7, g8, g9, g10, g11, g12, g13, g14, g15, g16, g17⟩ := six_facts R1.out
    go_wp2_with fail
    refine bodyPost_ret (v := .tuple #[(lgV ⟨kind, count, unit, dir, a, b⟩).1.val, .int .i64 (lgV ⟨kind, count, unit, dir, a, b⟩).2]) (by rw [HX.out]; simp [results, Tryd.results13, go_sem, Dsc.val, zeroD, g12, g13, g14, g15, g16, g17]) rfl ⟨rfl, ((((((B1.out).setCell (by simp) _).setCell (by simp) _).setCell (by simp) _).setCell (by simp) _).setCell (by simp) _).setCell (by simp) _⟩
  rw [if_pos rfl] at HX
  by_cases hu : unit = ⟨#[109, 105, 108, 101, 115]⟩
  · have hk := HU.out rfl hu
    subst hk
    rw [decide_eq_true hu] at su
    have HC := HF.out rfl rfl
    have ht : count.tmod 3 = count % 3 := Int.tmod_eq_emod_of_nonneg (by omega)
    have hd : count.tdiv 3 = count / 3 := Int.tdiv_eq_ediv_of_nonneg (by omega)
    have hw : IntKind.i64.wrap (count % 3) = count % 3 := IntWalk.i64_in _ (by omega)
    have hw2 : IntKind.i64.wrap (count / 3) = count / 3 := IntWalk.i64_in _ (by omega)
    by_cases h3 : count % 3 = 0
    · rw [if_pos ⟨hu, h3⟩] at HX
      by_cases h1 : count / 3 = 1
      · have q1 : (count / 3 == 1) = true := by simpa using h1
        rw [if_pos h1] at HX
        clear h1 hu
        go_enter Tryd.func13, Tryd.ntmps13
        go_wp2_with fail
        generalize hW : (w.alloc (.cells #[.int .i64 2, .int .i64 count, .string unit, .int .i64 dir, .string a, .string b] 25)).alloc (.cells #[.int .i64 0, .int .i64 0, .string ⟨#[]⟩, .int .i64 0, .string ⟨#[]⟩, .string ⟨#[]⟩] 25) = W
        obtain ⟨bk, br, bw, hsz⟩ := KN.out W hW.symm
        clear hW
        refine (HS.out W bw).mono ?_; rintro e w1 ⟨rfl, b1⟩
        have B1 := Lib.hid (bw.trans (b1.mono bw.size)); have K1 := Lib.hid (bk.below b1 bk.lt); have R1 := Lib.hid (br.below b1 br.lt)
        have z1 : w.heap.size + 1 < w1.heap.size := R1.out.lt
        clear bk br b1
        obtain ⟨k0, k1, k2, k3, k4, k5⟩ := dsc_cells K1.out
        have K3 : Blk (w1.setCell ⟨w.heap.size, 1, none⟩ (.int .i64 (count / 3))) w.heap.size 25 #[.int .i64 2, .int .i64 (count / 3), .string unit, .int .i64 dir, .string a, .string b] := by simpa using K1.out.set_ 1 (.int .i64 (count / 3))
        have K4 : Blk ((w1.setCell ⟨w.heap.size, 1, none⟩ (.int .i64 (count / 3))).setCell ⟨w.heap.size, 2, none⟩ (.string ⟨#[108, 101, 97, 103, 117, 101, 115]⟩)) w.heap.size 25 #[.int .i64 2, .int .i64 (count / 3), .string ⟨#[108, 101, 97, 103, 117, 101, 115]⟩, .int .i64 dir, .string a, .string b] := by simpa using K3.set_ 2 (.string ⟨#[108, 101, 97, 103, 117, 101, 115]⟩)
        have f1 := K1.out.frozen 1
        have f2 := K3.frozen 2
        obtain ⟨m0, m1, m2, m3, m4, m5⟩ := dsc_cells K3
        obtain ⟨n0, n1, n2, n3, n4, n5⟩ := dsc_cells K4
        have K5 : Blk (((w1.setCell ⟨w.heap.size, 1, none⟩ (.int .i64 (count / 3))).setCell ⟨w.heap.size, 2, none⟩ (.string ⟨#[108, 101, 97, 103, 117, 101, 115]⟩)).setCell ⟨w.heap.size, 2, none⟩ (.string ⟨#[108, 101, 97, 103, 117, 101]⟩)) w.heap.size 25 #[.int .i64 2, .int .i64 (count / 3), .string ⟨#[108, 101, 97, 103, 117, 101]⟩, .int .i64 dir, .string a, .string b] := by simpa using K4.set_ 2 (.string ⟨#[108, 101, 97, 103, 117, 101]⟩)
        have f4 := K4.frozen 2
        obtain ⟨o0, o1, o2, o3, o4, o5⟩ := dsc_cells K5
        have R4 : Blk (((w1.setCell ⟨w.heap.size, 1, none⟩ (.int .i64 (count / 3))).setCell ⟨w.heap.size, 2, none⟩ (.string ⟨#[108, 101, 97, 103, 117, 101, 115]⟩)).setCell ⟨w.heap.size, 2, none⟩ (.string ⟨#[108, 101, 97, 103, 117, 101]⟩)) (w.heap.size + 1) 25 #[.int .i64 0, .int .i64 0, .string ⟨#[]⟩, .int .i64 0, .string ⟨#[]⟩, .string ⟨#[]⟩] := ((R1.out.far (p := ⟨w.heap.size, 1, none⟩) (by simp) _).far (p := ⟨w.heap.size, 2, none⟩) (by simp) _).far (p := ⟨w.heap.size, 2, none⟩) (by simp) _
        obtain ⟨g0, g1, g2, g3, g4, g5, g6, g7, g8, g9, g10, g11, g12, g13, g14, g15, g16, g17⟩ := six_facts R4
        go_wp2_with fail
        refine bodyPost_ret (v := .tuple #[(lgV ⟨2, count, unit, dir, a, b⟩).1.val, .int .i64 (lgV ⟨2, count, unit, dir, a, b⟩).2]) (by rw [HX.out]; simp [results, Tryd.results13, go_sem, Dsc.val, zeroD, g12, g13, g14, g15, g16, g17]) rfl ⟨rfl, ((((((((B1.out.setCell (p := ⟨w.heap.size, 1, none⟩) (Nat.le_refl _) _).setCell (p := ⟨w.heap.size, 2, none⟩) (Nat.le_refl _) _).setCell (p := ⟨w.heap.size, 2, none⟩) (Nat.le_refl _) _).setCell (by simp) _).setCell (by simp) _).setCell (by simp) _).setCell (by simp) _).setCell (by simp) _).setCell (by simp) _⟩
      · have q1 : (count / 3 == 1) = false := by simpa using h1
        rw [if_neg h1] at HX
        clear h1 hu
        go_enter Tryd.func13, Tryd.ntmps13
        go_wp2_with fail
        generalize hW : (w.alloc (.cells #[.int .i64 2, .int .i64 count, .string unit, .int .i64 dir, .string a, .string b] 25)).alloc (.cells #[.int .i64 0, .int .i64 0, .string ⟨#[]⟩, .int .i64 0, .string ⟨#[]⟩, .string ⟨#[]⟩] 25) = W
        obtain ⟨bk, br, bw, hsz⟩ := KN.out W hW.symm
        clear hW
        refine (HS.out W bw).mono ?_; rintro e w1 ⟨rfl, b1⟩
        have B1 := Lib.hid (bw.trans (b1.mono bw.size)); have K1 := Lib.hid (bk.below b1 bk.lt); have R1 := Lib.hid (br.below b1 br.lt)
        have z1 : w.heap.size + 1 < w1.heap.size := R1.out.lt
        clear bk br b1
        obtain ⟨k0, k1, k2, k3, k4, k5⟩ := dsc_cells K1.out
        have K3 : Blk (w1.setCell ⟨w.heap.size, 1, none⟩ (.int .i64 (count / 3))) w.heap.size 25 #[.int .i64 2, .int .i64 (count / 3), .string unit, .int .i64 dir, .string a, .string b] := by simpa using K1.out.set_ 1 (.int .i64 (count / 3))
        have K4 : Blk ((w1.setCell ⟨w.heap.size, 1, none⟩ (.int .i64 (count / 3))).setCell ⟨w.heap.size, 2, none⟩ (.string ⟨#[108, 101, 97, 103, 117, 101, 115]⟩)) w.heap.size 25 #[.int .i64 2, .int .i64 (count / 3), .string ⟨#[108, 101, 97, 103, 117, 101, 115]⟩, .int .i64 dir, .string a, .string b] := by simpa using K3.set_ 2 (.string ⟨#[108, 101, 97, 103, 117, 101, 115]⟩)
        have f1 := K1.out.frozen 1
        have f2 := K3.frozen 2
        obtain ⟨m0, m1, m2, m3, m4, m5⟩ := dsc_cells K3
        obtain ⟨n0, n1, n2, n3, n4, n5⟩ := dsc_cells K4
        have R4 : Blk ((w1.setCell ⟨w.heap.size, 1, none⟩ (.int .i64 (count / 3))).setCell ⟨w.heap.size, 2, none⟩ (.string ⟨#[108, 101, 97, 103, 117, 101, 115]⟩)) (w.heap.size + 1) 25 #[.int .i64 0, .int .i64 0, .string ⟨#[]⟩, .int .i64 0, .string ⟨#[]⟩, .string ⟨#[]⟩] := (R1.out.far (p := ⟨w.heap.size, 1, none⟩) (by simp) _).far (p := ⟨w.heap.size, 2, none⟩) (by simp) _
        obtain ⟨g0, g1, g2, g3, g4, g5, g6, g7, g8, g9, g10, g11, g12, g13, g14, g15, g16, g17⟩ := six_facts R4
        go_wp2_with fail
        refine bodyPost_ret (v := .tuple #[(lgV ⟨2, count, unit, dir, a, b⟩).1.val, .int .i64 (lgV ⟨2, count, unit, dir, a, b⟩).2]) (by rw [HX.out]; simp [results, Tryd.results13, go_sem, Dsc.val, zeroD, g12, g13, g14, g15, g16, g17]) rfl ⟨rfl, (((((((B1.out.setCell (p := ⟨w.heap.size, 1, none⟩) (Nat.le_refl _) _).setCell (p := ⟨w.heap.size, 2, none⟩) (Nat.le_refl _) _).setCell (by simp) _).setCell (by simp) _).setCell (by simp) _).setCell (by simp) _).setCell (by simp) _).setCell (by simp) _⟩
    · rw [if_neg (fun h => h3 h.2)] at HX
      have q3 : (count % 3 == 0) = false := by simpa using h3
      clear h3 hu
      go_enter Tryd.func13, Tryd.ntmps13
      go_wp2_with fail
      generalize hW : (w.alloc (.cells #[.int .i64 2, .int .i64 count, .string unit, .int .i64 dir, .string a, .string b] 25)).alloc (.cells #[.int .i64 0, .int .i64 0, .string ⟨#[]⟩, .int .i64 0, .string ⟨#[]⟩, .string ⟨#[]⟩] 25) = W
      obtain ⟨bk, br, bw, hsz⟩ := KN.out W hW.symm
      clear hW
      refine (HS.out W bw).mono ?_; rintro e w1 ⟨rfl, b1⟩
      have B1 := Lib.hid (bw.trans (b1.mono bw.size)); have K1 := Lib.hid (bk.below b1 bk.lt); have R1 := Lib.hid (br.below b1 br.lt)
      have z1 : w.heap.size + 1 < w1.heap.size := R1.out.lt
      clear bk br b1
      obtain ⟨k0, k1, k2, k3, k4, k5⟩ := dsc_cells K1.out
      obtain ⟨g0, g1, g2, g3, g4, g5, g6, g7, g8, g9, g10, g11, g12, g13, g14, g15, g16, g17⟩ := six_facts R1.out
      go_wp2_with fail
      refine bodyPost_ret (v := .tuple #[(lgV ⟨2, count, unit, dir, a, b⟩).1.val, .int .i64 (lgV ⟨2, count, unit, dir, a, b⟩).2]) (by rw [HX.out]; simp [results, Tryd.results13, go_sem, Dsc.val, zeroD, g12, g13, g14, g15, g16, g17]) rfl ⟨rfl, ((((((B1.out).setCell (by simp) _).setCell (by simp) _).setCell (by simp) _).setCell (by simp) _).setCell (by simp) _).setCell (by simp) _⟩
  · rw [if_neg (fun h => hu h.1)] at HX
    rw [decide_eq_false hu] at su
    clear hu
    go_enter Tryd.func13, Tryd.ntmps13
    go_wp2_with fail
    generalize hW : (w.alloc (.cells #[.int .i64 kind, .int .i64 count, .string unit, .int .i64 dir, .string a, .string b] 25)).alloc (.cells #[.int .i64 0, .int .i64 0, .string ⟨#[]⟩, .int .i64 0, .string ⟨#[]⟩, .string ⟨#[]⟩] 25) = W
    obtain ⟨bk, br, bw, hsz⟩ := KN.out W hW.symm
    clear hW
    refine (HS.out W bw).mono ?_; rintro e w1 ⟨rfl, b1⟩
    have B1 := Lib.hid (bw.trans (b1.mono bw.size)); have K1 := Lib.hid (bk.below b1 bk.lt); have R1 := Lib.hid (br.below b1 br.lt)
    have z1 : w.heap.size + 1 < w1.heap.size := R1.out.lt
    clear bk br b1
    obtain ⟨k0, k1, k2, k3, k4, k5⟩ := dsc_cells K1.out
    obtain ⟨g0, g1, g2, g3, g4, g5, g6, g7, g8, g9, g10, g11, g12, g13, g14, g15, g16, g17⟩ := six_facts R1.out
    go_wp2_with fail
    refine bodyPost_ret (v := .tuple #[(lgV ⟨kind, count, unit, dir, a, b⟩).1.val, .int .i64 (lgV ⟨kind, count, unit, dir, a, b⟩).2]) (by rw [HX.out]; simp [results, Tryd.results13, go_sem, Dsc.val, zeroD, g12, g13, g14, g15, g16, g17]) rfl ⟨rfl, ((((((B1.out).setCell (by simp) _).setCell (by simp) _).setCell (by simp) _).setCell (by simp) _).setCell (by simp) _).setCell (by simp) _⟩
end Go.Proofs.YtnbpbidflacoiaaDoor
