/- ReplacePlaceIn of both. -/
import Derived.Test.YtnbpbidflacoiaaDoorRows
import Derived.Test.YtnbpbidflacoiaaDoorL0
import Derived.Test.YtnbpbidflacoiaaDoorM0
import Derived.WalkKit
import Derived.ProofKit
import Derived.OpenShut
import Derived.BigQuiet
import Derived.Outline
import Derived.WalkSpells
import Derived.WalkLawsBesides
import Derived.Deep.DeepCutAuto
import Derived.Test.YtnbpbidflacoiaaDoorQH
import Derived.Lib.Hide
import Derived.IntWalk
namespace Go.Proofs.YtnbpbidflacoiaaDoor
open Go.ChangeShapes Go.WideShapes Go.ChangeAt Go.RowKit Go.Sort

/-- What ReplacePlaceIn gives. -/
def repV (d : Dsc) (old code : ByteArray) : Dsc × Int := if isD d = true then (if ¬ old = ⟨#[]⟩ ∧ (d.a = old ∨ d.b = old) then (if d.a = old then (if isD { d with a := code } = true then ({ d with a := code }, 0) else (zeroD, 5)) else (if isD { d with b := code } = true then ({ d with b := code }, 0) else (zeroD, 5))) else (zeroD, 4)) else (zeroD, 1)
theorem code_pos {s : ByteArray} (h : codeW s = true) : s ≠ ⟨#[]⟩ := by
  rintro rfl
  simp [codeW, wordB, inB] at h
  exact absurd h.2.1.2 (by decide)
theorem places_hit {d : Dsc} (h : isD d = true) {old : ByteArray} : (0 ≤ ixS old (placesD d)) ↔ (¬ old = ⟨#[]⟩ ∧ (d.a = old ∨ d.b = old)) := by
  rw [ixS_mem]
  have h' := h
  rw [isD, Bool.and_eq_true] at h'
  have ha := code_pos h'.1
  unfold placesD
  by_cases hk : d.kind = 3
  · rw [if_pos hk]
    rw [if_neg (by omega), if_neg (by omega)] at h'
    simp only [Bool.and_eq_true] at h'
    have hb := code_pos h'.2.2.2.1
    simp only [List.mem_cons, List.not_mem_nil, or_false]
    constructor
    · rintro (rfl | rfl)
      · exact ⟨ha, .inl rfl⟩
      · exact ⟨hb, .inr rfl⟩
    · rintro ⟨_, h | h⟩
      · exact .inl h.symm
      · exact .inr h.symm
  · rw [if_neg hk]
    have hb : d.b = ⟨#[]⟩ := by
      by_cases h2 : d.kind = 2
      · exact (isD_from h h2).2.2.2
      · rw [if_neg h2] at h'
        simp only [Bool.and_eq_true] at h'
        have h3 := h'.2.2
        split at h3
        · simpa using h3
        · simp [hk] at h3
    simp only [List.mem_cons, List.not_mem_nil, or_false]
    constructor
    · rintro rfl
      exact ⟨ha, .inl rfl⟩
    · rintro ⟨h0, h | h⟩
      · exact h.symm
      · exact absurd (h.symm.trans hb) h0
set_option maxRecDepth 100000 in
set_option maxHeartbeats 4000000 in
theorem specRep_any (d : Dsc) (hd : d.Ok) (old : ByteArray) (hold : old.size ≤ 9223372036854775807) (code : ByteArray) (hcode : code.size ≤ 9223372036854775807) (w : World) :
    Calls Tryd.prog 17 #[d.val, .string old, .string code] w fun e w' => e = .returned (.tuple #[(repV d old code).1.val, .int .i64 (repV d old code).2]) ∧ Below w.heap.size w w' := by
  have HS := Lib.hid (specIsD_any d hd)
  have HSa := Lib.hid (specIsD_any { d with a := code } ⟨hd.1, hcode, hd.2.2⟩)
  have HSb := Lib.hid (specIsD_any { d with b := code } ⟨hd.1, hd.2.1, hcode⟩)
  have HX := Lib.hid (show repV d old code = if isD d = true then (if ¬ old = ⟨#[]⟩ ∧ (d.a = old ∨ d.b = old) then (if d.a = old then (if isD { d with a := code } = true then ({ d with a := code }, 0) else (zeroD, 5)) else (if isD { d with b := code } = true then ({ d with b := code }, 0) else (zeroD, 5))) else (zeroD, 4)) else (zeroD, 1) from rfl)
  have s0 := str_lit old []
  have sa := str_eq d.a old
  have sb := str_eq d.b old
  obtain ⟨kind, count, unit, dir, a, b⟩ := d
  unfold Dsc.val at HS HSa HSb
  dsimp only at HS HSa HSb HX sa sb
  generalize isD ⟨kind, count, unit, dir, a, b⟩ = i at HS HX
  change Calls Tryd.prog 17 #[.agg #[.int .i64 kind, .int .i64 count, .string unit, .int .i64 dir, .string a, .string b], .string old, .string code] w _
  have KN := Lib.hid (two_new w 25 #[.int .i64 kind, .int .i64 count, .string unit, .int .i64 dir, .string a, .string b] #[.int .i64 0, .int .i64 0, .string ⟨#[]⟩, .int .i64 0, .string ⟨#[]⟩, .string ⟨#[]⟩])
  cases i
  · rw [if_neg (by decide)] at HX
    go_enter Tryd.func17, Tryd.ntmps17
    go_wp2_with fail
    generalize hW : (w.alloc (.cells #[.int .i64 kind, .int .i64 count, .string unit, .int .i64 dir, .string a, .string b] 25)).alloc (.cells #[.int .i64 0, .int .i64 0, .string ⟨#[]⟩, .int .i64 0, .string ⟨#[]⟩, .string ⟨#[]⟩] 25) = W
    obtain ⟨bk, br, bw, hsz⟩ := KN.out W hW.symm
    clear hW
    refine (HS.out W).mono ?_; rintro e w1 ⟨rfl, b1⟩
    have B1 := Lib.hid (bw.trans (b1.mono bw.size)); have K1 := Lib.hid (bk.below b1 bk.lt); have R1 := Lib.hid (br.below b1 br.lt)
    have z1 : w.heap.size + 1 < w1.heap.size := R1.out.lt
    clear bk br b1
    obtain ⟨k0, k1, k2, k3, k4, k5⟩ := dsc_cells K1.out
    obtain ⟨g0, g1, g2, g3, g4, g5, g6, g7, g8, g9, g10, g11, g12, g13, g14, g15, g16, g17⟩ := six_facts R1.out
    go_wp2_with fail
    refine bodyPost_ret (v := .tuple #[(repV ⟨kind, count, unit, dir, a, b⟩ old code).1.val, .int .i64 (repV ⟨kind, count, unit, dir, a, b⟩ old code).2]) (by rw [HX.out]; simp [results, Tryd.results17, go_sem, Dsc.val, zeroD, g12, g13, g14, g15, g16, g17]) rfl ⟨rfl, ((((((B1.out).setCell (by simp) _).setCell (by simp) _).setCell (by simp) _).setCell (by simp) _).setCell (by simp) _).setCell (by simp) _⟩
  rw [if_pos rfl] at HX
  by_cases h0 : old = ⟨#[]⟩
  · rw [decide_eq_true h0] at s0
    rw [if_neg (fun h => h.1 h0)] at HX
    clear h0
    go_enter Tryd.func17, Tryd.ntmps17
    go_wp2_with fail
    generalize hW : (w.alloc (.cells #[.int .i64 kind, .int .i64 count, .string unit, .int .i64 dir, .string a, .string b] 25)).alloc (.cells #[.int .i64 0, .int .i64 0, .string ⟨#[]⟩, .int .i64 0, .string ⟨#[]⟩, .string ⟨#[]⟩] 25) = W
    obtain ⟨bk, br, bw, hsz⟩ := KN.out W hW.symm
    clear hW
    refine (HS.out W).mono ?_; rintro e w1 ⟨rfl, b1⟩
    have B1 := Lib.hid (bw.trans (b1.mono bw.size)); have K1 := Lib.hid (bk.below b1 bk.lt); have R1 := Lib.hid (br.below b1 br.lt)
    have z1 : w.heap.size + 1 < w1.heap.size := R1.out.lt
    clear bk br b1
    obtain ⟨k0, k1, k2, k3, k4, k5⟩ := dsc_cells K1.out
    obtain ⟨k0, k1, k2, k3, k4, k5⟩ := dsc_cells K1.out
    obtain ⟨g0, g1, g2, g3, g4, g5, g6, g7, g8, g9, g10, g11, g12, g13, g14, g15, g16, g17⟩ := six_facts R1.out
    go_wp2_with fail
    refine bodyPost_ret (v := .tuple #[(repV ⟨kind, count, unit, dir, a, b⟩ old code).1.val, .int .i64 (repV ⟨kind, count, unit, dir, a, b⟩ old code).2]) (by rw [HX.out]; simp [results, Tryd.results17, go_sem, Dsc.val, zeroD, g12, g13, g14, g15, g16, g17]) rfl ⟨rfl, ((((((B1.out).setCell (by simp) _).setCell (by simp) _).setCell (by simp) _).setCell (by simp) _).setCell (by simp) _).setCell (by simp) _⟩
  rw [decide_eq_false h0] at s0
  by_cases ha : a = old
  · rw [if_pos ⟨h0, .inl ha⟩, if_pos ha] at HX
    rw [decide_eq_true ha] at sa
    have HS2 := Lib.hid HSa.out
    generalize isD ⟨kind, count, unit, dir, code, b⟩ = i2 at HS2 HX
    clear h0 ha
    cases i2
    all_goals
      go_enter Tryd.func17, Tryd.ntmps17
      go_wp2_with fail
      generalize hW : (w.alloc (.cells #[.int .i64 kind, .int .i64 count, .string unit, .int .i64 dir, .string a, .string b] 25)).alloc (.cells #[.int .i64 0, .int .i64 0, .string ⟨#[]⟩, .int .i64 0, .string ⟨#[]⟩, .string ⟨#[]⟩] 25) = W
      obtain ⟨bk, br, bw, hsz⟩ := KN.out W hW.symm
      clear hW
      refine (HS.out W).mono ?_; rintro e w1 ⟨rfl, b1⟩
      have B1 := Lib.hid (bw.trans (b1.mono bw.size)); have K1 := Lib.hid (bk.below b1 bk.lt); have R1 := Lib.hid (br.below b1 br.lt)
      have z1 : w.heap.size + 1 < w1.heap.size := R1.out.lt
      clear bk br b1
      obtain ⟨k0, k1, k2, k3, k4, k5⟩ := dsc_cells K1.out
      obtain ⟨k0, k1, k2, k3, k4, k5⟩ := dsc_cells K1.out
      have KA : Blk (w1.setCell ⟨w.heap.size, 4, none⟩ (.string code)) w.heap.size 25 #[.int .i64 kind, .int .i64 count, .string unit, .int .i64 dir, .string code, .string b] := by simpa using K1.out.set_ 4 (.string code)
      have f4 := K1.out.frozen 4
      have RA : Blk (w1.setCell ⟨w.heap.size, 4, none⟩ (.string code)) (w.heap.size + 1) 25 #[.int .i64 0, .int .i64 0, .string ⟨#[]⟩, .int .i64 0, .string ⟨#[]⟩, .string ⟨#[]⟩] := R1.out.far (p := ⟨w.heap.size, 4, none⟩) (by simp) _
      have BA : Below w.heap.size w (w1.setCell ⟨w.heap.size, 4, none⟩ (.string code)) := B1.out.setCell (p := ⟨w.heap.size, 4, none⟩) (Nat.le_refl _) _
      obtain ⟨m0, m1, m2, m3, m4, m5⟩ := dsc_cells KA
      go_wp2_with fail
      generalize (w1.setCell ⟨w.heap.size, 4, none⟩ (.string code)) = w3 at KA RA BA m0 m1 m2 m3 m4 m5
      have KB := Lib.hid KA; have RB := Lib.hid RA; have BB := Lib.hid BA
      clear KA RA BA f4
      refine (HS2.out w3).mono ?_; rintro e w4 ⟨rfl, b4⟩
      have B4 := Lib.hid (BB.out.trans (b4.mono BB.out.size)); have K4 := Lib.hid (KB.out.below b4 KB.out.lt); have R4 := Lib.hid (RB.out.below b4 RB.out.lt)
      clear b4
      obtain ⟨k0, k1, k2, k3, k4, k5⟩ := dsc_cells K4.out
      obtain ⟨g0, g1, g2, g3, g4, g5, g6, g7, g8, g9, g10, g11, g12, g13, g14, g15, g16, g17⟩ := six_facts R4.out
      go_wp2_with fail
      refine bodyPost_ret (v := .tuple #[(repV ⟨kind, count, unit, dir, a, b⟩ old code).1.val, .int .i64 (repV ⟨kind, count, unit, dir, a, b⟩ old code).2]) (by rw [HX.out]; simp [results, Tryd.results17, go_sem, Dsc.val, zeroD, g12, g13, g14, g15, g16, g17]) rfl ⟨rfl, ((((((B4.out).setCell (by simp) _).setCell (by simp) _).setCell (by simp) _).setCell (by simp) _).setCell (by simp) _).setCell (by simp) _⟩
  rw [decide_eq_false ha] at sa
  by_cases hb : b = old
  rotate_left
  · rw [decide_eq_false hb] at sb
    rw [if_neg (fun h => h.2.elim ha hb)] at HX
    clear h0 ha hb
    go_enter Tryd.func17, Tryd.ntmps17
    go_wp2_with fail
    generalize hW : (w.alloc (.cells #[.int .i64 kind, .int .i64 count, .string unit, .int .i64 dir, .string a, .string b] 25)).alloc (.cells #[.int .i64 0, .int .i64 0, .string ⟨#[]⟩, .int .i64 0, .string ⟨#[]⟩, .string ⟨#[]⟩] 25) = W
    obtain ⟨bk, br, bw, hsz⟩ := KN.out W hW.symm
    clear hW
    refine (HS.out W).mono ?_; rintro e w1 ⟨rfl, b1⟩
    have B1 := Lib.hid (bw.trans (b1.mono bw.size)); have K1 := Lib.hid (bk.below b1 bk.lt); have R1 := Lib.hid (br.below b1 br.lt)
    have z1 : w.heap.size + 1 < w1.heap.size := R1.out.lt
    clear bk br b1
    obtain ⟨k0, k1, k2, k3, k4, k5⟩ := dsc_cells K1.out
    obtain ⟨k0, k1, k2, k3, k4, k5⟩ := dsc_cells K1.out
    obtain ⟨g0, g1, g2, g3, g4, g5, g6, g7, g8, g9, g10, g11, g12, g13, g14, g15, g16, g17⟩ := six_facts R1.out
    go_wp2_with fail
    refine bodyPost_ret (v := .tuple #[(repV ⟨kind, count, unit, dir, a, b⟩ old code).1.val, .int .i64 (repV ⟨kind, count, unit, dir, a, b⟩ old code).2]) (by rw [HX.out]; simp [results, Tryd.results17, go_sem, Dsc.val, zeroD, g12, g13, g14, g15, g16, g17]) rfl ⟨rfl, ((((((B1.out).setCell (by simp) _).setCell (by simp) _).setCell (by simp) _).setCell (by simp) _).setCell (by simp) _).setCell (by simp) _⟩
  rw [decide_eq_true hb] at sb
  rw [if_pos ⟨h0, .inr hb⟩, if_neg ha] at HX
  have HS2 := Lib.hid HSb.out
  generalize isD ⟨kind, count, unit, dir, a, code⟩ = i2 at HS2 HX
  clear h0 ha hb
  cases i2
  all_goals
    go_enter Tryd.func17, Tryd.ntmps17
    go_wp2_with fail
    generalize hW : (w.alloc (.cells #[.int .i64 kind, .int .i64 count, .string unit, .int .i64 dir, .string a, .string b] 25)).alloc (.cells #[.int .i64 0, .int .i64 0, .string ⟨#[]⟩, .int .i64 0, .string ⟨#[]⟩, .string ⟨#[]⟩] 25) = W
    obtain ⟨bk, br, bw, hsz⟩ := KN.out W hW.symm
    clear hW
    refine (HS.out W).mono ?_; rintro e w1 ⟨rfl, b1⟩
    have B1 := Lib.hid (bw.trans (b1.mono bw.size)); have K1 := Lib.hid (bk.below b1 bk.lt); have R1 := Lib.hid (br.below b1 br.lt)
    have z1 : w.heap.size + 1 < w1.heap.size := R1.out.lt
    clear bk br b1
    obtain ⟨k0, k1, k2, k3, k4, k5⟩ := dsc_cells K1.out
    obtain ⟨k0, k1, k2, k3, k4, k5⟩ := dsc_cells K1.out
    have KA : Blk (w1.setCell ⟨w.heap.size, 5, none⟩ (.string code)) w.heap.size 25 #[.int .i64 kind, .int .i64 count, .string unit, .int .i64 dir, .string a, .string code] := by simpa using K1.out.set_ 5 (.string code)
    have f4 := K1.out.frozen 5
    have RA : Blk (w1.setCell ⟨w.heap.size, 5, none⟩ (.string code)) (w.heap.size + 1) 25 #[.int .i64 0, .int .i64 0, .string ⟨#[]⟩, .int .i64 0, .string ⟨#[]⟩, .string ⟨#[]⟩] := R1.out.far (p := ⟨w.heap.size, 5, none⟩) (by simp) _
    have BA : Below w.heap.size w (w1.setCell ⟨w.heap.size, 5, none⟩ (.string code)) := B1.out.setCell (p := ⟨w.heap.size, 5, none⟩) (Nat.le_refl _) _
    obtain ⟨m0, m1, m2, m3, m4, m5⟩ := dsc_cells KA
    go_wp2_with fail
    generalize (w1.setCell ⟨w.heap.size, 5, none⟩ (.string code)) = w3 at KA RA BA m0 m1 m2 m3 m4 m5
    have KB := Lib.hid KA; have RB := Lib.hid RA; have BB := Lib.hid BA
    clear KA RA BA f4
    refine (HS2.out w3).mono ?_; rintro e w4 ⟨rfl, b4⟩
    have B4 := Lib.hid (BB.out.trans (b4.mono BB.out.size)); have K4 := Lib.hid (KB.out.below b4 KB.out.lt); have R4 := Lib.hid (RB.out.below b4 RB.out.lt)
    clear b4
    obtain ⟨k0, k1, k2, k3, k4, k5⟩ := dsc_cells K4.out
    obtain ⟨g0, g1, g2, g3, g4, g5, g6, g7, g8, g9, g10, g11, g12, g13, g14, g15, g16, g17⟩ := six_facts R4.out
    go_wp2_with fail
    refine bodyPost_ret (v := .tuple #[(repV ⟨kind, count, unit, dir, a, b⟩ old code).1.val, .int .i64 (repV ⟨kind, count, unit, dir, a, b⟩ old code).2]) (by rw [HX.out]; simp [results, Tryd.results17, go_sem, Dsc.val, zeroD, g12, g13, g14, g15, g16, g17]) rfl ⟨rfl, ((((((B4.out).setCell (by simp) _).setCell (by simp) _).setCell (by simp) _).setCell (by simp) _).setCell (by simp) _).setCell (by simp) _⟩
set_option maxRecDepth 100000 in
set_option maxHeartbeats 4000000 in
theorem implRep_any (d : Dsc) (hd : d.Ok) (old : ByteArray) (hold : old.size ≤ 9223372036854775807) (code : ByteArray) (hcode : code.size ≤ 9223372036854775807) (w : World) (hdir : Dirs w) :
    Calls Tryd.prog 16 #[d.val, .string old, .string code] w fun e w' => e = .returned (.tuple #[(repV d old code).1.val, .int .i64 (repV d old code).2]) ∧ Below w.heap.size w w' := by
  have HS := Lib.hid (fun W (h : Below w.heap.size w W) => implIsD_any d hd W (hdir.below h))
  have HSa := Lib.hid (fun W (h : Below w.heap.size w W) => implIsD_any { d with a := code } ⟨hd.1, hcode, hd.2.2⟩ W (hdir.below h))
  have HSb := Lib.hid (fun W (h : Below w.heap.size w W) => implIsD_any { d with b := code } ⟨hd.1, hd.2.1, hcode⟩ W (hdir.below h))
  have HX := Lib.hid (show repV d old code = if isD d = true then (if ¬ old = ⟨#[]⟩ ∧ (d.a = old ∨ d.b = old) then (if d.a = old then (if isD { d with a := code } = true then ({ d with a := code }, 0) else (zeroD, 5)) else (if isD { d with b := code } = true then ({ d with b := code }, 0) else (zeroD, 5))) else (zeroD, 4)) else (zeroD, 1) from rfl)
  have HP := Lib.hid (places_any d)
  have HCn := Lib.hid (fun A c W hr => containsS_any (placesD d) old (by unfold placesD; split <;> simp) A c W hr)
  have HIn := Lib.hid (fun (h : isD d = true) => places_hit h (old := old))
  generalize placesD d = PL at HP HCn HIn
  have s0 := str_lit old []
  have sa := str_eq d.a old
  have sb := str_eq d.b old
  obtain ⟨kind, count, unit, dir, a, b⟩ := d
  unfold Dsc.val at HS HSa HSb HP
  dsimp only at HS HSa HSb HX sa sb HP HCn HIn
  generalize isD ⟨kind, count, unit, dir, a, b⟩ = i at HS HX HIn
  change Calls Tryd.prog 16 #[.agg #[.int .i64 kind, .int .i64 count, .string unit, .int .i64 dir, .string a, .string b], .string old, .string code] w _
  have KN := Lib.hid (two_new w 25 #[.int .i64 kind, .int .i64 count, .string unit, .int .i64 dir, .string a, .string b] #[.int .i64 0, .int .i64 0, .string ⟨#[]⟩, .int .i64 0, .string ⟨#[]⟩, .string ⟨#[]⟩])
  cases i
  · rw [if_neg (by decide)] at HX
    go_enter Tryd.func16, Tryd.ntmps16
    go_wp2_with fail
    generalize hW : (w.alloc (.cells #[.int .i64 kind, .int .i64 count, .string unit, .int .i64 dir, .string a, .string b] 25)).alloc (.cells #[.int .i64 0, .int .i64 0, .string ⟨#[]⟩, .int .i64 0, .string ⟨#[]⟩, .string ⟨#[]⟩] 25) = W
    obtain ⟨bk, br, bw, hsz⟩ := KN.out W hW.symm
    clear hW
    refine (HS.out W bw).mono ?_; rintro e w1 ⟨rfl, b1⟩
    have B1 := Lib.hid (bw.trans (b1.mono bw.size)); have K1 := Lib.hid (bk.below b1 bk.lt); have R1 := Lib.hid (br.below b1 br.lt)
    have z1 : w.heap.size + 1 < w1.heap.size := R1.out.lt
    clear bk br b1
    obtain ⟨k0, k1, k2, k3, k4, k5⟩ := dsc_cells K1.out
    obtain ⟨g0, g1, g2, g3, g4, g5, g6, g7, g8, g9, g10, g11, g12, g13, g14, g15, g16, g17⟩ := six_facts R1.out
    go_wp2_with fail
    refine bodyPost_ret (v := .tuple #[(repV ⟨kind, count, unit, dir, a, b⟩ old code).1.val, .int .i64 (repV ⟨kind, count, unit, dir, a, b⟩ old code).2]) (by rw [HX.out]; simp [results, Tryd.results16, go_sem, Dsc.val, zeroD, g12, g13, g14, g15, g16, g17]) rfl ⟨rfl, ((((((B1.out).setCell (by simp) _).setCell (by simp) _).setCell (by simp) _).setCell (by simp) _).setCell (by simp) _).setCell (by simp) _⟩
  rw [if_pos rfl] at HX
  replace HIn := Lib.hid (HIn.out rfl)
  by_cases hh : ¬ old = ⟨#[]⟩ ∧ (a = old ∨ b = old)
  rotate_left
  · rw [if_neg hh] at HX
    rw [decide_eq_false (fun h => hh (HIn.out.1 h))] at HCn
    clear hh
    go_enter Tryd.func16, Tryd.ntmps16
    go_wp2_with fail
    generalize hW : (w.alloc (.cells #[.int .i64 kind, .int .i64 count, .string unit, .int .i64 dir, .string a, .string b] 25)).alloc (.cells #[.int .i64 0, .int .i64 0, .string ⟨#[]⟩, .int .i64 0, .string ⟨#[]⟩, .string ⟨#[]⟩] 25) = W
    obtain ⟨bk, br, bw, hsz⟩ := KN.out W hW.symm
    clear hW
    refine (HS.out W bw).mono ?_; rintro e w1 ⟨rfl, b1⟩
    have B1 := Lib.hid (bw.trans (b1.mono bw.size)); have K1 := Lib.hid (bk.below b1 bk.lt); have R1 := Lib.hid (br.below b1 br.lt)
    have z1 : w.heap.size + 1 < w1.heap.size := R1.out.lt
    clear bk br b1
    obtain ⟨k0, k1, k2, k3, k4, k5⟩ := dsc_cells K1.out
    go_wp2_with fail
    refine (HP.out w1).mono ?_; rintro e w2 ⟨v, rfl, own, b2⟩
    obtain ⟨Av, cv, rfl, _⟩ := own_shape own
    have RV := Lib.hid (Reads.of_own own)
    have B2 := Lib.hid (B1.out.trans (b2.mono B1.out.size)); have K2 := Lib.hid (K1.out.below b2 K1.out.lt); have R2 := Lib.hid (R1.out.below b2 R1.out.lt); have z2 : w.heap.size + 1 < w2.heap.size := R2.out.lt
    clear b2 own
    go_wp2_with fail
    refine (HCn.out Av cv w2 RV.out).mono ?_; rintro e w' ⟨rfl, rfl⟩
    obtain ⟨k0, k1, k2, k3, k4, k5⟩ := dsc_cells K2.out
    obtain ⟨g0, g1, g2, g3, g4, g5, g6, g7, g8, g9, g10, g11, g12, g13, g14, g15, g16, g17⟩ := six_facts R2.out
    go_wp2_with fail
    refine bodyPost_ret (v := .tuple #[(repV ⟨kind, count, unit, dir, a, b⟩ old code).1.val, .int .i64 (repV ⟨kind, count, unit, dir, a, b⟩ old code).2]) (by rw [HX.out]; simp [results, Tryd.results16, go_sem, Dsc.val, zeroD, g12, g13, g14, g15, g16, g17]) rfl ⟨rfl, ((((((B2.out).setCell (by simp) _).setCell (by simp) _).setCell (by simp) _).setCell (by simp) _).setCell (by simp) _).setCell (by simp) _⟩
  rw [decide_eq_true (HIn.out.2 hh)] at HCn
  obtain ⟨h0, hh⟩ := hh
  by_cases ha : a = old
  · rw [if_pos ⟨h0, .inl ha⟩, if_pos ha] at HX
    rw [decide_eq_true ha] at sa
    have HS2 := Lib.hid HSa.out
    generalize isD ⟨kind, count, unit, dir, code, b⟩ = i2 at HS2 HX
    clear h0 ha
    cases i2
    all_goals
      go_enter Tryd.func16, Tryd.ntmps16
      go_wp2_with fail
      generalize hW : (w.alloc (.cells #[.int .i64 kind, .int .i64 count, .string unit, .int .i64 dir, .string a, .string b] 25)).alloc (.cells #[.int .i64 0, .int .i64 0, .string ⟨#[]⟩, .int .i64 0, .string ⟨#[]⟩, .string ⟨#[]⟩] 25) = W
      obtain ⟨bk, br, bw, hsz⟩ := KN.out W hW.symm
      clear hW
      refine (HS.out W bw).mono ?_; rintro e w1 ⟨rfl, b1⟩
      have B1 := Lib.hid (bw.trans (b1.mono bw.size)); have K1 := Lib.hid (bk.below b1 bk.lt); have R1 := Lib.hid (br.below b1 br.lt)
      have z1 : w.heap.size + 1 < w1.heap.size := R1.out.lt
      clear bk br b1
      obtain ⟨k0, k1, k2, k3, k4, k5⟩ := dsc_cells K1.out
      go_wp2_with fail
      refine (HP.out w1).mono ?_; rintro e w2 ⟨v, rfl, own, b2⟩
      obtain ⟨Av, cv, rfl, _⟩ := own_shape own
      have RV := Lib.hid (Reads.of_own own)
      have B2 := Lib.hid (B1.out.trans (b2.mono B1.out.size)); have K2 := Lib.hid (K1.out.below b2 K1.out.lt); have R2 := Lib.hid (R1.out.below b2 R1.out.lt); have z2 : w.heap.size + 1 < w2.heap.size := R2.out.lt
      clear b2 own
      go_wp2_with fail
      refine (HCn.out Av cv w2 RV.out).mono ?_; rintro e w' ⟨rfl, rfl⟩
      obtain ⟨k0, k1, k2, k3, k4, k5⟩ := dsc_cells K2.out
      have KA : Blk (w2.setCell ⟨w.heap.size, 4, none⟩ (.string code)) w.heap.size 25 #[.int .i64 kind, .int .i64 count, .string unit, .int .i64 dir, .string code, .string b] := by simpa using K2.out.set_ 4 (.string code)
      have f4 := K2.out.frozen 4
      have RA : Blk (w2.setCell ⟨w.heap.size, 4, none⟩ (.string code)) (w.heap.size + 1) 25 #[.int .i64 0, .int .i64 0, .string ⟨#[]⟩, .int .i64 0, .string ⟨#[]⟩, .string ⟨#[]⟩] := R2.out.far (p := ⟨w.heap.size, 4, none⟩) (by simp) _
      have BA : Below w.heap.size w (w2.setCell ⟨w.heap.size, 4, none⟩ (.string code)) := B2.out.setCell (p := ⟨w.heap.size, 4, none⟩) (Nat.le_refl _) _
      obtain ⟨m0, m1, m2, m3, m4, m5⟩ := dsc_cells KA
      go_wp2_with fail
      generalize (w2.setCell ⟨w.heap.size, 4, none⟩ (.string code)) = w3 at KA RA BA m0 m1 m2 m3 m4 m5
      have KB := Lib.hid KA; have RB := Lib.hid RA; have BB := Lib.hid BA
      clear KA RA BA f4
      refine (HS2.out w3 BB.out).mono ?_; rintro e w4 ⟨rfl, b4⟩
      have B4 := Lib.hid (BB.out.trans (b4.mono BB.out.size)); have K4 := Lib.hid (KB.out.below b4 KB.out.lt); have R4 := Lib.hid (RB.out.below b4 RB.out.lt)
      clear b4
      obtain ⟨k0, k1, k2, k3, k4, k5⟩ := dsc_cells K4.out
      obtain ⟨g0, g1, g2, g3, g4, g5, g6, g7, g8, g9, g10, g11, g12, g13, g14, g15, g16, g17⟩ := six_facts R4.out
      go_wp2_with fail
      refine bodyPost_ret (v := .tuple #[(repV ⟨kind, count, unit, dir, a, b⟩ old code).1.val, .int .i64 (repV ⟨kind, count, unit, dir, a, b⟩ old code).2]) (by rw [HX.out]; simp [results, Tryd.results16, go_sem, Dsc.val, zeroD, g12, g13, g14, g15, g16, g17]) rfl ⟨rfl, ((((((B4.out).setCell (by simp) _).setCell (by simp) _).setCell (by simp) _).setCell (by simp) _).setCell (by simp) _).setCell (by simp) _⟩
  rw [decide_eq_false ha] at sa
  have hb : b = old := hh.resolve_left ha
  rw [if_pos ⟨h0, .inr hb⟩, if_neg ha] at HX
  have HS2 := Lib.hid HSb.out
  generalize isD ⟨kind, count, unit, dir, a, code⟩ = i2 at HS2 HX
  clear h0 ha hb
  cases i2
  all_goals
    go_enter Tryd.func16, Tryd.ntmps16
    go_wp2_with fail
    generalize hW : (w.alloc (.cells #[.int .i64 kind, .int .i64 count, .string unit, .int .i64 dir, .string a, .string b] 25)).alloc (.cells #[.int .i64 0, .int .i64 0, .string ⟨#[]⟩, .int .i64 0, .string ⟨#[]⟩, .string ⟨#[]⟩] 25) = W
    obtain ⟨bk, br, bw, hsz⟩ := KN.out W hW.symm
    clear hW
    refine (HS.out W bw).mono ?_; rintro e w1 ⟨rfl, b1⟩
    have B1 := Lib.hid (bw.trans (b1.mono bw.size)); have K1 := Lib.hid (bk.below b1 bk.lt); have R1 := Lib.hid (br.below b1 br.lt)
    have z1 : w.heap.size + 1 < w1.heap.size := R1.out.lt
    clear bk br b1
    obtain ⟨k0, k1, k2, k3, k4, k5⟩ := dsc_cells K1.out
    go_wp2_with fail
    refine (HP.out w1).mono ?_; rintro e w2 ⟨v, rfl, own, b2⟩
    obtain ⟨Av, cv, rfl, _⟩ := own_shape own
    have RV := Lib.hid (Reads.of_own own)
    have B2 := Lib.hid (B1.out.trans (b2.mono B1.out.size)); have K2 := Lib.hid (K1.out.below b2 K1.out.lt); have R2 := Lib.hid (R1.out.below b2 R1.out.lt); have z2 : w.heap.size + 1 < w2.heap.size := R2.out.lt
    clear b2 own
    go_wp2_with fail
    refine (HCn.out Av cv w2 RV.out).mono ?_; rintro e w' ⟨rfl, rfl⟩
    obtain ⟨k0, k1, k2, k3, k4, k5⟩ := dsc_cells K2.out
    have KA : Blk (w2.setCell ⟨w.heap.size, 5, none⟩ (.string code)) w.heap.size 25 #[.int .i64 kind, .int .i64 count, .string unit, .int .i64 dir, .string a, .string code] := by simpa using K2.out.set_ 5 (.string code)
    have f4 := K2.out.frozen 5
    have RA : Blk (w2.setCell ⟨w.heap.size, 5, none⟩ (.string code)) (w.heap.size + 1) 25 #[.int .i64 0, .int .i64 0, .string ⟨#[]⟩, .int .i64 0, .string ⟨#[]⟩, .string ⟨#[]⟩] := R2.out.far (p := ⟨w.heap.size, 5, none⟩) (by simp) _
    have BA : Below w.heap.size w (w2.setCell ⟨w.heap.size, 5, none⟩ (.string code)) := B2.out.setCell (p := ⟨w.heap.size, 5, none⟩) (Nat.le_refl _) _
    obtain ⟨m0, m1, m2, m3, m4, m5⟩ := dsc_cells KA
    go_wp2_with fail
    generalize (w2.setCell ⟨w.heap.size, 5, none⟩ (.string code)) = w3 at KA RA BA m0 m1 m2 m3 m4 m5
    have KB := Lib.hid KA; have RB := Lib.hid RA; have BB := Lib.hid BA
    clear KA RA BA f4
    refine (HS2.out w3 BB.out).mono ?_; rintro e w4 ⟨rfl, b4⟩
    have B4 := Lib.hid (BB.out.trans (b4.mono BB.out.size)); have K4 := Lib.hid (KB.out.below b4 KB.out.lt); have R4 := Lib.hid (RB.out.below b4 RB.out.lt)
    clear b4
    obtain ⟨k0, k1, k2, k3, k4, k5⟩ := dsc_cells K4.out
    obtain ⟨g0, g1, g2, g3, g4, g5, g6, g7, g8, g9, g10, g11, g12, g13, g14, g15, g16, g17⟩ := six_facts R4.out
    go_wp2_with fail
    refine bodyPost_ret (v := .tuple #[(repV ⟨kind, count, unit, dir, a, b⟩ old code).1.val, .int .i64 (repV ⟨kind, count, unit, dir, a, b⟩ old code).2]) (by rw [HX.out]; simp [results, Tryd.results16, go_sem, Dsc.val, zeroD, g12, g13, g14, g15, g16, g17]) rfl ⟨rfl, ((((((B4.out).setCell (by simp) _).setCell (by simp) _).setCell (by simp) _).setCell (by simp) _).setCell (by simp) _).setCell (by simp) _⟩
end Go.Proofs.YtnbpbidflacoiaaDoor
