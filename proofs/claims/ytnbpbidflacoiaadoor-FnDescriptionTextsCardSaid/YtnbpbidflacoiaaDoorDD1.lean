/- ReadDescription of the reference. -/
import Derived.Test.YtnbpbidflacoiaaDoorRows
import Derived.Test.YtnbpbidflacoiaaDoorL0
import Derived.Test.YtnbpbidflacoiaaDoorM0
import Derived.WalkKit
import Derived.ProofKit
import Derived.OpenShut
import Derived.BigQuiet
import Derived.Outline
import Derived.WalkSpells
import Derived.WalkLawsBesides
import Derived.Deep.DeepCutAuto
import Derived.Test.YtnbpbidflacoiaaDoorDN8
import Derived.Test.YtnbpbidflacoiaaDoorDN6
import Derived.Test.YtnbpbidflacoiaaDoorDG3
import Derived.Test.YtnbpbidflacoiaaDoorQ7
import Derived.Test.YtnbpbidflacoiaaDoorRB
namespace Go.Proofs.YtnbpbidflacoiaaDoor
open Go.ChangeShapes Go.WideShapes Go.ChangeAt Go.RowKit Go.Sort

theorem six_set {W : World} {g : Nat} {t : TypeId} {z0 z1 z2 z3 z4 z5 : Value} (h : Blk W g t #[z0, z1, z2, z3, z4, z5]) (v0 v1 v2 v3 v4 v5 : Value) : Blk ((((((W.setCell ⟨g, 0, none⟩ v0).setCell ⟨g, 1, none⟩ v1).setCell ⟨g, 2, none⟩ v2).setCell ⟨g, 3, none⟩ v3).setCell ⟨g, 4, none⟩ v4).setCell ⟨g, 5, none⟩ v5) g t #[v0, v1, v2, v3, v4, v5] := by
  have b1 : Blk (W.setCell ⟨g, 0, none⟩ v0) g t #[v0, z1, z2, z3, z4, z5] := by simpa using h.set_ 0 v0
  have b2 : Blk ((W.setCell ⟨g, 0, none⟩ v0).setCell ⟨g, 1, none⟩ v1) g t #[v0, v1, z2, z3, z4, z5] := by simpa using b1.set_ 1 v1
  have b3 : Blk (((W.setCell ⟨g, 0, none⟩ v0).setCell ⟨g, 1, none⟩ v1).setCell ⟨g, 2, none⟩ v2) g t #[v0, v1, v2, z3, z4, z5] := by simpa using b2.set_ 2 v2
  have b4 : Blk ((((W.setCell ⟨g, 0, none⟩ v0).setCell ⟨g, 1, none⟩ v1).setCell ⟨g, 2, none⟩ v2).setCell ⟨g, 3, none⟩ v3) g t #[v0, v1, v2, v3, z4, z5] := by simpa using b3.set_ 3 v3
  have b5 : Blk (((((W.setCell ⟨g, 0, none⟩ v0).setCell ⟨g, 1, none⟩ v1).setCell ⟨g, 2, none⟩ v2).setCell ⟨g, 3, none⟩ v3).setCell ⟨g, 4, none⟩ v4) g t #[v0, v1, v2, v3, v4, z5] := by simpa using b4.set_ 4 v4
  simpa using b5.set_ 5 v5
theorem six_far {W : World} {g h : Nat} {t : TypeId} {cs : Array Value} (k : Blk W h t cs) (hn : h ≠ g) (v0 v1 v2 v3 v4 v5 : Value) : Blk ((((((W.setCell ⟨g, 0, none⟩ v0).setCell ⟨g, 1, none⟩ v1).setCell ⟨g, 2, none⟩ v2).setCell ⟨g, 3, none⟩ v3).setCell ⟨g, 4, none⟩ v4).setCell ⟨g, 5, none⟩ v5) h t cs :=
  (((((k.far (p := ⟨g, 0, none⟩) hn _).far (p := ⟨g, 1, none⟩) hn _).far (p := ⟨g, 2, none⟩) hn _).far (p := ⟨g, 3, none⟩) hn _).far (p := ⟨g, 4, none⟩) hn _).far (p := ⟨g, 5, none⟩) hn _
theorem six_below {m : Nat} {w W : World} {g : Nat} (b : Below m w W) (hg : m ≤ g) (v0 v1 v2 v3 v4 v5 : Value) : Below m w ((((((W.setCell ⟨g, 0, none⟩ v0).setCell ⟨g, 1, none⟩ v1).setCell ⟨g, 2, none⟩ v2).setCell ⟨g, 3, none⟩ v3).setCell ⟨g, 4, none⟩ v4).setCell ⟨g, 5, none⟩ v5) :=
  (((((b.setCell (p := ⟨g, 0, none⟩) hg _).setCell (p := ⟨g, 1, none⟩) hg _).setCell (p := ⟨g, 2, none⟩) hg _).setCell (p := ⟨g, 3, none⟩) hg _).setCell (p := ⟨g, 4, none⟩) hg _).setCell (p := ⟨g, 5, none⟩) hg _
theorem read_other {rd : ByteArray → Int} {k0 : Int} {ws : List ByteArray} (h2 : ws.length ≠ 2) (h4 : ws.length ≠ 4) (h5 : ws.length ≠ 5) : readP rd k0 ws = zeroK k0 := by
  unfold readP
  split
  · exact absurd rfl h2
  · exact absurd rfl h4
  · exact absurd rfl h5
  · rfl
theorem len_two {P : List ByteArray} (h : P.length = 2) : ∃ a b, P = [a, b] := by
  match P, h with
  | [a, b], _ => exact ⟨a, b, rfl⟩
theorem len_four {P : List ByteArray} (h : P.length = 4) : ∃ a b c d, P = [a, b, c, d] := by
  match P, h with
  | [a, b, c, d], _ => exact ⟨a, b, c, d, rfl⟩
theorem len_five {P : List ByteArray} (h : P.length = 5) : ∃ a b c d e, P = [a, b, c, d, e] := by
  match P, h with
  | [a, b, c, d, e], _ => exact ⟨a, b, c, d, e, rfl⟩
theorem cut_len0 (s : ByteArray) : (cutB 32 s).length ≤ s.size + 1 := cutF_len 32 s _ _
theorem no_minus : isD (zeroK (-1)) = false := by decide +kernel
set_option maxRecDepth 100000 in
set_option maxHeartbeats 4000000 in
theorem specRD_any (s : ByteArray) (hs : s.size ≤ 1048576) (w : World) :
    Calls Tryd.prog 36 #[.string s] w fun e w' => e = .returned (.tuple #[(rdV (fun x => (valV x).1) (-1) s).1.val, .int .i64 (rdV (fun x => (valV x).1) (-1) s).2]) ∧ Below w.heap.size w w' := by
  have mixed : Tryd.prog.follows Departure.mixedOrders = true := by kernel_rfl
  have HV := Lib.hid (show rdV (fun x => (valV x).1) (-1) s = if isD (readP (fun x => (valV x).1) (-1) (cutB 32 s)) = true ∧ textD (readP (fun x => (valV x).1) (-1) (cutB 32 s)) = s then (readP (fun x => (valV x).1) (-1) (cutB 32 s), 0) else (zeroK 0, 6) from rfl)
  generalize rdV (fun x => (valV x).1) (-1) s = r at HV ⊢
  have HC := Lib.hid (fun W => specSplit_any s 32 (by omega) W)
  have hcz := cut_size 32 s
  have hcl := cut_len0 s
  generalize cutB 32 s = ws at HV HC hcz hcl
  have HZ := Lib.hid hcz
  clear hcz
  have KN0 := Lib.hid (dsc_new w 25 #[.int .i64 0, .int .i64 0, .string ⟨#[]⟩, .int .i64 0, .string ⟨#[]⟩, .string ⟨#[]⟩])
  have KN1 := Lib.hid (fun w1 => dsc_new w1 25 #[.int .i64 (-1), .int .i64 0, .string ⟨#[]⟩, .int .i64 0, .string ⟨#[]⟩, .string ⟨#[]⟩])
  by_cases l2 : ws.length = 2
  · obtain ⟨x, a, rfl⟩ := len_two l2
    clear l2 hcl
    by_cases h1 : x = ⟨#[97, 116]⟩
    · have zx := HZ.out x (by simp)
      have za := HZ.out a (by simp)
      rw [show readP (fun x => (valV x).1) (-1) [x, a] = ⟨0, 0, ⟨#[]⟩, 0, a, ⟨#[]⟩⟩ from if_pos h1] at HV
      have CI := Lib.hid (fun W => specIsD_any ⟨0, 0, ⟨#[]⟩, 0, a, ⟨#[]⟩⟩ ⟨by first | (dsimp only; decide) | (dsimp only; omega), by dsimp only; omega, by first | (dsimp only; decide) | (dsimp only; omega)⟩ W)
      have CT := Lib.hid (fun h W => specText_any ⟨0, 0, ⟨#[]⟩, 0, a, ⟨#[]⟩⟩ (isD_tx h) W)
      generalize isD ⟨0, 0, ⟨#[]⟩, 0, a, ⟨#[]⟩⟩ = ci at CI CT HV
      generalize textD ⟨0, 0, ⟨#[]⟩, 0, a, ⟨#[]⟩⟩ = tx at CT HV
      unfold Dsc.val at CI CT
      dsimp only at CI CT
      have q1 := str_lit x [97, 116]
      rw [show decide (x = ⟨[97, 116].toArray⟩) = true from decide_eq_true h1] at q1
      go_enter Tryd.func36, Tryd.ntmps36
      go_wp2_with fail
      generalize hW0 : w.alloc (.cells #[.int .i64 0, .int .i64 0, .string ⟨#[]⟩, .int .i64 0, .string ⟨#[]⟩, .string ⟨#[]⟩] 25) = W0
      obtain ⟨r0, bw0⟩ := KN0.out W0 hW0.symm
      have hs0 : W0.heap.size = w.heap.size + 1 := by rw [← hW0]; simp
      clear hW0
      refine (HC.out W0).mono ?_; rintro e w1 ⟨v, rfl, ow, b1⟩
      have ow2 : w1.ownsRow W0.heap.size 9 1 v 2 [.string x, .string a] := ow
      clear ow
      obtain ⟨Aw, cw, rfl, _⟩ := own_shape ow2
      have hgw : w.heap.size < w1.heap.size := by have := b1.size; omega
      clear hs0
      go_upto_region 3 with (fail)
      generalize hW2 : w1.alloc (.cells #[.int .i64 (-1), .int .i64 0, .string ⟨#[]⟩, .int .i64 0, .string ⟨#[]⟩, .string ⟨#[]⟩] 25) = W2
      obtain ⟨k2, bw2⟩ := KN1.out w1 W2 hW2.symm
      clear hW2
      have K2 := Lib.hid k2
      have R2 := Lib.hid ((r0.below b1 r0.lt).below bw2 (r0.below b1 r0.lt).lt)
      have B2 := Lib.hid ((bw0.trans (b1.mono bw0.size)).trans (bw2.mono (bw0.trans (b1.mono bw0.size)).size))
      obtain ⟨pb, po, rfl, hpdb, hpc⟩ := (Reads.of_own (own_below ow2 bw2)).2 (by omega)
      have p0 := hpc 0 (.string x) rfl
      have p1 := hpc 1 (.string a) rfl
      rw [Nat.add_zero] at p0
      clear hpc
      clear k2 r0 bw0 b1 bw2 ow2
      obtain ⟨g0, g1, g2, g3, g4, g5, g6, g7, g8, g9, g10, g11, g12, g13, g14, g15, g16, g17⟩ := six_facts K2.out
      go_wp2_with fail
      refine (CI.out _).mono ?_; rintro e w5 ⟨rfl, b5⟩
      have K5 := Lib.hid ((six_set K2.out _ _ _ _ _ _).below b5 (six_set K2.out _ _ _ _ _ _).lt)
      have R5 := Lib.hid ((six_far R2.out (Nat.ne_of_lt hgw) _ _ _ _ _ _).below b5 (six_far R2.out (Nat.ne_of_lt hgw) _ _ _ _ _ _).lt)
      have B5 := Lib.hid ((six_below B2.out (Nat.le_of_lt hgw) _ _ _ _ _ _).trans (b5.mono (six_below B2.out (Nat.le_of_lt hgw) _ _ _ _ _ _).size))
      clear b5
      clear g0 g1 g2 g3 g4 g5 g6 g7 g8 g9 g10 g11 g12 g13 g14 g15 g16 g17
      cases ci
      · obtain ⟨g0, g1, g2, g3, g4, g5, g6, g7, g8, g9, g10, g11, g12, g13, g14, g15, g16, g17⟩ := six_facts R5.out
        go_wp2_with fail
        refine bodyPost_ret (v := .tuple #[r.1.val, .int .i64 r.2]) (by rw [HV.out]; simp [results, Tryd.results36, go_sem, Dsc.val, zeroK, g12, g13, g14, g15, g16, g17]) rfl ⟨rfl, six_below B5.out (Nat.le_refl _) _ _ _ _ _ _⟩
      · obtain ⟨k0, k1, k2, k3, k4, k5⟩ := dsc_cells K5.out
        go_wp2_with fail
        refine (CT.out (by first | trivial | rfl) w5).mono ?_; rintro e w6 ⟨rfl, b6⟩
        have R6 := Lib.hid (R5.out.below b6 R5.out.lt)
        have B6 := Lib.hid (B5.out.trans (b6.mono B5.out.size))
        have B56 := Lib.hid b6
        clear b6 k0 k1 k2 k3 k4 k5
        have q9 := str_eq tx s
        by_cases he : tx = s
        · rw [decide_eq_true he] at q9
          have q8 : (tx.toList != s.toList) = false := by rw [bne, q9]; rfl
          obtain ⟨k0, k1, k2, k3, k4, k5⟩ := dsc_cells (K5.out.below B56.out K5.out.lt)
          have HV1 := Lib.hid (HV.out.trans (if_pos ⟨by first | trivial | rfl, he⟩)); clear he
          obtain ⟨g0, g1, g2, g3, g4, g5, g6, g7, g8, g9, g10, g11, g12, g13, g14, g15, g16, g17⟩ := six_facts R6.out
          go_wp2_with fail
          refine bodyPost_ret (v := .tuple #[r.1.val, .int .i64 r.2]) (by rw [HV1.out]; simp [results, Tryd.results36, go_sem, Dsc.val, zeroK, g12, g13, g14, g15, g16, g17]) rfl ⟨rfl, six_below B6.out (Nat.le_refl _) _ _ _ _ _ _⟩
        · rw [decide_eq_false he] at q9
          have q8 : (tx.toList != s.toList) = true := by rw [bne, q9]; rfl
          have HV1 := Lib.hid (HV.out.trans (if_neg (fun h => he h.2))); clear he
          obtain ⟨g0, g1, g2, g3, g4, g5, g6, g7, g8, g9, g10, g11, g12, g13, g14, g15, g16, g17⟩ := six_facts R6.out
          go_wp2_with fail
          refine bodyPost_ret (v := .tuple #[r.1.val, .int .i64 r.2]) (by rw [HV1.out]; simp [results, Tryd.results36, go_sem, Dsc.val, zeroK, g12, g13, g14, g15, g16, g17]) rfl ⟨rfl, six_below B6.out (Nat.le_refl _) _ _ _ _ _ _⟩
    · by_cases h2 : x = ⟨#[110, 101, 97, 114]⟩
      · have zx := HZ.out x (by simp)
        have za := HZ.out a (by simp)
        rw [show readP (fun x => (valV x).1) (-1) [x, a] = ⟨1, 0, ⟨#[]⟩, 0, a, ⟨#[]⟩⟩ from (if_neg h1).trans (if_pos h2)] at HV
        have CI := Lib.hid (fun W => specIsD_any ⟨1, 0, ⟨#[]⟩, 0, a, ⟨#[]⟩⟩ ⟨by first | (dsimp only; decide) | (dsimp only; omega), by dsimp only; omega, by first | (dsimp only; decide) | (dsimp only; omega)⟩ W)
        have CT := Lib.hid (fun h W => specText_any ⟨1, 0, ⟨#[]⟩, 0, a, ⟨#[]⟩⟩ (isD_tx h) W)
        generalize isD ⟨1, 0, ⟨#[]⟩, 0, a, ⟨#[]⟩⟩ = ci at CI CT HV
        generalize textD ⟨1, 0, ⟨#[]⟩, 0, a, ⟨#[]⟩⟩ = tx at CT HV
        unfold Dsc.val at CI CT
        dsimp only at CI CT
        have q1 := str_lit x [97, 116]
        rw [show decide (x = ⟨[97, 116].toArray⟩) = false from decide_eq_false h1] at q1
        have q2 := str_lit x [110, 101, 97, 114]
        rw [show decide (x = ⟨[110, 101, 97, 114].toArray⟩) = true from decide_eq_true h2] at q2
        go_enter Tryd.func36, Tryd.ntmps36
        go_wp2_with fail
        generalize hW0 : w.alloc (.cells #[.int .i64 0, .int .i64 0, .string ⟨#[]⟩, .int .i64 0, .string ⟨#[]⟩, .string ⟨#[]⟩] 25) = W0
        obtain ⟨r0, bw0⟩ := KN0.out W0 hW0.symm
        have hs0 : W0.heap.size = w.heap.size + 1 := by rw [← hW0]; simp
        clear hW0
        refine (HC.out W0).mono ?_; rintro e w1 ⟨v, rfl, ow, b1⟩
        have ow2 : w1.ownsRow W0.heap.size 9 1 v 2 [.string x, .string a] := ow
        clear ow
        obtain ⟨Aw, cw, rfl, _⟩ := own_shape ow2
        have hgw : w.heap.size < w1.heap.size := by have := b1.size; omega
        clear hs0
        go_upto_region 3 with (fail)
        generalize hW2 : w1.alloc (.cells #[.int .i64 (-1), .int .i64 0, .string ⟨#[]⟩, .int .i64 0, .string ⟨#[]⟩, .string ⟨#[]⟩] 25) = W2
        obtain ⟨k2, bw2⟩ := KN1.out w1 W2 hW2.symm
        clear hW2
        have K2 := Lib.hid k2
        have R2 := Lib.hid ((r0.below b1 r0.lt).below bw2 (r0.below b1 r0.lt).lt)
        have B2 := Lib.hid ((bw0.trans (b1.mono bw0.size)).trans (bw2.mono (bw0.trans (b1.mono bw0.size)).size))
        obtain ⟨pb, po, rfl, hpdb, hpc⟩ := (Reads.of_own (own_below ow2 bw2)).2 (by omega)
        have p0 := hpc 0 (.string x) rfl
        have p1 := hpc 1 (.string a) rfl
        rw [Nat.add_zero] at p0
        clear hpc
        clear k2 r0 bw0 b1 bw2 ow2
        obtain ⟨g0, g1, g2, g3, g4, g5, g6, g7, g8, g9, g10, g11, g12, g13, g14, g15, g16, g17⟩ := six_facts K2.out
        go_wp2_with fail
        refine (CI.out _).mono ?_; rintro e w5 ⟨rfl, b5⟩
        have K5 := Lib.hid ((six_set K2.out _ _ _ _ _ _).below b5 (six_set K2.out _ _ _ _ _ _).lt)
        have R5 := Lib.hid ((six_far R2.out (Nat.ne_of_lt hgw) _ _ _ _ _ _).below b5 (six_far R2.out (Nat.ne_of_lt hgw) _ _ _ _ _ _).lt)
        have B5 := Lib.hid ((six_below B2.out (Nat.le_of_lt hgw) _ _ _ _ _ _).trans (b5.mono (six_below B2.out (Nat.le_of_lt hgw) _ _ _ _ _ _).size))
        clear b5
        clear g0 g1 g2 g3 g4 g5 g6 g7 g8 g9 g10 g11 g12 g13 g14 g15 g16 g17
        cases ci
        · obtain ⟨g0, g1, g2, g3, g4, g5, g6, g7, g8, g9, g10, g11, g12, g13, g14, g15, g16, g17⟩ := six_facts R5.out
          go_wp2_with fail
          refine bodyPost_ret (v := .tuple #[r.1.val, .int .i64 r.2]) (by rw [HV.out]; simp [results, Tryd.results36, go_sem, Dsc.val, zeroK, g12, g13, g14, g15, g16, g17]) rfl ⟨rfl, six_below B5.out (Nat.le_refl _) _ _ _ _ _ _⟩
        · obtain ⟨k0, k1, k2, k3, k4, k5⟩ := dsc_cells K5.out
          go_wp2_with fail
          refine (CT.out (by first | trivial | rfl) w5).mono ?_; rintro e w6 ⟨rfl, b6⟩
          have R6 := Lib.hid (R5.out.below b6 R5.out.lt)
          have B6 := Lib.hid (B5.out.trans (b6.mono B5.out.size))
          have B56 := Lib.hid b6
          clear b6 k0 k1 k2 k3 k4 k5
          have q9 := str_eq tx s
          by_cases he : tx = s
          · rw [decide_eq_true he] at q9
            have q8 : (tx.toList != s.toList) = false := by rw [bne, q9]; rfl
            obtain ⟨k0, k1, k2, k3, k4, k5⟩ := dsc_cells (K5.out.below B56.out K5.out.lt)
            have HV1 := Lib.hid (HV.out.trans (if_pos ⟨by first | trivial | rfl, he⟩)); clear he
            obtain ⟨g0, g1, g2, g3, g4, g5, g6, g7, g8, g9, g10, g11, g12, g13, g14, g15, g16, g17⟩ := six_facts R6.out
            go_wp2_with fail
            refine bodyPost_ret (v := .tuple #[r.1.val, .int .i64 r.2]) (by rw [HV1.out]; simp [results, Tryd.results36, go_sem, Dsc.val, zeroK, g12, g13, g14, g15, g16, g17]) rfl ⟨rfl, six_below B6.out (Nat.le_refl _) _ _ _ _ _ _⟩
          · rw [decide_eq_false he] at q9
            have q8 : (tx.toList != s.toList) = true := by rw [bne, q9]; rfl
            have HV1 := Lib.hid (HV.out.trans (if_neg (fun h => he h.2))); clear he
            obtain ⟨g0, g1, g2, g3, g4, g5, g6, g7, g8, g9, g10, g11, g12, g13, g14, g15, g16, g17⟩ := six_facts R6.out
            go_wp2_with fail
            refine bodyPost_ret (v := .tuple #[r.1.val, .int .i64 r.2]) (by rw [HV1.out]; simp [results, Tryd.results36, go_sem, Dsc.val, zeroK, g12, g13, g14, g15, g16, g17]) rfl ⟨rfl, six_below B6.out (Nat.le_refl _) _ _ _ _ _ _⟩
      · have zx := HZ.out x (by simp)
        have za := HZ.out a (by simp)
        rw [show readP (fun x => (valV x).1) (-1) [x, a] = zeroK (-1) from (if_neg h1).trans (if_neg h2)] at HV
        rw [no_minus, if_neg (fun h => Bool.noConfusion h.1)] at HV
        have CI := Lib.hid (fun W => specIsD_any (zeroK (-1)) ⟨by decide, by decide, by decide⟩ W)
        rw [no_minus] at CI
        unfold Dsc.val zeroK at CI
        dsimp only at CI
        have q1 := str_lit x [97, 116]
        rw [show decide (x = ⟨[97, 116].toArray⟩) = false from decide_eq_false h1] at q1
        have q2 := str_lit x [110, 101, 97, 114]
        rw [show decide (x = ⟨[110, 101, 97, 114].toArray⟩) = false from decide_eq_false h2] at q2
        go_enter Tryd.func36, Tryd.ntmps36
        go_wp2_with fail
        generalize hW0 : w.alloc (.cells #[.int .i64 0, .int .i64 0, .string ⟨#[]⟩, .int .i64 0, .string ⟨#[]⟩, .string ⟨#[]⟩] 25) = W0
        obtain ⟨r0, bw0⟩ := KN0.out W0 hW0.symm
        have hs0 : W0.heap.size = w.heap.size + 1 := by rw [← hW0]; simp
        clear hW0
        refine (HC.out W0).mono ?_; rintro e w1 ⟨v, rfl, ow, b1⟩
        have ow2 : w1.ownsRow W0.heap.size 9 1 v 2 [.string x, .string a] := ow
        clear ow
        obtain ⟨Aw, cw, rfl, _⟩ := own_shape ow2
        have hgw : w.heap.size < w1.heap.size := by have := b1.size; omega
        clear hs0
        go_upto_region 3 with (fail)
        generalize hW2 : w1.alloc (.cells #[.int .i64 (-1), .int .i64 0, .string ⟨#[]⟩, .int .i64 0, .string ⟨#[]⟩, .string ⟨#[]⟩] 25) = W2
        obtain ⟨k2, bw2⟩ := KN1.out w1 W2 hW2.symm
        clear hW2
        have K2 := Lib.hid k2
        have R2 := Lib.hid ((r0.below b1 r0.lt).below bw2 (r0.below b1 r0.lt).lt)
        have B2 := Lib.hid ((bw0.trans (b1.mono bw0.size)).trans (bw2.mono (bw0.trans (b1.mono bw0.size)).size))
        obtain ⟨pb, po, rfl, hpdb, hpc⟩ := (Reads.of_own (own_below ow2 bw2)).2 (by omega)
        have p0 := hpc 0 (.string x) rfl
        have p1 := hpc 1 (.string a) rfl
        rw [Nat.add_zero] at p0
        clear hpc
        clear k2 r0 bw0 b1 bw2 ow2
        obtain ⟨k0, k1, k2, k3, k4, k5⟩ := dsc_cells K2.out
        go_wp2_with fail
        refine (CI.out _).mono ?_; rintro e w5 ⟨rfl, b5⟩
        have R5 := Lib.hid (R2.out.below b5 R2.out.lt)
        have B5 := Lib.hid (B2.out.trans (b5.mono B2.out.size))
        clear b5
        obtain ⟨g0, g1, g2, g3, g4, g5, g6, g7, g8, g9, g10, g11, g12, g13, g14, g15, g16, g17⟩ := six_facts R5.out
        go_wp2_with fail
        refine bodyPost_ret (v := .tuple #[r.1.val, .int .i64 r.2]) (by rw [HV.out]; simp [results, Tryd.results36, go_sem, Dsc.val, zeroK, g12, g13, g14, g15, g16, g17]) rfl ⟨rfl, six_below B5.out (Nat.le_refl _) _ _ _ _ _ _⟩
  by_cases l4 : ws.length = 4
  · obtain ⟨x, a, y, b, rfl⟩ := len_four l4
    clear l2 l4 hcl
    by_cases h3 : x = ⟨#[98, 101, 116, 119, 101, 101, 110]⟩
    · have zx := HZ.out x (by simp)
      have za := HZ.out a (by simp)
      have zy := HZ.out y (by simp)
      have zb := HZ.out b (by simp)
      rw [show readP (fun x => (valV x).1) (-1) [x, a, y, b] = ⟨3, 0, ⟨#[]⟩, 0, a, b⟩ from if_pos h3] at HV
      have CI := Lib.hid (fun W => specIsD_any ⟨3, 0, ⟨#[]⟩, 0, a, b⟩ ⟨by first | (dsimp only; decide) | (dsimp only; omega), by dsimp only; omega, by first | (dsimp only; decide) | (dsimp only; omega)⟩ W)
      have CT := Lib.hid (fun h W => specText_any ⟨3, 0, ⟨#[]⟩, 0, a, b⟩ (isD_tx h) W)
      generalize isD ⟨3, 0, ⟨#[]⟩, 0, a, b⟩ = ci at CI CT HV
      generalize textD ⟨3, 0, ⟨#[]⟩, 0, a, b⟩ = tx at CT HV
      unfold Dsc.val at CI CT
      dsimp only at CI CT
      have q3 := str_lit x [98, 101, 116, 119, 101, 101, 110]
      rw [show decide (x = ⟨[98, 101, 116, 119, 101, 101, 110].toArray⟩) = true from decide_eq_true h3] at q3
      go_enter Tryd.func36, Tryd.ntmps36
      go_wp2_with fail
      generalize hW0 : w.alloc (.cells #[.int .i64 0, .int .i64 0, .string ⟨#[]⟩, .int .i64 0, .string ⟨#[]⟩, .string ⟨#[]⟩] 25) = W0
      obtain ⟨r0, bw0⟩ := KN0.out W0 hW0.symm
      have hs0 : W0.heap.size = w.heap.size + 1 := by rw [← hW0]; simp
      clear hW0
      refine (HC.out W0).mono ?_; rintro e w1 ⟨v, rfl, ow, b1⟩
      have ow2 : w1.ownsRow W0.heap.size 9 1 v 4 [.string x, .string a, .string y, .string b] := ow
      clear ow
      obtain ⟨Aw, cw, rfl, _⟩ := own_shape ow2
      have hgw : w.heap.size < w1.heap.size := by have := b1.size; omega
      clear hs0
      go_upto_region 3 with (fail)
      generalize hW2 : w1.alloc (.cells #[.int .i64 (-1), .int .i64 0, .string ⟨#[]⟩, .int .i64 0, .string ⟨#[]⟩, .string ⟨#[]⟩] 25) = W2
      obtain ⟨k2, bw2⟩ := KN1.out w1 W2 hW2.symm
      clear hW2
      have K2 := Lib.hid k2
      have R2 := Lib.hid ((r0.below b1 r0.lt).below bw2 (r0.below b1 r0.lt).lt)
      have B2 := Lib.hid ((bw0.trans (b1.mono bw0.size)).trans (bw2.mono (bw0.trans (b1.mono bw0.size)).size))
      obtain ⟨pb, po, rfl, hpdb, hpc⟩ := (Reads.of_own (own_below ow2 bw2)).2 (by omega)
      have p0 := hpc 0 (.string x) rfl
      have p1 := hpc 1 (.string a) rfl
      have p2 := hpc 2 (.string y) rfl
      have p3 := hpc 3 (.string b) rfl
      rw [Nat.add_zero] at p0
      clear hpc
      clear k2 r0 bw0 b1 bw2 ow2
      go_upto_region 8 with (fail)
      refine' wp_region_slots (OverW W2) KeepW [isV (.slice (some ⟨pb, po, none⟩) 4 cw), isV (.pointer (some ⟨pb, po + 1, none⟩)), isV (.string a), isV (.slice (some ⟨pb, po, none⟩) 4 cw), isV (.pointer (some ⟨pb, po + 3, none⟩)), isV (.string b), isV (.agg #[.int .i64 3, .int .i64 0, .string ⟨#[]⟩, .int .i64 0, .string a, .string b])] mixed (by kernel_rfl) (by kernel_rfl) (OverW.drew (Below.refl _ _)) ?_ _ _ ?_ ?_ ?_
      · exact AllStable.cons (keep_V _) (AllStable.cons (keep_V _) (AllStable.cons (keep_V _) (AllStable.cons (keep_V _) (AllStable.cons (keep_V _) (AllStable.cons (keep_V _) (AllStable.cons (keep_V _) (AllStable.nil)))))))
      rotate_left 2
      · intro f; simp only [lay, List.setIfInBounds_toArray, List.set_cons_succ, List.set_cons_zero, Nat.reduceAdd]; exact rfl
      · refine AllTo.cons ?_ ?_
        · intro f v hS hT K hK
          simp only [Act.put, List.setIfInBounds_toArray, List.set_cons_succ, List.set_cons_zero] at hK
          go_simp
          exact hK.out _ _ rfl hS (keep_refl _)
        refine AllTo.cons ?_ ?_
        · intro f v hS hT K hK
          have e0 := hT 0 _ rfl rfl
          dsimp only [isV] at e0
          simp only [Act.put, List.setIfInBounds_toArray, List.set_cons_succ, List.set_cons_zero, e0] at hK
          go_simp
          exact hK.out _ _ rfl hS (keep_refl _)
        refine AllTo.cons ?_ ?_
        · intro f v hS hT K hK
          have e1 := hT 1 _ rfl rfl
          dsimp only [isV] at e1
          have hc := (Below.cell hS (p := ⟨pb, po + 1, none⟩) hpdb).trans p1
          simp only [Act.put, List.setIfInBounds_toArray, List.set_cons_succ, List.set_cons_zero, e1] at hK
          go_simp
          exact hK.out _ _ rfl hS (keep_refl _)
        refine AllTo.cons ?_ ?_
        · intro f v hS hT K hK
          simp only [Act.put, List.setIfInBounds_toArray, List.set_cons_succ, List.set_cons_zero] at hK
          go_simp
          exact hK.out _ _ rfl hS (keep_refl _)
        refine AllTo.cons ?_ ?_
        · intro f v hS hT K hK
          have e3 := hT 3 _ rfl rfl
          dsimp only [isV] at e3
          simp only [Act.put, List.setIfInBounds_toArray, List.set_cons_succ, List.set_cons_zero, e3] at hK
          go_simp
          exact hK.out _ _ rfl hS (keep_refl _)
        refine AllTo.cons ?_ ?_
        · intro f v hS hT K hK
          have e4 := hT 4 _ rfl rfl
          dsimp only [isV] at e4
          have hc := (Below.cell hS (p := ⟨pb, po + 3, none⟩) hpdb).trans p3
          simp only [Act.put, List.setIfInBounds_toArray, List.set_cons_succ, List.set_cons_zero, e4] at hK
          go_simp
          exact hK.out _ _ rfl hS (keep_refl _)
        refine AllTo.cons ?_ ?_
        · intro f v hS hT K hK
          have e2 := hT 2 _ rfl rfl
          dsimp only [isV] at e2
          have e5 := hT 5 _ rfl rfl
          dsimp only [isV] at e5
          simp only [Act.put, List.setIfInBounds_toArray, List.set_cons_succ, List.set_cons_zero, e2, e5] at hK
          go_simp
          exact hK.out _ _ rfl hS (keep_refl _)
        exact AllTo.nil
      · intro f v hS hT K hK
        have e := hT 6 _ rfl
        dsimp only [isV] at e
        rw [e]
        clear e hT
        have K3 := Lib.hid (K2.out.below hS K2.out.lt)
        have R3 := Lib.hid (R2.out.below hS R2.out.lt)
        have B3 := Lib.hid (B2.out.trans (hS.mono B2.out.size))
        clear hS p0 p1 K2 R2 B2
        have K2 := Lib.hid K3.out
        have R2 := Lib.hid R3.out
        have B2 := Lib.hid B3.out
        clear K3 R3 B3
        obtain ⟨g0, g1, g2, g3, g4, g5, g6, g7, g8, g9, g10, g11, g12, g13, g14, g15, g16, g17⟩ := six_facts K2.out
        go_simp
        refine hK.out _ _ ?_
        clear hK K
        go_wp2_with fail
        refine (CI.out _).mono ?_; rintro e w5 ⟨rfl, b5⟩
        have K5 := Lib.hid ((six_set K2.out _ _ _ _ _ _).below b5 (six_set K2.out _ _ _ _ _ _).lt)
        have R5 := Lib.hid ((six_far R2.out (Nat.ne_of_lt hgw) _ _ _ _ _ _).below b5 (six_far R2.out (Nat.ne_of_lt hgw) _ _ _ _ _ _).lt)
        have B5 := Lib.hid ((six_below B2.out (Nat.le_of_lt hgw) _ _ _ _ _ _).trans (b5.mono (six_below B2.out (Nat.le_of_lt hgw) _ _ _ _ _ _).size))
        clear b5
        clear g0 g1 g2 g3 g4 g5 g6 g7 g8 g9 g10 g11 g12 g13 g14 g15 g16 g17
        cases ci
        · obtain ⟨g0, g1, g2, g3, g4, g5, g6, g7, g8, g9, g10, g11, g12, g13, g14, g15, g16, g17⟩ := six_facts R5.out
          go_wp2_with fail
          refine bodyPost_ret (v := .tuple #[r.1.val, .int .i64 r.2]) (by rw [HV.out]; simp [results, Tryd.results36, go_sem, Dsc.val, zeroK, g12, g13, g14, g15, g16, g17]) rfl ⟨rfl, six_below B5.out (Nat.le_refl _) _ _ _ _ _ _⟩
        · obtain ⟨k0, k1, k2, k3, k4, k5⟩ := dsc_cells K5.out
          go_wp2_with fail
          refine (CT.out (by first | trivial | rfl) w5).mono ?_; rintro e w6 ⟨rfl, b6⟩
          have R6 := Lib.hid (R5.out.below b6 R5.out.lt)
          have B6 := Lib.hid (B5.out.trans (b6.mono B5.out.size))
          have B56 := Lib.hid b6
          clear b6 k0 k1 k2 k3 k4 k5
          have q9 := str_eq tx s
          by_cases he : tx = s
          · rw [decide_eq_true he] at q9
            have q8 : (tx.toList != s.toList) = false := by rw [bne, q9]; rfl
            obtain ⟨k0, k1, k2, k3, k4, k5⟩ := dsc_cells (K5.out.below B56.out K5.out.lt)
            have HV1 := Lib.hid (HV.out.trans (if_pos ⟨by first | trivial | rfl, he⟩)); clear he
            obtain ⟨g0, g1, g2, g3, g4, g5, g6, g7, g8, g9, g10, g11, g12, g13, g14, g15, g16, g17⟩ := six_facts R6.out
            go_wp2_with fail
            refine bodyPost_ret (v := .tuple #[r.1.val, .int .i64 r.2]) (by rw [HV1.out]; simp [results, Tryd.results36, go_sem, Dsc.val, zeroK, g12, g13, g14, g15, g16, g17]) rfl ⟨rfl, six_below B6.out (Nat.le_refl _) _ _ _ _ _ _⟩
          · rw [decide_eq_false he] at q9
            have q8 : (tx.toList != s.toList) = true := by rw [bne, q9]; rfl
            have HV1 := Lib.hid (HV.out.trans (if_neg (fun h => he h.2))); clear he
            obtain ⟨g0, g1, g2, g3, g4, g5, g6, g7, g8, g9, g10, g11, g12, g13, g14, g15, g16, g17⟩ := six_facts R6.out
            go_wp2_with fail
            refine bodyPost_ret (v := .tuple #[r.1.val, .int .i64 r.2]) (by rw [HV1.out]; simp [results, Tryd.results36, go_sem, Dsc.val, zeroK, g12, g13, g14, g15, g16, g17]) rfl ⟨rfl, six_below B6.out (Nat.le_refl _) _ _ _ _ _ _⟩
    · have zx := HZ.out x (by simp)
      have za := HZ.out a (by simp)
      have zy := HZ.out y (by simp)
      have zb := HZ.out b (by simp)
      rw [show readP (fun x => (valV x).1) (-1) [x, a, y, b] = zeroK (-1) from if_neg h3] at HV
      rw [no_minus, if_neg (fun h => Bool.noConfusion h.1)] at HV
      have CI := Lib.hid (fun W => specIsD_any (zeroK (-1)) ⟨by decide, by decide, by decide⟩ W)
      rw [no_minus] at CI
      unfold Dsc.val zeroK at CI
      dsimp only at CI
      have q3 := str_lit x [98, 101, 116, 119, 101, 101, 110]
      rw [show decide (x = ⟨[98, 101, 116, 119, 101, 101, 110].toArray⟩) = false from decide_eq_false h3] at q3
      go_enter Tryd.func36, Tryd.ntmps36
      go_wp2_with fail
      generalize hW0 : w.alloc (.cells #[.int .i64 0, .int .i64 0, .string ⟨#[]⟩, .int .i64 0, .string ⟨#[]⟩, .string ⟨#[]⟩] 25) = W0
      obtain ⟨r0, bw0⟩ := KN0.out W0 hW0.symm
      have hs0 : W0.heap.size = w.heap.size + 1 := by rw [← hW0]; simp
      clear hW0
      refine (HC.out W0).mono ?_; rintro e w1 ⟨v, rfl, ow, b1⟩
      have ow2 : w1.ownsRow W0.heap.size 9 1 v 4 [.string x, .string a, .string y, .string b] := ow
      clear ow
      obtain ⟨Aw, cw, rfl, _⟩ := own_shape ow2
      have hgw : w.heap.size < w1.heap.size := by have := b1.size; omega
      clear hs0
      go_upto_region 3 with (fail)
      generalize hW2 : w1.alloc (.cells #[.int .i64 (-1), .int .i64 0, .string ⟨#[]⟩, .int .i64 0, .string ⟨#[]⟩, .string ⟨#[]⟩] 25) = W2
      obtain ⟨k2, bw2⟩ := KN1.out w1 W2 hW2.symm
      clear hW2
      have K2 := Lib.hid k2
      have R2 := Lib.hid ((r0.below b1 r0.lt).below bw2 (r0.below b1 r0.lt).lt)
      have B2 := Lib.hid ((bw0.trans (b1.mono bw0.size)).trans (bw2.mono (bw0.trans (b1.mono bw0.size)).size))
      obtain ⟨pb, po, rfl, hpdb, hpc⟩ := (Reads.of_own (own_below ow2 bw2)).2 (by omega)
      have p0 := hpc 0 (.string x) rfl
      have p1 := hpc 1 (.string a) rfl
      have p2 := hpc 2 (.string y) rfl
      have p3 := hpc 3 (.string b) rfl
      rw [Nat.add_zero] at p0
      clear hpc
      clear k2 r0 bw0 b1 bw2 ow2
      obtain ⟨k0, k1, k2, k3, k4, k5⟩ := dsc_cells K2.out
      go_wp2_with fail
      refine (CI.out _).mono ?_; rintro e w5 ⟨rfl, b5⟩
      have R5 := Lib.hid (R2.out.below b5 R2.out.lt)
      have B5 := Lib.hid (B2.out.trans (b5.mono B2.out.size))
      clear b5
      obtain ⟨g0, g1, g2, g3, g4, g5, g6, g7, g8, g9, g10, g11, g12, g13, g14, g15, g16, g17⟩ := six_facts R5.out
      go_wp2_with fail
      refine bodyPost_ret (v := .tuple #[r.1.val, .int .i64 r.2]) (by rw [HV.out]; simp [results, Tryd.results36, go_sem, Dsc.val, zeroK, g12, g13, g14, g15, g16, g17]) rfl ⟨rfl, six_below B5.out (Nat.le_refl _) _ _ _ _ _ _⟩
  by_cases l5 : ws.length = 5
  · obtain ⟨n, u, d, o, a, rfl⟩ := len_five l5
    clear l2 l4 l5 hcl
    have zn := HZ.out n (by simp)
    have zu := HZ.out u (by simp)
    have zd := HZ.out d (by simp)
    have zo := HZ.out o (by simp)
    have za := HZ.out a (by simp)
    have CV := Lib.hid (fun W => specVal_any n (by omega) W)
    have CX := Lib.hid (fun W => direction_any d (by omega) W)
    rw [show readP (fun x => (valV x).1) (-1) [n, u, d, o, a] = ⟨2, (valV n).1, u, ixS d dirsL, a, ⟨#[]⟩⟩ from rfl] at HV
    generalize (valV n).1 = nv at CV HV
    generalize (valV n).2 = nb at CV
    generalize ixS d dirsL = ix at CX HV
    have CI := Lib.hid (fun W => specIsD_any ⟨2, nv, u, ix, a, ⟨#[]⟩⟩ ⟨by first | (dsimp only; decide) | (dsimp only; omega), by dsimp only; omega, by first | (dsimp only; decide) | (dsimp only; omega)⟩ W)
    have CT := Lib.hid (fun h W => specText_any ⟨2, nv, u, ix, a, ⟨#[]⟩⟩ (isD_tx h) W)
    generalize isD ⟨2, nv, u, ix, a, ⟨#[]⟩⟩ = ci at CI CT HV
    generalize textD ⟨2, nv, u, ix, a, ⟨#[]⟩⟩ = tx at CT HV
    unfold Dsc.val at CI CT
    dsimp only at CI CT
    go_enter Tryd.func36, Tryd.ntmps36
    go_wp2_with fail
    generalize hW0 : w.alloc (.cells #[.int .i64 0, .int .i64 0, .string ⟨#[]⟩, .int .i64 0, .string ⟨#[]⟩, .string ⟨#[]⟩] 25) = W0
    obtain ⟨r0, bw0⟩ := KN0.out W0 hW0.symm
    have hs0 : W0.heap.size = w.heap.size + 1 := by rw [← hW0]; simp
    clear hW0
    refine (HC.out W0).mono ?_; rintro e w1 ⟨v, rfl, ow, b1⟩
    have ow2 : w1.ownsRow W0.heap.size 9 1 v 5 [.string n, .string u, .string d, .string o, .string a] := ow
    clear ow
    obtain ⟨Aw, cw, rfl, _⟩ := own_shape ow2
    have hgw : w.heap.size < w1.heap.size := by have := b1.size; omega
    clear hs0
    go_upto_region 3 with (fail)
    generalize hW2 : w1.alloc (.cells #[.int .i64 (-1), .int .i64 0, .string ⟨#[]⟩, .int .i64 0, .string ⟨#[]⟩, .string ⟨#[]⟩] 25) = W2
    obtain ⟨k2, bw2⟩ := KN1.out w1 W2 hW2.symm
    clear hW2
    have K2 := Lib.hid k2
    have R2 := Lib.hid ((r0.below b1 r0.lt).below bw2 (r0.below b1 r0.lt).lt)
    have B2 := Lib.hid ((bw0.trans (b1.mono bw0.size)).trans (bw2.mono (bw0.trans (b1.mono bw0.size)).size))
    obtain ⟨pb, po, rfl, hpdb, hpc⟩ := (Reads.of_own (own_below ow2 bw2)).2 (by omega)
    have p0 := hpc 0 (.string n) rfl
    have p1 := hpc 1 (.string u) rfl
    have p2 := hpc 2 (.string d) rfl
    have p3 := hpc 3 (.string o) rfl
    have p4 := hpc 4 (.string a) rfl
    rw [Nat.add_zero] at p0
    clear hpc
    clear k2 r0 bw0 b1 bw2 ow2
    go_wp2_with fail
    refine (CV.out W2).mono ?_; rintro e w3 ⟨rfl, b3⟩
    have x1 := (Below.cell b3 (p := ⟨pb, po + 1, none⟩) hpdb).trans p1
    have x2 := (Below.cell b3 (p := ⟨pb, po + 2, none⟩) hpdb).trans p2
    have x4 := (Below.cell b3 (p := ⟨pb, po + 4, none⟩) hpdb).trans p4
    have hpd3 : pb < w3.heap.size := Nat.lt_of_lt_of_le hpdb b3.size
    have K3 := Lib.hid (K2.out.below b3 K2.out.lt)
    have R3 := Lib.hid (R2.out.below b3 R2.out.lt)
    have B3 := Lib.hid (B2.out.trans (b3.mono B2.out.size))
    clear b3 p0 p1 p2 p3 p4 K2 R2 B2
    have K2 := Lib.hid K3.out
    have R2 := Lib.hid R3.out
    have B2 := Lib.hid B3.out
    clear K3 R3 B3
    go_upto_region 11 with (fail)
    refine' wp_region_slots (OverW w3) KeepW [isV (.int .i64 nv), isV (.slice (some ⟨pb, po, none⟩) 5 cw), isV (.pointer (some ⟨pb, po + 1, none⟩)), isV (.string u), isV (.slice (some ⟨pb, po, none⟩) 5 cw), isV (.pointer (some ⟨pb, po + 2, none⟩)), isV (.string d), isV (.int .i64 ix), isV (.slice (some ⟨pb, po, none⟩) 5 cw), isV (.pointer (some ⟨pb, po + 4, none⟩)), isV (.string a), isV (.agg #[.int .i64 2, .int .i64 nv, .string u, .int .i64 ix, .string a, .string ⟨#[]⟩])] mixed (by kernel_rfl) (by kernel_rfl) (OverW.drew (Below.refl _ _)) ?_ _ _ ?_ ?_ ?_
    · exact AllStable.cons (keep_V _) (AllStable.cons (keep_V _) (AllStable.cons (keep_V _) (AllStable.cons (keep_V _) (AllStable.cons (keep_V _) (AllStable.cons (keep_V _) (AllStable.cons (keep_V _) (AllStable.cons (keep_V _) (AllStable.cons (keep_V _) (AllStable.cons (keep_V _) (AllStable.cons (keep_V _) (AllStable.cons (keep_V _) (AllStable.nil))))))))))))
    rotate_left 2
    · intro f; simp only [lay, List.setIfInBounds_toArray, List.set_cons_succ, List.set_cons_zero, Nat.reduceAdd]; exact rfl
    · refine AllTo.cons ?_ ?_
      · intro f v hS hT K hK
        simp only [Act.put, List.setIfInBounds_toArray, List.set_cons_succ, List.set_cons_zero] at hK
        go_simp
        exact hK.out _ _ rfl hS (keep_refl _)
      refine AllTo.cons ?_ ?_
      · intro f v hS hT K hK
        simp only [Act.put, List.setIfInBounds_toArray, List.set_cons_succ, List.set_cons_zero] at hK
        go_simp
        exact hK.out _ _ rfl hS (keep_refl _)
      refine AllTo.cons ?_ ?_
      · intro f v hS hT K hK
        have e1 := hT 1 _ rfl rfl
        dsimp only [isV] at e1
        simp only [Act.put, List.setIfInBounds_toArray, List.set_cons_succ, List.set_cons_zero, e1] at hK
        go_simp
        exact hK.out _ _ rfl hS (keep_refl _)
      refine AllTo.cons ?_ ?_
      · intro f v hS hT K hK
        have e2 := hT 2 _ rfl rfl
        dsimp only [isV] at e2
        have hc := (Below.cell hS (p := ⟨pb, po + 1, none⟩) hpd3).trans x1
        simp only [Act.put, List.setIfInBounds_toArray, List.set_cons_succ, List.set_cons_zero, e2] at hK
        go_simp
        exact hK.out _ _ rfl hS (keep_refl _)
      refine AllTo.cons ?_ ?_
      · intro f v hS hT K hK
        simp only [Act.put, List.setIfInBounds_toArray, List.set_cons_succ, List.set_cons_zero] at hK
        go_simp
        exact hK.out _ _ rfl hS (keep_refl _)
      refine AllTo.cons ?_ ?_
      · intro f v hS hT K hK
        have e4 := hT 4 _ rfl rfl
        dsimp only [isV] at e4
        simp only [Act.put, List.setIfInBounds_toArray, List.set_cons_succ, List.set_cons_zero, e4] at hK
        go_simp
        exact hK.out _ _ rfl hS (keep_refl _)
      refine AllTo.cons ?_ ?_
      · intro f v hS hT K hK
        have e5 := hT 5 _ rfl rfl
        dsimp only [isV] at e5
        have hc := (Below.cell hS (p := ⟨pb, po + 2, none⟩) hpd3).trans x2
        simp only [Act.put, List.setIfInBounds_toArray, List.set_cons_succ, List.set_cons_zero, e5] at hK
        go_simp
        exact hK.out _ _ rfl hS (keep_refl _)
      refine AllTo.cons ?_ ?_
      · intro f v hS hT K hK
        have e6 := hT 6 _ rfl rfl
        dsimp only [isV] at e6
        simp only [Act.put, List.setIfInBounds_toArray, List.set_cons_succ, List.set_cons_zero, e6] at hK
        go_simp
        refine (CX.out v).mono ?_
        rintro e w1 ⟨rfl, b1⟩
        exact hK.out _ _ rfl (hS.go b1) b1
      refine AllTo.cons ?_ ?_
      · intro f v hS hT K hK
        simp only [Act.put, List.setIfInBounds_toArray, List.set_cons_succ, List.set_cons_zero] at hK
        go_simp
        exact hK.out _ _ rfl hS (keep_refl _)
      refine AllTo.cons ?_ ?_
      · intro f v hS hT K hK
        have e8 := hT 8 _ rfl rfl
        dsimp only [isV] at e8
        simp only [Act.put, List.setIfInBounds_toArray, List.set_cons_succ, List.set_cons_zero, e8] at hK
        go_simp
        exact hK.out _ _ rfl hS (keep_refl _)
      refine AllTo.cons ?_ ?_
      · intro f v hS hT K hK
        have e9 := hT 9 _ rfl rfl
        dsimp only [isV] at e9
        have hc := (Below.cell hS (p := ⟨pb, po + 4, none⟩) hpd3).trans x4
        simp only [Act.put, List.setIfInBounds_toArray, List.set_cons_succ, List.set_cons_zero, e9] at hK
        go_simp
        exact hK.out _ _ rfl hS (keep_refl _)
      refine AllTo.cons ?_ ?_
      · intro f v hS hT K hK
        have e0 := hT 0 _ rfl rfl
        dsimp only [isV] at e0
        have e3 := hT 3 _ rfl rfl
        dsimp only [isV] at e3
        have e7 := hT 7 _ rfl rfl
        dsimp only [isV] at e7
        have e10 := hT 10 _ rfl rfl
        dsimp only [isV] at e10
        simp only [Act.put, List.setIfInBounds_toArray, List.set_cons_succ, List.set_cons_zero, e0, e3, e7, e10] at hK
        go_simp
        exact hK.out _ _ rfl hS (keep_refl _)
      exact AllTo.nil
    · intro f v hS hT K hK
      have e := hT 11 _ rfl
      dsimp only [isV] at e
      rw [e]
      clear e hT
      have K3 := Lib.hid (K2.out.below hS K2.out.lt)
      have R3 := Lib.hid (R2.out.below hS R2.out.lt)
      have B3 := Lib.hid (B2.out.trans (hS.mono B2.out.size))
      clear hS x1 x2 x4 K2 R2 B2
      have K2 := Lib.hid K3.out
      have R2 := Lib.hid R3.out
      have B2 := Lib.hid B3.out
      clear K3 R3 B3
      obtain ⟨g0, g1, g2, g3, g4, g5, g6, g7, g8, g9, g10, g11, g12, g13, g14, g15, g16, g17⟩ := six_facts K2.out
      go_simp
      refine hK.out _ _ ?_
      clear hK K
      go_wp2_with fail
      refine (CI.out _).mono ?_; rintro e w5 ⟨rfl, b5⟩
      have K5 := Lib.hid ((six_set K2.out _ _ _ _ _ _).below b5 (six_set K2.out _ _ _ _ _ _).lt)
      have R5 := Lib.hid ((six_far R2.out (Nat.ne_of_lt hgw) _ _ _ _ _ _).below b5 (six_far R2.out (Nat.ne_of_lt hgw) _ _ _ _ _ _).lt)
      have B5 := Lib.hid ((six_below B2.out (Nat.le_of_lt hgw) _ _ _ _ _ _).trans (b5.mono (six_below B2.out (Nat.le_of_lt hgw) _ _ _ _ _ _).size))
      clear b5
      clear g0 g1 g2 g3 g4 g5 g6 g7 g8 g9 g10 g11 g12 g13 g14 g15 g16 g17
      cases ci
      · obtain ⟨g0, g1, g2, g3, g4, g5, g6, g7, g8, g9, g10, g11, g12, g13, g14, g15, g16, g17⟩ := six_facts R5.out
        go_wp2_with fail
        refine bodyPost_ret (v := .tuple #[r.1.val, .int .i64 r.2]) (by rw [HV.out]; simp [results, Tryd.results36, go_sem, Dsc.val, zeroK, g12, g13, g14, g15, g16, g17]) rfl ⟨rfl, six_below B5.out (Nat.le_refl _) _ _ _ _ _ _⟩
      · obtain ⟨k0, k1, k2, k3, k4, k5⟩ := dsc_cells K5.out
        go_wp2_with fail
        refine (CT.out (by first | trivial | rfl) w5).mono ?_; rintro e w6 ⟨rfl, b6⟩
        have R6 := Lib.hid (R5.out.below b6 R5.out.lt)
        have B6 := Lib.hid (B5.out.trans (b6.mono B5.out.size))
        have B56 := Lib.hid b6
        clear b6 k0 k1 k2 k3 k4 k5
        have q9 := str_eq tx s
        by_cases he : tx = s
        · rw [decide_eq_true he] at q9
          have q8 : (tx.toList != s.toList) = false := by rw [bne, q9]; rfl
          obtain ⟨k0, k1, k2, k3, k4, k5⟩ := dsc_cells (K5.out.below B56.out K5.out.lt)
          have HV1 := Lib.hid (HV.out.trans (if_pos ⟨by first | trivial | rfl, he⟩)); clear he
          obtain ⟨g0, g1, g2, g3, g4, g5, g6, g7, g8, g9, g10, g11, g12, g13, g14, g15, g16, g17⟩ := six_facts R6.out
          go_wp2_with fail
          refine bodyPost_ret (v := .tuple #[r.1.val, .int .i64 r.2]) (by rw [HV1.out]; simp [results, Tryd.results36, go_sem, Dsc.val, zeroK, g12, g13, g14, g15, g16, g17]) rfl ⟨rfl, six_below B6.out (Nat.le_refl _) _ _ _ _ _ _⟩
        · rw [decide_eq_false he] at q9
          have q8 : (tx.toList != s.toList) = true := by rw [bne, q9]; rfl
          have HV1 := Lib.hid (HV.out.trans (if_neg (fun h => he h.2))); clear he
          obtain ⟨g0, g1, g2, g3, g4, g5, g6, g7, g8, g9, g10, g11, g12, g13, g14, g15, g16, g17⟩ := six_facts R6.out
          go_wp2_with fail
          refine bodyPost_ret (v := .tuple #[r.1.val, .int .i64 r.2]) (by rw [HV1.out]; simp [results, Tryd.results36, go_sem, Dsc.val, zeroK, g12, g13, g14, g15, g16, g17]) rfl ⟨rfl, six_below B6.out (Nat.le_refl _) _ _ _ _ _ _⟩
  rw [show readP (fun x => (valV x).1) (-1) ws = zeroK (-1) from read_other l2 l4 l5] at HV
  rw [no_minus, if_neg (fun h => Bool.noConfusion h.1)] at HV
  have CI := Lib.hid (fun W => specIsD_any (zeroK (-1)) ⟨by decide, by decide, by decide⟩ W)
  rw [no_minus] at CI
  unfold Dsc.val zeroK at CI
  dsimp only at CI
  have q2 : ((ws.length : Int) == 2) = false := by rw [beq_eq_false_iff_ne]; omega
  have q4 : ((ws.length : Int) == 4) = false := by rw [beq_eq_false_iff_ne]; omega
  have q5 : ((ws.length : Int) == 5) = false := by rw [beq_eq_false_iff_ne]; omega
  clear l2 l4 l5
  go_enter Tryd.func36, Tryd.ntmps36
  go_wp2_with fail
  generalize hW0 : w.alloc (.cells #[.int .i64 0, .int .i64 0, .string ⟨#[]⟩, .int .i64 0, .string ⟨#[]⟩, .string ⟨#[]⟩] 25) = W0
  obtain ⟨r0, bw0⟩ := KN0.out W0 hW0.symm
  have hs0 : W0.heap.size = w.heap.size + 1 := by rw [← hW0]; simp
  clear hW0
  refine (HC.out W0).mono ?_; rintro e w1 ⟨v, rfl, ow, b1⟩
  have ow2 : w1.ownsRow W0.heap.size 9 1 v ws.length (txC ws) := ow
  clear ow
  obtain ⟨Aw, cw, rfl, _⟩ := own_shape ow2
  have hgw : w.heap.size < w1.heap.size := by have := b1.size; omega
  clear hs0
  go_upto_region 3 with (fail)
  generalize hW2 : w1.alloc (.cells #[.int .i64 (-1), .int .i64 0, .string ⟨#[]⟩, .int .i64 0, .string ⟨#[]⟩, .string ⟨#[]⟩] 25) = W2
  obtain ⟨k2, bw2⟩ := KN1.out w1 W2 hW2.symm
  clear hW2
  have K2 := Lib.hid k2
  have R2 := Lib.hid ((r0.below b1 r0.lt).below bw2 (r0.below b1 r0.lt).lt)
  have B2 := Lib.hid ((bw0.trans (b1.mono bw0.size)).trans (bw2.mono (bw0.trans (b1.mono bw0.size)).size))
  clear k2 r0 bw0 b1 bw2 ow2
  obtain ⟨k0, k1, k2, k3, k4, k5⟩ := dsc_cells K2.out
  go_wp2_with fail
  refine (CI.out _).mono ?_; rintro e w5 ⟨rfl, b5⟩
  have R5 := Lib.hid (R2.out.below b5 R2.out.lt)
  have B5 := Lib.hid (B2.out.trans (b5.mono B2.out.size))
  clear b5
  obtain ⟨g0, g1, g2, g3, g4, g5, g6, g7, g8, g9, g10, g11, g12, g13, g14, g15, g16, g17⟩ := six_facts R5.out
  go_wp2_with fail
  refine bodyPost_ret (v := .tuple #[r.1.val, .int .i64 r.2]) (by rw [HV.out]; simp [results, Tryd.results36, go_sem, Dsc.val, zeroK, g12, g13, g14, g15, g16, g17]) rfl ⟨rfl, six_below B5.out (Nat.le_refl _) _ _ _ _ _ _⟩
end Go.Proofs.YtnbpbidflacoiaaDoor
