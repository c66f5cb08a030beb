/- The law FnDescriptions returns true for every code: the walk of the law. -/
import Derived.Test.YtnbpbidflacoiaaDoorRows
import Derived.Test.YtnbpbidflacoiaaDoorL0
import Derived.Test.YtnbpbidflacoiaaDoorM0
import Derived.WalkKit
import Derived.ProofKit
import Derived.OpenShut
import Derived.BigQuiet
import Derived.Outline
import Derived.WalkSpells
import Derived.WalkLawsBesides
import Derived.Deep.DeepCutAuto
import Derived.Test.YtnbpbidflacoiaaDoorZ4
import Derived.Test.YtnbpbidflacoiaaDoorZP
import Derived.Test.YtnbpbidflacoiaaDoorZH
import Derived.Test.YtnbpbidflacoiaaDoorQ5
import Derived.Test.YtnbpbidflacoiaaDoorQ6
import Derived.Test.YtnbpbidflacoiaaDoorQ8
import Derived.Test.YtnbpbidflacoiaaDoorQ9
import Derived.Test.YtnbpbidflacoiaaDoorQG
import Derived.Test.YtnbpbidflacoiaaDoorQH
import Derived.Deep.QuietTactic
namespace Go.Proofs.YtnbpbidflacoiaaDoor
open Go.ChangeShapes Go.WideShapes Go.ChangeAt Go.RowKit Go.Sort

theorem opp_z {d : Dsc} (hd : d.Ok) {s : ByteArray} (hs : s.size ≤ 100) {X : Dsc} (h : oppV d s = (X, 0)) : X.Ok ∧ oppV X d.a = (d, 0) ∧ isD X = true := by
  obtain ⟨_, _, _, _, rfl⟩ := opp_ok h
  exact ⟨⟨hd.1, by dsimp only; omega, hd.2.2⟩, opp_back h⟩
theorem lg_z {d : Dsc} (hd : d.Ok) {Y : Dsc} (h : lgV d = (Y, 0)) : Y.Ok ∧ lenV Y = lenV d ∧ isD Y = true := by
  obtain ⟨h1, h2⟩ := lg_len h
  refine ⟨?_, h1.symm, h2⟩
  unfold lgV at h
  split at h
  · split at h
    · have e := congrArg Prod.fst h
      dsimp only at e
      subst e
      refine ⟨?_, hd.2.1, hd.2.2⟩
      dsimp only
      split <;> decide
    · have e := congrArg Prod.fst h
      dsimp only at e
      subst e
      exact hd
  · exact absurd (congrArg Prod.snd h) (by dsimp only; decide)
theorem rep_z {d : Dsc} (hd : d.Ok) {so sn : ByteArray} (hs : sn.size ≤ 100) {Z : Dsc} (h : repV d so sn = (Z, 0)) : Z.Ok ∧ placesC Z = 0 ∧ inT (placesR Z) sn = true ∧ (so ≠ sn → inT (placesR Z) so = false) := by
  obtain ⟨h1, h2, h3⟩ := rep_places h
  have hR : placesR Z = placesD Z := by unfold placesR; rw [if_pos h1]
  refine ⟨?_, by unfold placesC; rw [if_pos h1], ?_, ?_⟩
  · unfold repV at h
    repeat' split at h
    all_goals first
      | exact absurd (congrArg Prod.snd h) (by dsimp only; decide)
      | (have e := congrArg Prod.fst h
         dsimp only at e
         subst e
         exact ⟨hd.1, by dsimp only; have := hd.2.1; omega, by dsimp only; have := hd.2.2; omega⟩)
  · rw [hR]; unfold inT; rw [decide_eq_true_eq, ixS_mem]; exact h2
  · intro hne
    rw [hR]; unfold inT; rw [decide_eq_false_iff_not, ixS_mem]; exact h3 hne
theorem placesR_le (d : Dsc) : (placesR d).length ≤ 2 := by
  unfold placesR placesD
  split
  · split <;> simp
  · simp
set_option maxRecDepth 100000 in
set_option maxHeartbeats 8000000 in
theorem lawDescs_any (A : Option Addr) (n c : Nat) (w : World) (hn : n ≤ 9223372036854775807) (h : n ≤ 4096 → Code8 w A n) (hdir : Dirs w) :
    Calls Tryd.prog 3 #[.slice A n c] w fun e w' => e = .returned (.bool true) ∧ Below w.heap.size w w' := by
  have HC := Lib.hid h; clear h
  by_cases hb : (4096 : Int) < n
  · have hd : decide ((4096 : Int) < n) = true := by simpa using hb
    have HD := Lib.hid hd; clear hd hb
    go_enter Tryd.func3, Tryd.ntmps3
    go_wp2_with fail
    refine (big_any A n c hn w).mono ?_; rw [HD.out]; rintro e w' ⟨rfl, rfl⟩
    go_wp2_with fail
    go_ret
    exact ⟨rfl, Below.refl _ _⟩
  · have hd : decide ((4096 : Int) < n) = false := by simpa using hb
    have HD := Lib.hid hd; clear hd
    have hc := HC.out (by omega)
    have Cd0 := Lib.hid hc; clear hc hb
    have B0 := Lib.hid (Below.refl w.heap.size w)
    go_enter Tryd.func3, Tryd.ntmps3
    go_wp2_with fail
    refine (big_any A n c hn w).mono ?_; rw [HD.out]; rintro e w' ⟨rfl, rfl⟩
    have Dr0 := Lib.hid hdir; clear hdir
    go_wp2_with fail
    refine (drawOpp_any A n c w Cd0.out).mono ?_
    rintro e w1 ⟨⟨dok, doc, dou, dod, doa, dob⟩, sq, rfl, okD, hsq, b⟩
    have B1 := Lib.hid (B0.out.trans (b.mono B0.out.size))
    have Cd1 := Lib.hid (Cd0.out.below b)
    have Dr1 := Lib.hid (Dr0.out.below b)
    clear b B0 Cd0 Dr0
    obtain ⟨⟨xok, xoc, xou, xod, xoa, xob⟩, xq, hX⟩ : ∃ X q, oppV ⟨dok, doc, dou, dod, doa, dob⟩ sq = (X, q) := ⟨_, _, rfl⟩
    have SO := Lib.hid (fun W => (show Calls Tryd.prog 11 #[.agg #[.int .i64 dok, .int .i64 doc, .string dou, .int .i64 dod, .string doa, .string dob], .string sq] W (fun e w' => e = .returned (.tuple #[.agg #[.int .i64 xok, .int .i64 xoc, .string xou, .int .i64 xod, .string xoa, .string xob], .int .i64 xq]) ∧ Below W.heap.size W w') from by have := specOpp_any ⟨dok, doc, dou, dod, doa, dob⟩ okD sq (by omega) W; rw [hX] at this; exact this))
    have IO := Lib.hid (fun W (h : Dirs W) => (show Calls Tryd.prog 10 #[.agg #[.int .i64 dok, .int .i64 doc, .string dou, .int .i64 dod, .string doa, .string dob], .string sq] W (fun e w' => e = .returned (.tuple #[.agg #[.int .i64 xok, .int .i64 xoc, .string xou, .int .i64 xod, .string xoa, .string xob], .int .i64 xq]) ∧ Below W.heap.size W w') from by have := implOpp_any ⟨dok, doc, dou, dod, doa, dob⟩ okD sq (by omega) W h; rw [hX] at this; exact this))
    have JO := Lib.hid (fun (h0 : xq = 0) W (h : Dirs W) => (show Calls Tryd.prog 10 #[.agg #[.int .i64 xok, .int .i64 xoc, .string xou, .int .i64 xod, .string xoa, .string xob], .string doa] W (fun e w' => e = .returned (.tuple #[.agg #[.int .i64 dok, .int .i64 doc, .string dou, .int .i64 dod, .string doa, .string dob], .int .i64 0]) ∧ Below W.heap.size W w') from by obtain ⟨k1, k2, k3⟩ := opp_z okD hsq (hX.trans (by rw [h0])); have := implOpp_any ⟨xok, xoc, xou, xod, xoa, xob⟩ k1 doa okD.2.1 W h; rw [k2] at this; exact this))
    have KO := Lib.hid (fun (h0 : xq = 0) W (h : Dirs W) => (show Calls Tryd.prog 24 #[.agg #[.int .i64 xok, .int .i64 xoc, .string xou, .int .i64 xod, .string xoa, .string xob]] W (fun e w' => e = .returned (.bool true) ∧ Below W.heap.size W w') from by obtain ⟨k1, k2, k3⟩ := opp_z okD hsq (hX.trans (by rw [h0])); have := implIsD_any ⟨xok, xoc, xou, xod, xoa, xob⟩ k1 W h; rw [k3] at this; exact this))
    clear hX okD hsq
    unfold Dsc.val
    dsimp only
    go_upto_region 4 with (fail)
    have b : Below w1.heap.size w1 (w1.alloc (.cells #[.int .i64 dok, .int .i64 doc, .string dou, .int .i64 dod, .string doa, .string dob] 25)) := (Below.refl _ _).alloc (Nat.le_refl _) _
    have nk := Blk.new w1 25 #[.int .i64 dok, .int .i64 doc, .string dou, .int .i64 dod, .string doa, .string dob]
    generalize w1.alloc (.cells #[.int .i64 dok, .int .i64 doc, .string dou, .int .i64 dod, .string doa, .string dob] 25) = w2 at b nk ⊢
    have nk := Lib.hid nk
    have B2 := Lib.hid (B1.out.trans (b.mono B1.out.size))
    have Cd2 := Lib.hid (Cd1.out.below b)
    have Dr2 := Lib.hid (Dr1.out.below b)
    have D32 := Lib.hid (nk.out)
    clear b B1 Cd1 Dr1
    clear nk
    obtain ⟨d30, d31, d32, d33, d34, d35⟩ := six_cells D32.out
    go_wp2_with fail
    refine (IO.out _ Dr2.out).mono ?_
    rintro e w3 ⟨rfl, b⟩
    clear d30 d31 d32 d33 d34 d35 IO
    have B3 := Lib.hid (B2.out.trans (b.mono B2.out.size))
    have Cd3 := Lib.hid (Cd2.out.below b)
    have Dr3 := Lib.hid (Dr2.out.below b)
    have D33 := Lib.hid (D32.out.below b D32.out.lt)
    clear b B2 Cd2 Dr2 D32
    go_upto_region 5 with (fail)
    have b : Below w3.heap.size w3 (w3.alloc (.cells #[.int .i64 xok, .int .i64 xoc, .string xou, .int .i64 xod, .string xoa, .string xob] 25)) := (Below.refl _ _).alloc (Nat.le_refl _) _
    have nk := Blk.new w3 25 #[.int .i64 xok, .int .i64 xoc, .string xou, .int .i64 xod, .string xoa, .string xob]
    generalize w3.alloc (.cells #[.int .i64 xok, .int .i64 xoc, .string xou, .int .i64 xod, .string xoa, .string xob] 25) = w4 at b nk ⊢
    have nk := Lib.hid nk
    have B4 := Lib.hid (B3.out.trans (b.mono B3.out.size))
    have Cd4 := Lib.hid (Cd3.out.below b)
    have Dr4 := Lib.hid (Dr3.out.below b)
    have D34 := Lib.hid (D33.out.below b D33.out.lt)
    have X54 := Lib.hid (nk.out)
    clear b B3 Cd3 Dr3 D33
    clear nk
    obtain ⟨d30, d31, d32, d33, d34, d35⟩ := six_cells D34.out
    go_wp2_with fail
    refine (SO.out _).mono ?_
    rintro e w5 ⟨rfl, b⟩
    clear d30 d31 d32 d33 d34 d35 SO
    have B5 := Lib.hid (B4.out.trans (b.mono B4.out.size))
    have Cd5 := Lib.hid (Cd4.out.below b)
    have Dr5 := Lib.hid (Dr4.out.below b)
    have D35 := Lib.hid (D34.out.below b D34.out.lt)
    have X55 := Lib.hid (X54.out.below b X54.out.lt)
    clear b B4 Cd4 Dr4 D34 X54
    go_upto_region 6 with (fail)
    have b : Below w5.heap.size w5 (w5.alloc (.cells #[.int .i64 xok, .int .i64 xoc, .string xou, .int .i64 xod, .string xoa, .string xob] 25)) := (Below.refl _ _).alloc (Nat.le_refl _) _
    have nk := Blk.new w5 25 #[.int .i64 xok, .int .i64 xoc, .string xou, .int .i64 xod, .string xoa, .string xob]
    generalize w5.alloc (.cells #[.int .i64 xok, .int .i64 xoc, .string xou, .int .i64 xod, .string xoa, .string xob] 25) = w6 at b nk ⊢
    have nk := Lib.hid nk
    have B6 := Lib.hid (B5.out.trans (b.mono B5.out.size))
    have Cd6 := Lib.hid (Cd5.out.below b)
    have Dr6 := Lib.hid (Dr5.out.below b)
    have D36 := Lib.hid (D35.out.below b D35.out.lt)
    have X56 := Lib.hid (X55.out.below b X55.out.lt)
    have X76 := Lib.hid (nk.out)
    clear b B5 Cd5 Dr5 D35 X55
    clear nk
    go_wp2_with fail
    refine (drawLg_any A n c _ Cd6.out).mono ?_
    rintro e w7 ⟨⟨dlk, dlc, dlu, dld, dla, dlb⟩, rfl, okL, b⟩
    have B7 := Lib.hid (B6.out.trans (b.mono B6.out.size))
    have Cd7 := Lib.hid (Cd6.out.below b)
    have Dr7 := Lib.hid (Dr6.out.below b)
    have D37 := Lib.hid (D36.out.below b D36.out.lt)
    have X57 := Lib.hid (X56.out.below b X56.out.lt)
    have X77 := Lib.hid (X76.out.below b X76.out.lt)
    clear b B6 Cd6 Dr6 D36 X56 X76
    obtain ⟨⟨yok, yoc, you, yod, yoa, yob⟩, yq, hY⟩ : ∃ Y q, lgV ⟨dlk, dlc, dlu, dld, dla, dlb⟩ = (Y, q) := ⟨_, _, rfl⟩
    obtain ⟨la, lb, hl⟩ : ∃ p q, lenV ⟨dlk, dlc, dlu, dld, dla, dlb⟩ = (p, q) := ⟨_, _, rfl⟩
    have SL := Lib.hid (fun W => (show Calls Tryd.prog 14 #[.agg #[.int .i64 dlk, .int .i64 dlc, .string dlu, .int .i64 dld, .string dla, .string dlb]] W (fun e w' => e = .returned (.tuple #[.agg #[.int .i64 yok, .int .i64 yoc, .string you, .int .i64 yod, .string yoa, .string yob], .int .i64 yq]) ∧ Below W.heap.size W w') from by have := specLg_any ⟨dlk, dlc, dlu, dld, dla, dlb⟩ okL W; rw [hY] at this; exact this))
    have IL := Lib.hid (fun W (h : Dirs W) => (show Calls Tryd.prog 13 #[.agg #[.int .i64 dlk, .int .i64 dlc, .string dlu, .int .i64 dld, .string dla, .string dlb]] W (fun e w' => e = .returned (.tuple #[.agg #[.int .i64 yok, .int .i64 yoc, .string you, .int .i64 yod, .string yoa, .string yob], .int .i64 yq]) ∧ Below W.heap.size W w') from by have := implLg_any ⟨dlk, dlc, dlu, dld, dla, dlb⟩ okL W h; rw [hY] at this; exact this))
    have LL := Lib.hid (fun W (h : Dirs W) => (show Calls Tryd.prog 19 #[.agg #[.int .i64 dlk, .int .i64 dlc, .string dlu, .int .i64 dld, .string dla, .string dlb]] W (fun e w' => e = .returned (.tuple #[.int .i64 la, .int .i64 lb]) ∧ Below W.heap.size W w') from by have := implLen_any ⟨dlk, dlc, dlu, dld, dla, dlb⟩ okL W h; rw [hl] at this; exact this))
    have LY := Lib.hid (fun (h0 : yq = 0) W (h : Dirs W) => (show Calls Tryd.prog 19 #[.agg #[.int .i64 yok, .int .i64 yoc, .string you, .int .i64 yod, .string yoa, .string yob]] W (fun e w' => e = .returned (.tuple #[.int .i64 la, .int .i64 lb]) ∧ Below W.heap.size W w') from by obtain ⟨k1, k2, k3⟩ := lg_z okL (hY.trans (by rw [h0])); have := implLen_any ⟨yok, yoc, you, yod, yoa, yob⟩ k1 W h; rw [k2, hl] at this; exact this))
    have KL := Lib.hid (fun (h0 : yq = 0) W (h : Dirs W) => (show Calls Tryd.prog 24 #[.agg #[.int .i64 yok, .int .i64 yoc, .string you, .int .i64 yod, .string yoa, .string yob]] W (fun e w' => e = .returned (.bool true) ∧ Below W.heap.size W w') from by obtain ⟨k1, k2, k3⟩ := lg_z okL (hY.trans (by rw [h0])); have := implIsD_any ⟨yok, yoc, you, yod, yoa, yob⟩ k1 W h; rw [k3] at this; exact this))
    clear hY hl okL
    unfold Dsc.val
    dsimp only
    go_upto_region 7 with (fail)
    have b : Below w7.heap.size w7 (w7.alloc (.cells #[.int .i64 dlk, .int .i64 dlc, .string dlu, .int .i64 dld, .string dla, .string dlb] 25)) := (Below.refl _ _).alloc (Nat.le_refl _) _
    have nk := Blk.new w7 25 #[.int .i64 dlk, .int .i64 dlc, .string dlu, .int .i64 dld, .string dla, .string dlb]
    generalize w7.alloc (.cells #[.int .i64 dlk, .int .i64 dlc, .string dlu, .int .i64 dld, .string dla, .string dlb] 25) = w8 at b nk ⊢
    have nk := Lib.hid nk
    have B8 := Lib.hid (B7.out.trans (b.mono B7.out.size))
    have Cd8 := Lib.hid (Cd7.out.below b)
    have Dr8 := Lib.hid (Dr7.out.below b)
    have D38 := Lib.hid (D37.out.below b D37.out.lt)
    have X58 := Lib.hid (X57.out.below b X57.out.lt)
    have X78 := Lib.hid (X77.out.below b X77.out.lt)
    have L98 := Lib.hid (nk.out)
    clear b B7 Cd7 Dr7 D37 X57 X77
    clear nk
    obtain ⟨l90, l91, l92, l93, l94, l95⟩ := six_cells L98.out
    go_wp2_with fail
    refine (IL.out _ Dr8.out).mono ?_
    rintro e w9 ⟨rfl, b⟩
    clear l90 l91 l92 l93 l94 l95 IL
    have B9 := Lib.hid (B8.out.trans (b.mono B8.out.size))
    have Cd9 := Lib.hid (Cd8.out.below b)
    have Dr9 := Lib.hid (Dr8.out.below b)
    have D39 := Lib.hid (D38.out.below b D38.out.lt)
    have X59 := Lib.hid (X58.out.below b X58.out.lt)
    have X79 := Lib.hid (X78.out.below b X78.out.lt)
    have L99 := Lib.hid (L98.out.below b L98.out.lt)
    clear b B8 Cd8 Dr8 D38 X58 X78 L98
    go_upto_region 8 with (fail)
    have b : Below w9.heap.size w9 (w9.alloc (.cells #[.int .i64 yok, .int .i64 yoc, .string you, .int .i64 yod, .string yoa, .string yob] 25)) := (Below.refl _ _).alloc (Nat.le_refl _) _
    have nk := Blk.new w9 25 #[.int .i64 yok, .int .i64 yoc, .string you, .int .i64 yod, .string yoa, .string yob]
    generalize w9.alloc (.cells #[.int .i64 yok, .int .i64 yoc, .string you, .int .i64 yod, .string yoa, .string yob] 25) = w10 at b nk ⊢
    have nk := Lib.hid nk
    have B10 := Lib.hid (B9.out.trans (b.mono B9.out.size))
    have Cd10 := Lib.hid (Cd9.out.below b)
    have Dr10 := Lib.hid (Dr9.out.below b)
    have D310 := Lib.hid (D39.out.below b D39.out.lt)
    have X510 := Lib.hid (X59.out.below b X59.out.lt)
    have X710 := Lib.hid (X79.out.below b X79.out.lt)
    have L910 := Lib.hid (L99.out.below b L99.out.lt)
    have Y1010 := Lib.hid (nk.out)
    clear b B9 Cd9 Dr9 D39 X59 X79 L99
    clear nk
    obtain ⟨l90, l91, l92, l93, l94, l95⟩ := six_cells L910.out
    go_wp2_with fail
    refine (SL.out _).mono ?_
    rintro e w11 ⟨rfl, b⟩
    clear l90 l91 l92 l93 l94 l95 SL
    have B11 := Lib.hid (B10.out.trans (b.mono B10.out.size))
    have Cd11 := Lib.hid (Cd10.out.below b)
    have Dr11 := Lib.hid (Dr10.out.below b)
    have D311 := Lib.hid (D310.out.below b D310.out.lt)
    have X511 := Lib.hid (X510.out.below b X510.out.lt)
    have X711 := Lib.hid (X710.out.below b X710.out.lt)
    have L911 := Lib.hid (L910.out.below b L910.out.lt)
    have Y1011 := Lib.hid (Y1010.out.below b Y1010.out.lt)
    clear b B10 Cd10 Dr10 D310 X510 X710 L910 Y1010
    go_upto_region 9 with (fail)
    have b : Below w11.heap.size w11 (w11.alloc (.cells #[.int .i64 yok, .int .i64 yoc, .string you, .int .i64 yod, .string yoa, .string yob] 25)) := (Below.refl _ _).alloc (Nat.le_refl _) _
    have nk := Blk.new w11 25 #[.int .i64 yok, .int .i64 yoc, .string you, .int .i64 yod, .string yoa, .string yob]
    generalize w11.alloc (.cells #[.int .i64 yok, .int .i64 yoc, .string you, .int .i64 yod, .string yoa, .string yob] 25) = w12 at b nk ⊢
    have nk := Lib.hid nk
    have B12 := Lib.hid (B11.out.trans (b.mono B11.out.size))
    have Cd12 := Lib.hid (Cd11.out.below b)
    have Dr12 := Lib.hid (Dr11.out.below b)
    have D312 := Lib.hid (D311.out.below b D311.out.lt)
    have X512 := Lib.hid (X511.out.below b X511.out.lt)
    have X712 := Lib.hid (X711.out.below b X711.out.lt)
    have L912 := Lib.hid (L911.out.below b L911.out.lt)
    have Y1012 := Lib.hid (Y1011.out.below b Y1011.out.lt)
    have Y1212 := Lib.hid (nk.out)
    clear b B11 Cd11 Dr11 D311 X511 X711 L911 Y1011
    clear nk
    go_wp2_with fail
    refine (drawRep_any A n c _ Cd12.out).mono ?_
    rintro e w13 ⟨⟨drk, drc, dru, drd, dra, drb⟩, so, sn, rfl, okR, hso, hsn, b⟩
    have B13 := Lib.hid (B12.out.trans (b.mono B12.out.size))
    have Cd13 := Lib.hid (Cd12.out.below b)
    have Dr13 := Lib.hid (Dr12.out.below b)
    have D313 := Lib.hid (D312.out.below b D312.out.lt)
    have X513 := Lib.hid (X512.out.below b X512.out.lt)
    have X713 := Lib.hid (X712.out.below b X712.out.lt)
    have L913 := Lib.hid (L912.out.below b L912.out.lt)
    have Y1013 := Lib.hid (Y1012.out.below b Y1012.out.lt)
    have Y1213 := Lib.hid (Y1212.out.below b Y1212.out.lt)
    clear b B12 Cd12 Dr12 D312 X512 X712 L912 Y1012 Y1212
    obtain ⟨⟨zok, zoc, zou, zod, zoa, zob⟩, zq, hZ⟩ : ∃ Z q, repV ⟨drk, drc, dru, drd, dra, drb⟩ so sn = (Z, q) := ⟨_, _, rfl⟩
    have SR := Lib.hid (fun W => (show Calls Tryd.prog 17 #[.agg #[.int .i64 drk, .int .i64 drc, .string dru, .int .i64 drd, .string dra, .string drb], .string so, .string sn] W (fun e w' => e = .returned (.tuple #[.agg #[.int .i64 zok, .int .i64 zoc, .string zou, .int .i64 zod, .string zoa, .string zob], .int .i64 zq]) ∧ Below W.heap.size W w') from by have := specRep_any ⟨drk, drc, dru, drd, dra, drb⟩ okR so hso sn (by omega) W; rw [hZ] at this; exact this))
    have IR := Lib.hid (fun W (h : Dirs W) => (show Calls Tryd.prog 16 #[.agg #[.int .i64 drk, .int .i64 drc, .string dru, .int .i64 drd, .string dra, .string drb], .string so, .string sn] W (fun e w' => e = .returned (.tuple #[.agg #[.int .i64 zok, .int .i64 zoc, .string zou, .int .i64 zod, .string zoa, .string zob], .int .i64 zq]) ∧ Below W.heap.size W w') from by have := implRep_any ⟨drk, drc, dru, drd, dra, drb⟩ okR so hso sn (by omega) W h; rw [hZ] at this; exact this))
    obtain ⟨PZ, hPZ⟩ : ∃ P, placesR ⟨zok, zoc, zou, zod, zoa, zob⟩ = P := ⟨_, rfl⟩
    have hPl := placesR_le ⟨zok, zoc, zou, zod, zoa, zob⟩
    rw [hPZ] at hPl
    have PR := Lib.hid (fun (h0 : zq = 0) W (h : Dirs W) => (show Calls Tryd.prog 21 #[.agg #[.int .i64 zok, .int .i64 zoc, .string zou, .int .i64 zod, .string zoa, .string zob]] W (fun e w' => ∃ v, e = .returned (.tuple #[v, .int .i64 0]) ∧ w'.ownsRow W.heap.size 9 1 v PZ.length (txC PZ) ∧ Below W.heap.size W w') from by obtain ⟨k1, k2, k3, k4⟩ := rep_z okR hsn (hZ.trans (by rw [h0])); have := implPl_any ⟨zok, zoc, zou, zod, zoa, zob⟩ k1 W h; rw [k2, hPZ] at this; exact this))
    have PT := Lib.hid (fun (h0 : zq = 0) => (show inT PZ sn = true ∧ (so ≠ sn → inT PZ so = false) from by obtain ⟨k1, k2, k3, k4⟩ := rep_z okR hsn (hZ.trans (by rw [h0])); rw [hPZ] at k3 k4; exact ⟨k3, k4⟩))
    clear hZ hPZ okR
    unfold Dsc.val
    dsimp only
    go_upto_region 10 with (fail)
    have b : Below w13.heap.size w13 (w13.alloc (.cells #[.int .i64 drk, .int .i64 drc, .string dru, .int .i64 drd, .string dra, .string drb] 25)) := (Below.refl _ _).alloc (Nat.le_refl _) _
    have nk := Blk.new w13 25 #[.int .i64 drk, .int .i64 drc, .string dru, .int .i64 drd, .string dra, .string drb]
    generalize w13.alloc (.cells #[.int .i64 drk, .int .i64 drc, .string dru, .int .i64 drd, .string dra, .string drb] 25) = w14 at b nk ⊢
    have nk := Lib.hid nk
    have B14 := Lib.hid (B13.out.trans (b.mono B13.out.size))
    have Cd14 := Lib.hid (Cd13.out.below b)
    have Dr14 := Lib.hid (Dr13.out.below b)
    have D314 := Lib.hid (D313.out.below b D313.out.lt)
    have X514 := Lib.hid (X513.out.below b X513.out.lt)
    have X714 := Lib.hid (X713.out.below b X713.out.lt)
    have L914 := Lib.hid (L913.out.below b L913.out.lt)
    have Y1014 := Lib.hid (Y1013.out.below b Y1013.out.lt)
    have Y1214 := Lib.hid (Y1213.out.below b Y1213.out.lt)
    have R1414 := Lib.hid (nk.out)
    clear b B13 Cd13 Dr13 D313 X513 X713 L913 Y1013 Y1213
    clear nk
    obtain ⟨r140, r141, r142, r143, r144, r145⟩ := six_cells R1414.out
    go_wp2_with fail
    refine (IR.out _ Dr14.out).mono ?_
    rintro e w15 ⟨rfl, b⟩
    clear r140 r141 r142 r143 r144 r145 IR
    have B15 := Lib.hid (B14.out.trans (b.mono B14.out.size))
    have Cd15 := Lib.hid (Cd14.out.below b)
    have Dr15 := Lib.hid (Dr14.out.below b)
    have D315 := Lib.hid (D314.out.below b D314.out.lt)
    have X515 := Lib.hid (X514.out.below b X514.out.lt)
    have X715 := Lib.hid (X714.out.below b X714.out.lt)
    have L915 := Lib.hid (L914.out.below b L914.out.lt)
    have Y1015 := Lib.hid (Y1014.out.below b Y1014.out.lt)
    have Y1215 := Lib.hid (Y1214.out.below b Y1214.out.lt)
    have R1415 := Lib.hid (R1414.out.below b R1414.out.lt)
    clear b B14 Cd14 Dr14 D314 X514 X714 L914 Y1014 Y1214 R1414
    go_upto_region 11 with (fail)
    have b : Below w15.heap.size w15 (w15.alloc (.cells #[.int .i64 zok, .int .i64 zoc, .string zou, .int .i64 zod, .string zoa, .string zob] 25)) := (Below.refl _ _).alloc (Nat.le_refl _) _
    have nk := Blk.new w15 25 #[.int .i64 zok, .int .i64 zoc, .string zou, .int .i64 zod, .string zoa, .string zob]
    generalize w15.alloc (.cells #[.int .i64 zok, .int .i64 zoc, .string zou, .int .i64 zod, .string zoa, .string zob] 25) = w16 at b nk ⊢
    have nk := Lib.hid nk
    have B16 := Lib.hid (B15.out.trans (b.mono B15.out.size))
    have Cd16 := Lib.hid (Cd15.out.below b)
    have Dr16 := Lib.hid (Dr15.out.below b)
    have D316 := Lib.hid (D315.out.below b D315.out.lt)
    have X516 := Lib.hid (X515.out.below b X515.out.lt)
    have X716 := Lib.hid (X715.out.below b X715.out.lt)
    have L916 := Lib.hid (L915.out.below b L915.out.lt)
    have Y1016 := Lib.hid (Y1015.out.below b Y1015.out.lt)
    have Y1216 := Lib.hid (Y1215.out.below b Y1215.out.lt)
    have R1416 := Lib.hid (R1415.out.below b R1415.out.lt)
    have Z1716 := Lib.hid (nk.out)
    clear b B15 Cd15 Dr15 D315 X515 X715 L915 Y1015 Y1215 R1415
    clear nk
    obtain ⟨r140, r141, r142, r143, r144, r145⟩ := six_cells R1416.out
    go_wp2_with fail
    refine (SR.out _).mono ?_
    rintro e w17 ⟨rfl, b⟩
    clear r140 r141 r142 r143 r144 r145 SR
    have B17 := Lib.hid (B16.out.trans (b.mono B16.out.size))
    have Cd17 := Lib.hid (Cd16.out.below b)
    have Dr17 := Lib.hid (Dr16.out.below b)
    have D317 := Lib.hid (D316.out.below b D316.out.lt)
    have X517 := Lib.hid (X516.out.below b X516.out.lt)
    have X717 := Lib.hid (X716.out.below b X716.out.lt)
    have L917 := Lib.hid (L916.out.below b L916.out.lt)
    have Y1017 := Lib.hid (Y1016.out.below b Y1016.out.lt)
    have Y1217 := Lib.hid (Y1216.out.below b Y1216.out.lt)
    have R1417 := Lib.hid (R1416.out.below b R1416.out.lt)
    have Z1717 := Lib.hid (Z1716.out.below b Z1716.out.lt)
    clear b B16 Cd16 Dr16 D316 X516 X716 L916 Y1016 Y1216 R1416 Z1716
    go_upto_region 12 with (fail)
    have b : Below w17.heap.size w17 (w17.alloc (.cells #[.int .i64 zok, .int .i64 zoc, .string zou, .int .i64 zod, .string zoa, .string zob] 25)) := (Below.refl _ _).alloc (Nat.le_refl _) _
    have nk := Blk.new w17 25 #[.int .i64 zok, .int .i64 zoc, .string zou, .int .i64 zod, .string zoa, .string zob]
    generalize w17.alloc (.cells #[.int .i64 zok, .int .i64 zoc, .string zou, .int .i64 zod, .string zoa, .string zob] 25) = w18 at b nk ⊢
    have nk := Lib.hid nk
    have B18 := Lib.hid (B17.out.trans (b.mono B17.out.size))
    have Cd18 := Lib.hid (Cd17.out.below b)
    have Dr18 := Lib.hid (Dr17.out.below b)
    have D318 := Lib.hid (D317.out.below b D317.out.lt)
    have X518 := Lib.hid (X517.out.below b X517.out.lt)
    have X718 := Lib.hid (X717.out.below b X717.out.lt)
    have L918 := Lib.hid (L917.out.below b L917.out.lt)
    have Y1018 := Lib.hid (Y1017.out.below b Y1017.out.lt)
    have Y1218 := Lib.hid (Y1217.out.below b Y1217.out.lt)
    have R1418 := Lib.hid (R1417.out.below b R1417.out.lt)
    have Z1718 := Lib.hid (Z1717.out.below b Z1717.out.lt)
    have Z1918 := Lib.hid (nk.out)
    clear b B17 Cd17 Dr17 D317 X517 X717 L917 Y1017 Y1217 R1417 Z1717
    clear nk
    clear R1418
    go_wp2_with fail
    refine (drawLen_any A n c _ Cd18.out).mono ?_
    rintro e w19 ⟨⟨dmk, dmc, dmu, dmd, dma, dmb⟩, rfl, okM, b⟩
    have B19 := Lib.hid (B18.out.trans (b.mono B18.out.size))
    have Cd19 := Lib.hid (Cd18.out.below b)
    have Dr19 := Lib.hid (Dr18.out.below b)
    have D319 := Lib.hid (D318.out.below b D318.out.lt)
    have X519 := Lib.hid (X518.out.below b X518.out.lt)
    have X719 := Lib.hid (X718.out.below b X718.out.lt)
    have L919 := Lib.hid (L918.out.below b L918.out.lt)
    have Y1019 := Lib.hid (Y1018.out.below b Y1018.out.lt)
    have Y1219 := Lib.hid (Y1218.out.below b Y1218.out.lt)
    have Z1719 := Lib.hid (Z1718.out.below b Z1718.out.lt)
    have Z1919 := Lib.hid (Z1918.out.below b Z1918.out.lt)
    clear b B18 Cd18 Dr18 D318 X518 X718 L918 Y1018 Y1218 Z1718 Z1918
    clear Cd19
    obtain ⟨ma, mb, hm⟩ : ∃ p q, lenV ⟨dmk, dmc, dmu, dmd, dma, dmb⟩ = (p, q) := ⟨_, _, rfl⟩
    obtain ⟨PM, hPM⟩ : ∃ P, placesR ⟨dmk, dmc, dmu, dmd, dma, dmb⟩ = P := ⟨_, rfl⟩
    obtain ⟨pc, hpc⟩ : ∃ P, placesC ⟨dmk, dmc, dmu, dmd, dma, dmb⟩ = P := ⟨_, rfl⟩
    have hMl := placesR_le ⟨dmk, dmc, dmu, dmd, dma, dmb⟩
    rw [hPM] at hMl
    have SM := Lib.hid (fun W => (show Calls Tryd.prog 20 #[.agg #[.int .i64 dmk, .int .i64 dmc, .string dmu, .int .i64 dmd, .string dma, .string dmb]] W (fun e w' => e = .returned (.tuple #[.int .i64 ma, .int .i64 mb]) ∧ Below W.heap.size W w') from by have := specLen_any ⟨dmk, dmc, dmu, dmd, dma, dmb⟩ okM W; rw [hm] at this; exact this))
    have IM := Lib.hid (fun W (h : Dirs W) => (show Calls Tryd.prog 19 #[.agg #[.int .i64 dmk, .int .i64 dmc, .string dmu, .int .i64 dmd, .string dma, .string dmb]] W (fun e w' => e = .returned (.tuple #[.int .i64 ma, .int .i64 mb]) ∧ Below W.heap.size W w') from by have := implLen_any ⟨dmk, dmc, dmu, dmd, dma, dmb⟩ okM W h; rw [hm] at this; exact this))
    have SP := Lib.hid (fun W => (show Calls Tryd.prog 22 #[.agg #[.int .i64 dmk, .int .i64 dmc, .string dmu, .int .i64 dmd, .string dma, .string dmb]] W (fun e w' => ∃ v, e = .returned (.tuple #[v, .int .i64 pc]) ∧ w'.ownsRow W.heap.size 9 1 v PM.length (txC PM) ∧ Below W.heap.size W w') from by have := specPl_any ⟨dmk, dmc, dmu, dmd, dma, dmb⟩ okM W; rw [hPM, hpc] at this; exact this))
    have IP := Lib.hid (fun W (h : Dirs W) => (show Calls Tryd.prog 21 #[.agg #[.int .i64 dmk, .int .i64 dmc, .string dmu, .int .i64 dmd, .string dma, .string dmb]] W (fun e w' => ∃ v, e = .returned (.tuple #[v, .int .i64 pc]) ∧ w'.ownsRow W.heap.size 9 1 v PM.length (txC PM) ∧ Below W.heap.size W w') from by have := implPl_any ⟨dmk, dmc, dmu, dmd, dma, dmb⟩ okM W h; rw [hPM, hpc] at this; exact this))
    clear hm hPM hpc okM
    unfold Dsc.val
    dsimp only
    go_upto_region 13 with (fail)
    have b : Below w19.heap.size w19 (w19.alloc (.cells #[.int .i64 dmk, .int .i64 dmc, .string dmu, .int .i64 dmd, .string dma, .string dmb] 25)) := (Below.refl _ _).alloc (Nat.le_refl _) _
    have nk := Blk.new w19 25 #[.int .i64 dmk, .int .i64 dmc, .string dmu, .int .i64 dmd, .string dma, .string dmb]
    generalize w19.alloc (.cells #[.int .i64 dmk, .int .i64 dmc, .string dmu, .int .i64 dmd, .string dma, .string dmb] 25) = w20 at b nk ⊢
    have nk := Lib.hid nk
    have B20 := Lib.hid (B19.out.trans (b.mono B19.out.size))
    have Dr20 := Lib.hid (Dr19.out.below b)
    have D320 := Lib.hid (D319.out.below b D319.out.lt)
    have X520 := Lib.hid (X519.out.below b X519.out.lt)
    have X720 := Lib.hid (X719.out.below b X719.out.lt)
    have L920 := Lib.hid (L919.out.below b L919.out.lt)
    have Y1020 := Lib.hid (Y1019.out.below b Y1019.out.lt)
    have Y1220 := Lib.hid (Y1219.out.below b Y1219.out.lt)
    have Z1720 := Lib.hid (Z1719.out.below b Z1719.out.lt)
    have Z1920 := Lib.hid (Z1919.out.below b Z1919.out.lt)
    have M2120 := Lib.hid (nk.out)
    clear b B19 Dr19 D319 X519 X719 L919 Y1019 Y1219 Z1719 Z1919
    clear nk
    obtain ⟨m210, m211, m212, m213, m214, m215⟩ := six_cells M2120.out
    go_wp2_with fail
    refine (IM.out _ Dr20.out).mono ?_
    rintro e w21 ⟨rfl, b⟩
    clear m210 m211 m212 m213 m214 m215 IM
    have B21 := Lib.hid (B20.out.trans (b.mono B20.out.size))
    have Dr21 := Lib.hid (Dr20.out.below b)
    have D321 := Lib.hid (D320.out.below b D320.out.lt)
    have X521 := Lib.hid (X520.out.below b X520.out.lt)
    have X721 := Lib.hid (X720.out.below b X720.out.lt)
    have L921 := Lib.hid (L920.out.below b L920.out.lt)
    have Y1021 := Lib.hid (Y1020.out.below b Y1020.out.lt)
    have Y1221 := Lib.hid (Y1220.out.below b Y1220.out.lt)
    have Z1721 := Lib.hid (Z1720.out.below b Z1720.out.lt)
    have Z1921 := Lib.hid (Z1920.out.below b Z1920.out.lt)
    have M2121 := Lib.hid (M2120.out.below b M2120.out.lt)
    clear b B20 Dr20 D320 X520 X720 L920 Y1020 Y1220 Z1720 Z1920 M2120
    obtain ⟨m210, m211, m212, m213, m214, m215⟩ := six_cells M2121.out
    go_wp2_with fail
    refine (SM.out _).mono ?_
    rintro e w22 ⟨rfl, b⟩
    clear m210 m211 m212 m213 m214 m215 SM
    have B22 := Lib.hid (B21.out.trans (b.mono B21.out.size))
    have Dr22 := Lib.hid (Dr21.out.below b)
    have D322 := Lib.hid (D321.out.below b D321.out.lt)
    have X522 := Lib.hid (X521.out.below b X521.out.lt)
    have X722 := Lib.hid (X721.out.below b X721.out.lt)
    have L922 := Lib.hid (L921.out.below b L921.out.lt)
    have Y1022 := Lib.hid (Y1021.out.below b Y1021.out.lt)
    have Y1222 := Lib.hid (Y1221.out.below b Y1221.out.lt)
    have Z1722 := Lib.hid (Z1721.out.below b Z1721.out.lt)
    have Z1922 := Lib.hid (Z1921.out.below b Z1921.out.lt)
    have M2122 := Lib.hid (M2121.out.below b M2121.out.lt)
    clear b B21 Dr21 D321 X521 X721 L921 Y1021 Y1221 Z1721 Z1921 M2121
    obtain ⟨m210, m211, m212, m213, m214, m215⟩ := six_cells M2122.out
    go_wp2_with fail
    refine (IP.out _ Dr22.out).mono ?_
    rintro e w23 ⟨v, rfl, own, b⟩
    clear m210 m211 m212 m213 m214 m215 IP
    obtain ⟨AP, cP, rfl, _⟩ := own_shape own
    have B23 := Lib.hid (B22.out.trans (b.mono B22.out.size))
    have Dr23 := Lib.hid (Dr22.out.below b)
    have D323 := Lib.hid (D322.out.below b D322.out.lt)
    have X523 := Lib.hid (X522.out.below b X522.out.lt)
    have X723 := Lib.hid (X722.out.below b X722.out.lt)
    have L923 := Lib.hid (L922.out.below b L922.out.lt)
    have Y1023 := Lib.hid (Y1022.out.below b Y1022.out.lt)
    have Y1223 := Lib.hid (Y1222.out.below b Y1222.out.lt)
    have Z1723 := Lib.hid (Z1722.out.below b Z1722.out.lt)
    have Z1923 := Lib.hid (Z1922.out.below b Z1922.out.lt)
    have M2123 := Lib.hid (M2122.out.below b M2122.out.lt)
    have OP23 := Lib.hid (own)
    clear b B22 Dr22 D322 X522 X722 L922 Y1022 Y1222 Z1722 Z1922 M2122
    clear own
    obtain ⟨m210, m211, m212, m213, m214, m215⟩ := six_cells M2123.out
    go_wp2_with fail
    refine (SP.out _).mono ?_
    rintro e w24 ⟨v, rfl, own, b⟩
    clear m210 m211 m212 m213 m214 m215 SP
    obtain ⟨AQ, cQ, rfl, _⟩ := own_shape own
    have B24 := Lib.hid (B23.out.trans (b.mono B23.out.size))
    have Dr24 := Lib.hid (Dr23.out.below b)
    have D324 := Lib.hid (D323.out.below b D323.out.lt)
    have X524 := Lib.hid (X523.out.below b X523.out.lt)
    have X724 := Lib.hid (X723.out.below b X723.out.lt)
    have L924 := Lib.hid (L923.out.below b L923.out.lt)
    have Y1024 := Lib.hid (Y1023.out.below b Y1023.out.lt)
    have Y1224 := Lib.hid (Y1223.out.below b Y1223.out.lt)
    have Z1724 := Lib.hid (Z1723.out.below b Z1723.out.lt)
    have Z1924 := Lib.hid (Z1923.out.below b Z1923.out.lt)
    have M2124 := Lib.hid (M2123.out.below b M2123.out.lt)
    have OP24 := Lib.hid (own_below OP23.out b)
    have OQ24 := Lib.hid (own)
    clear b B23 Dr23 D323 X523 X723 L923 Y1023 Y1223 Z1723 Z1923 M2123 OP23
    clear own
    clear M2124
    obtain ⟨x50, x51, x52, x53, x54, x55⟩ := six_cells X524.out
    obtain ⟨x70, x71, x72, x73, x74, x75⟩ := six_cells X724.out
    obtain ⟨y100, y101, y102, y103, y104, y105⟩ := six_cells Y1024.out
    obtain ⟨y120, y121, y122, y123, y124, y125⟩ := six_cells Y1224.out
    obtain ⟨z170, z171, z172, z173, z174, z175⟩ := six_cells Z1724.out
    obtain ⟨z190, z191, z192, z193, z194, z195⟩ := six_cells Z1924.out
    go_wp2_with fail
    refine (likeTx_same PM (by omega) AP AQ cP cQ _ (Reads.of_own OP24.out) (Reads.of_own OQ24.out)).mono ?_
    rintro e w25 ⟨rfl, b⟩
    clear x50 x51 x52 x53 x54 x55 x70 x71 x72 x73 x74 x75 y100 y101 y102 y103 y104 y105 y120 y121 y122 y123 y124 y125 z170 z171 z172 z173 z174 z175 z190 z191 z192 z193 z194 z195
    have B25 := Lib.hid (B24.out.trans (b.mono B24.out.size))
    have Dr25 := Lib.hid (Dr24.out.below b)
    have D325 := Lib.hid (D324.out.below b D324.out.lt)
    have X525 := Lib.hid (X524.out.below b X524.out.lt)
    have X725 := Lib.hid (X724.out.below b X724.out.lt)
    have L925 := Lib.hid (L924.out.below b L924.out.lt)
    have Y1025 := Lib.hid (Y1024.out.below b Y1024.out.lt)
    have Y1225 := Lib.hid (Y1224.out.below b Y1224.out.lt)
    have Z1725 := Lib.hid (Z1724.out.below b Z1724.out.lt)
    have Z1925 := Lib.hid (Z1924.out.below b Z1924.out.lt)
    have OP25 := Lib.hid (own_below OP24.out b)
    have OQ25 := Lib.hid (own_below OQ24.out b)
    clear b B24 Dr24 D324 X524 X724 L924 Y1024 Y1224 Z1724 Z1924 OP24 OQ24
    clear OP25
    clear OQ25
    clear X725
    clear Y1225
    clear Z1925
    by_cases hyq : yq = 0
    · have LY1 := Lib.hid (LY.out hyq); have KL1 := Lib.hid (KL.out hyq)
      clear LY KL
      subst hyq
      obtain ⟨l90, l91, l92, l93, l94, l95⟩ := six_cells L925.out
      go_wp2_with fail
      refine (LL.out _ Dr25.out).mono ?_
      rintro e w26 ⟨rfl, b⟩
      clear l90 l91 l92 l93 l94 l95 LL
      have B26 := Lib.hid (B25.out.trans (b.mono B25.out.size))
      have Dr26 := Lib.hid (Dr25.out.below b)
      have D326 := Lib.hid (D325.out.below b D325.out.lt)
      have X526 := Lib.hid (X525.out.below b X525.out.lt)
      have L926 := Lib.hid (L925.out.below b L925.out.lt)
      have Y1026 := Lib.hid (Y1025.out.below b Y1025.out.lt)
      have Z1726 := Lib.hid (Z1725.out.below b Z1725.out.lt)
      clear b B25 Dr25 D325 X525 L925 Y1025 Z1725
      obtain ⟨y100, y101, y102, y103, y104, y105⟩ := six_cells Y1026.out
      go_wp2_with fail
      refine (LY1.out _ Dr26.out).mono ?_
      rintro e w27 ⟨rfl, b⟩
      clear y100 y101 y102 y103 y104 y105 LY1
      have B27 := Lib.hid (B26.out.trans (b.mono B26.out.size))
      have Dr27 := Lib.hid (Dr26.out.below b)
      have D327 := Lib.hid (D326.out.below b D326.out.lt)
      have X527 := Lib.hid (X526.out.below b X526.out.lt)
      have L927 := Lib.hid (L926.out.below b L926.out.lt)
      have Y1027 := Lib.hid (Y1026.out.below b Y1026.out.lt)
      have Z1727 := Lib.hid (Z1726.out.below b Z1726.out.lt)
      clear b B26 Dr26 D326 X526 L926 Y1026 Z1726
      obtain ⟨y100, y101, y102, y103, y104, y105⟩ := six_cells Y1027.out
      go_wp2_with fail
      refine (KL1.out _ Dr27.out).mono ?_
      rintro e w28 ⟨rfl, b⟩
      clear y100 y101 y102 y103 y104 y105 KL1
      have B28 := Lib.hid (B27.out.trans (b.mono B27.out.size))
      have Dr28 := Lib.hid (Dr27.out.below b)
      have D328 := Lib.hid (D327.out.below b D327.out.lt)
      have X528 := Lib.hid (X527.out.below b X527.out.lt)
      have L928 := Lib.hid (L927.out.below b L927.out.lt)
      have Y1028 := Lib.hid (Y1027.out.below b Y1027.out.lt)
      have Z1728 := Lib.hid (Z1727.out.below b Z1727.out.lt)
      clear b B27 Dr27 D327 X527 L927 Y1027 Z1727
      clear L928
      clear Y1028
      by_cases hzq : zq = 0
      · have P1 := Lib.hid (PR.out hzq); have P2 := PT.out hzq
        clear PR PT
        subst hzq
        obtain ⟨t1, t2⟩ := P2
        have T2 := Lib.hid t2
        clear t2
        obtain ⟨z170, z171, z172, z173, z174, z175⟩ := six_cells Z1728.out
        go_wp2_with fail
        refine (P1.out _ Dr28.out).mono ?_
        rintro e w29 ⟨v, rfl, own, b⟩
        clear z170 z171 z172 z173 z174 z175 P1
        obtain ⟨AZ, cZ, rfl, _⟩ := own_shape own
        have B29 := Lib.hid (B28.out.trans (b.mono B28.out.size))
        have Dr29 := Lib.hid (Dr28.out.below b)
        have D329 := Lib.hid (D328.out.below b D328.out.lt)
        have X529 := Lib.hid (X528.out.below b X528.out.lt)
        have Z1729 := Lib.hid (Z1728.out.below b Z1728.out.lt)
        have OZ29 := Lib.hid (own)
        clear b B28 Dr28 D328 X528 Z1728
        clear own
        clear Z1729
        go_wp2_with fail
        refine (hasText_any PZ sn (by omega) AZ cZ _ (Reads.of_own OZ29.out)).mono ?_
        rintro e w30 ⟨rfl, b⟩
        rw [t1]
        clear t1
        have B30 := Lib.hid (B29.out.trans (b.mono B29.out.size))
        have Dr30 := Lib.hid (Dr29.out.below b)
        have D330 := Lib.hid (D329.out.below b D329.out.lt)
        have X530 := Lib.hid (X529.out.below b X529.out.lt)
        have OZ30 := Lib.hid (own_below OZ29.out b)
        clear b B29 Dr29 D329 X529 OZ29
        by_cases hss : so = sn
        · have hs1 : (so.toList == sn.toList) = true := by rw [str_eq]; simpa using hss
          clear T2 hss
          clear OZ30
          by_cases hxq : xq = 0
          rotate_left
          · have hxq1 : (xq != 0) = true := by simpa using hxq
            clear JO KO
            go_wp2_with fail
            go_ret
            exact ⟨rfl, B30.out⟩
          have J1 := Lib.hid (JO.out hxq); have K1 := Lib.hid (KO.out hxq)
          clear JO KO
          subst hxq
          obtain ⟨d30, d31, d32, d33, d34, d35⟩ := six_cells D330.out
          obtain ⟨x50, x51, x52, x53, x54, x55⟩ := six_cells X530.out
          go_wp2_with fail
          refine (J1.out _ Dr30.out).mono ?_
          rintro e w31 ⟨rfl, b⟩
          clear d30 d31 d32 d33 d34 d35 x50 x51 x52 x53 x54 x55 J1
          have B31 := Lib.hid (B30.out.trans (b.mono B30.out.size))
          have Dr31 := Lib.hid (Dr30.out.below b)
          have D331 := Lib.hid (D330.out.below b D330.out.lt)
          have X531 := Lib.hid (X530.out.below b X530.out.lt)
          clear b B30 Dr30 D330 X530
          go_upto_region 31 with (fail)
          have b : Below w31.heap.size w31 (w31.alloc (.cells #[.int .i64 dok, .int .i64 doc, .string dou, .int .i64 dod, .string doa, .string dob] 25)) := (Below.refl _ _).alloc (Nat.le_refl _) _
          have nk := Blk.new w31 25 #[.int .i64 dok, .int .i64 doc, .string dou, .int .i64 dod, .string doa, .string dob]
          generalize w31.alloc (.cells #[.int .i64 dok, .int .i64 doc, .string dou, .int .i64 dod, .string doa, .string dob] 25) = w32 at b nk ⊢
          have nk := Lib.hid nk
          have B32 := Lib.hid (B31.out.trans (b.mono B31.out.size))
          have Dr32 := Lib.hid (Dr31.out.below b)
          have D332 := Lib.hid (D331.out.below b D331.out.lt)
          have X532 := Lib.hid (X531.out.below b X531.out.lt)
          have D3632 := Lib.hid (nk.out)
          clear b B31 Dr31 D331 X531
          clear nk
          obtain ⟨d30, d31, d32, d33, d34, d35⟩ := six_cells D332.out
          obtain ⟨x50, x51, x52, x53, x54, x55⟩ := six_cells X532.out
          obtain ⟨d360, d361, d362, d363, d364, d365⟩ := six_cells D3632.out
          go_wp2_with fail
          refine (K1.out _ Dr32.out).mono ?_
          rintro e w33 ⟨rfl, b⟩
          clear d30 d31 d32 d33 d34 d35 x50 x51 x52 x53 x54 x55 d360 d361 d362 d363 d364 d365 K1
          have B33 := Lib.hid (B32.out.trans (b.mono B32.out.size))
          have Dr33 := Lib.hid (Dr32.out.below b)
          have D333 := Lib.hid (D332.out.below b D332.out.lt)
          have X533 := Lib.hid (X532.out.below b X532.out.lt)
          have D3633 := Lib.hid (D3632.out.below b D3632.out.lt)
          clear b B32 Dr32 D332 X532 D3632
          go_wp2_with fail
          go_ret
          exact ⟨rfl, B33.out⟩
        · have t2 := T2.out hss
          have hs1 : (so.toList == sn.toList) = false := by rw [str_eq]; simpa using hss
          clear T2 hss
          go_wp2_with fail
          refine (hasText_any PZ so (by omega) AZ cZ _ (Reads.of_own OZ30.out)).mono ?_
          rintro e w31 ⟨rfl, b⟩
          rw [t2]
          clear t2
          have B31 := Lib.hid (B30.out.trans (b.mono B30.out.size))
          have Dr31 := Lib.hid (Dr30.out.below b)
          have D331 := Lib.hid (D330.out.below b D330.out.lt)
          have X531 := Lib.hid (X530.out.below b X530.out.lt)
          have OZ31 := Lib.hid (own_below OZ30.out b)
          clear b B30 Dr30 D330 X530 OZ30
          clear OZ31
          by_cases hxq : xq = 0
          rotate_left
          · have hxq1 : (xq != 0) = true := by simpa using hxq
            clear JO KO
            go_wp2_with fail
            go_ret
            exact ⟨rfl, B31.out⟩
          have J1 := Lib.hid (JO.out hxq); have K1 := Lib.hid (KO.out hxq)
          clear JO KO
          subst hxq
          obtain ⟨d30, d31, d32, d33, d34, d35⟩ := six_cells D331.out
          obtain ⟨x50, x51, x52, x53, x54, x55⟩ := six_cells X531.out
          go_wp2_with fail
          refine (J1.out _ Dr31.out).mono ?_
          rintro e w32 ⟨rfl, b⟩
          clear d30 d31 d32 d33 d34 d35 x50 x51 x52 x53 x54 x55 J1
          have B32 := Lib.hid (B31.out.trans (b.mono B31.out.size))
          have Dr32 := Lib.hid (Dr31.out.below b)
          have D332 := Lib.hid (D331.out.below b D331.out.lt)
          have X532 := Lib.hid (X531.out.below b X531.out.lt)
          clear b B31 Dr31 D331 X531
          go_upto_region 31 with (fail)
          have b : Below w32.heap.size w32 (w32.alloc (.cells #[.int .i64 dok, .int .i64 doc, .string dou, .int .i64 dod, .string doa, .string dob] 25)) := (Below.refl _ _).alloc (Nat.le_refl _) _
          have nk := Blk.new w32 25 #[.int .i64 dok, .int .i64 doc, .string dou, .int .i64 dod, .string doa, .string dob]
          generalize w32.alloc (.cells #[.int .i64 dok, .int .i64 doc, .string dou, .int .i64 dod, .string doa, .string dob] 25) = w33 at b nk ⊢
          have nk := Lib.hid nk
          have B33 := Lib.hid (B32.out.trans (b.mono B32.out.size))
          have Dr33 := Lib.hid (Dr32.out.below b)
          have D333 := Lib.hid (D332.out.below b D332.out.lt)
          have X533 := Lib.hid (X532.out.below b X532.out.lt)
          have D3633 := Lib.hid (nk.out)
          clear b B32 Dr32 D332 X532
          clear nk
          obtain ⟨d30, d31, d32, d33, d34, d35⟩ := six_cells D333.out
          obtain ⟨x50, x51, x52, x53, x54, x55⟩ := six_cells X533.out
          obtain ⟨d360, d361, d362, d363, d364, d365⟩ := six_cells D3633.out
          go_wp2_with fail
          refine (K1.out _ Dr33.out).mono ?_
          rintro e w34 ⟨rfl, b⟩
          clear d30 d31 d32 d33 d34 d35 x50 x51 x52 x53 x54 x55 d360 d361 d362 d363 d364 d365 K1
          have B34 := Lib.hid (B33.out.trans (b.mono B33.out.size))
          have Dr34 := Lib.hid (Dr33.out.below b)
          have D334 := Lib.hid (D333.out.below b D333.out.lt)
          have X534 := Lib.hid (X533.out.below b X533.out.lt)
          have D3634 := Lib.hid (D3633.out.below b D3633.out.lt)
          clear b B33 Dr33 D333 X533 D3633
          go_wp2_with fail
          go_ret
          exact ⟨rfl, B34.out⟩
      · have hzq1 : (zq == 0) = false := by simpa using hzq
        clear PR PT
        clear Z1728
        by_cases hxq : xq = 0
        rotate_left
        · have hxq1 : (xq != 0) = true := by simpa using hxq
          clear JO KO
          go_wp2_with fail
          go_ret
          exact ⟨rfl, B28.out⟩
        have J1 := Lib.hid (JO.out hxq); have K1 := Lib.hid (KO.out hxq)
        clear JO KO
        subst hxq
        obtain ⟨d30, d31, d32, d33, d34, d35⟩ := six_cells D328.out
        obtain ⟨x50, x51, x52, x53, x54, x55⟩ := six_cells X528.out
        go_wp2_with fail
        refine (J1.out _ Dr28.out).mono ?_
        rintro e w29 ⟨rfl, b⟩
        clear d30 d31 d32 d33 d34 d35 x50 x51 x52 x53 x54 x55 J1
        have B29 := Lib.hid (B28.out.trans (b.mono B28.out.size))
        have Dr29 := Lib.hid (Dr28.out.below b)
        have D329 := Lib.hid (D328.out.below b D328.out.lt)
        have X529 := Lib.hid (X528.out.below b X528.out.lt)
        clear b B28 Dr28 D328 X528
        go_upto_region 31 with (fail)
        have b : Below w29.heap.size w29 (w29.alloc (.cells #[.int .i64 dok, .int .i64 doc, .string dou, .int .i64 dod, .string doa, .string dob] 25)) := (Below.refl _ _).alloc (Nat.le_refl _) _
        have nk := Blk.new w29 25 #[.int .i64 dok, .int .i64 doc, .string dou, .int .i64 dod, .string doa, .string dob]
        generalize w29.alloc (.cells #[.int .i64 dok, .int .i64 doc, .string dou, .int .i64 dod, .string doa, .string dob] 25) = w30 at b nk ⊢
        have nk := Lib.hid nk
        have B30 := Lib.hid (B29.out.trans (b.mono B29.out.size))
        have Dr30 := Lib.hid (Dr29.out.below b)
        have D330 := Lib.hid (D329.out.below b D329.out.lt)
        have X530 := Lib.hid (X529.out.below b X529.out.lt)
        have D3630 := Lib.hid (nk.out)
        clear b B29 Dr29 D329 X529
        clear nk
        obtain ⟨d30, d31, d32, d33, d34, d35⟩ := six_cells D330.out
        obtain ⟨x50, x51, x52, x53, x54, x55⟩ := six_cells X530.out
        obtain ⟨d360, d361, d362, d363, d364, d365⟩ := six_cells D3630.out
        go_wp2_with fail
        refine (K1.out _ Dr30.out).mono ?_
        rintro e w31 ⟨rfl, b⟩
        clear d30 d31 d32 d33 d34 d35 x50 x51 x52 x53 x54 x55 d360 d361 d362 d363 d364 d365 K1
        have B31 := Lib.hid (B30.out.trans (b.mono B30.out.size))
        have Dr31 := Lib.hid (Dr30.out.below b)
        have D331 := Lib.hid (D330.out.below b D330.out.lt)
        have X531 := Lib.hid (X530.out.below b X530.out.lt)
        have D3631 := Lib.hid (D3630.out.below b D3630.out.lt)
        clear b B30 Dr30 D330 X530 D3630
        go_wp2_with fail
        go_ret
        exact ⟨rfl, B31.out⟩
    · have hyq1 : (yq == 0) = false := by simpa using hyq
      clear LY KL LL
      clear L925
      clear Y1025
      by_cases hzq : zq = 0
      · have P1 := Lib.hid (PR.out hzq); have P2 := PT.out hzq
        clear PR PT
        subst hzq
        obtain ⟨t1, t2⟩ := P2
        have T2 := Lib.hid t2
        clear t2
        obtain ⟨z170, z171, z172, z173, z174, z175⟩ := six_cells Z1725.out
        go_wp2_with fail
        refine (P1.out _ Dr25.out).mono ?_
        rintro e w26 ⟨v, rfl, own, b⟩
        clear z170 z171 z172 z173 z174 z175 P1
        obtain ⟨AZ, cZ, rfl, _⟩ := own_shape own
        have B26 := Lib.hid (B25.out.trans (b.mono B25.out.size))
        have Dr26 := Lib.hid (Dr25.out.below b)
        have D326 := Lib.hid (D325.out.below b D325.out.lt)
        have X526 := Lib.hid (X525.out.below b X525.out.lt)
        have Z1726 := Lib.hid (Z1725.out.below b Z1725.out.lt)
        have OZ26 := Lib.hid (own)
        clear b B25 Dr25 D325 X525 Z1725
        clear own
        clear Z1726
        go_wp2_with fail
        refine (hasText_any PZ sn (by omega) AZ cZ _ (Reads.of_own OZ26.out)).mono ?_
        rintro e w27 ⟨rfl, b⟩
        rw [t1]
        clear t1
        have B27 := Lib.hid (B26.out.trans (b.mono B26.out.size))
        have Dr27 := Lib.hid (Dr26.out.below b)
        have D327 := Lib.hid (D326.out.below b D326.out.lt)
        have X527 := Lib.hid (X526.out.below b X526.out.lt)
        have OZ27 := Lib.hid (own_below OZ26.out b)
        clear b B26 Dr26 D326 X526 OZ26
        by_cases hss : so = sn
        · have hs1 : (so.toList == sn.toList) = true := by rw [str_eq]; simpa using hss
          clear T2 hss
          clear OZ27
          by_cases hxq : xq = 0
          rotate_left
          · have hxq1 : (xq != 0) = true := by simpa using hxq
            clear JO KO
            go_wp2_with fail
            go_ret
            exact ⟨rfl, B27.out⟩
          have J1 := Lib.hid (JO.out hxq); have K1 := Lib.hid (KO.out hxq)
          clear JO KO
          subst hxq
          obtain ⟨d30, d31, d32, d33, d34, d35⟩ := six_cells D327.out
          obtain ⟨x50, x51, x52, x53, x54, x55⟩ := six_cells X527.out
          go_wp2_with fail
          refine (J1.out _ Dr27.out).mono ?_
          rintro e w28 ⟨rfl, b⟩
          clear d30 d31 d32 d33 d34 d35 x50 x51 x52 x53 x54 x55 J1
          have B28 := Lib.hid (B27.out.trans (b.mono B27.out.size))
          have Dr28 := Lib.hid (Dr27.out.below b)
          have D328 := Lib.hid (D327.out.below b D327.out.lt)
          have X528 := Lib.hid (X527.out.below b X527.out.lt)
          clear b B27 Dr27 D327 X527
          go_upto_region 31 with (fail)
          have b : Below w28.heap.size w28 (w28.alloc (.cells #[.int .i64 dok, .int .i64 doc, .string dou, .int .i64 dod, .string doa, .string dob] 25)) := (Below.refl _ _).alloc (Nat.le_refl _) _
          have nk := Blk.new w28 25 #[.int .i64 dok, .int .i64 doc, .string dou, .int .i64 dod, .string doa, .string dob]
          generalize w28.alloc (.cells #[.int .i64 dok, .int .i64 doc, .string dou, .int .i64 dod, .string doa, .string dob] 25) = w29 at b nk ⊢
          have nk := Lib.hid nk
          have B29 := Lib.hid (B28.out.trans (b.mono B28.out.size))
          have Dr29 := Lib.hid (Dr28.out.below b)
          have D329 := Lib.hid (D328.out.below b D328.out.lt)
          have X529 := Lib.hid (X528.out.below b X528.out.lt)
          have D3629 := Lib.hid (nk.out)
          clear b B28 Dr28 D328 X528
          clear nk
          obtain ⟨d30, d31, d32, d33, d34, d35⟩ := six_cells D329.out
          obtain ⟨x50, x51, x52, x53, x54, x55⟩ := six_cells X529.out
          obtain ⟨d360, d361, d362, d363, d364, d365⟩ := six_cells D3629.out
          go_wp2_with fail
          refine (K1.out _ Dr29.out).mono ?_
          rintro e w30 ⟨rfl, b⟩
          clear d30 d31 d32 d33 d34 d35 x50 x51 x52 x53 x54 x55 d360 d361 d362 d363 d364 d365 K1
          have B30 := Lib.hid (B29.out.trans (b.mono B29.out.size))
          have Dr30 := Lib.hid (Dr29.out.below b)
          have D330 := Lib.hid (D329.out.below b D329.out.lt)
          have X530 := Lib.hid (X529.out.below b X529.out.lt)
          have D3630 := Lib.hid (D3629.out.below b D3629.out.lt)
          clear b B29 Dr29 D329 X529 D3629
          go_wp2_with fail
          go_ret
          exact ⟨rfl, B30.out⟩
        · have t2 := T2.out hss
          have hs1 : (so.toList == sn.toList) = false := by rw [str_eq]; simpa using hss
          clear T2 hss
          go_wp2_with fail
          refine (hasText_any PZ so (by omega) AZ cZ _ (Reads.of_own OZ27.out)).mono ?_
          rintro e w28 ⟨rfl, b⟩
          rw [t2]
          clear t2
          have B28 := Lib.hid (B27.out.trans (b.mono B27.out.size))
          have Dr28 := Lib.hid (Dr27.out.below b)
          have D328 := Lib.hid (D327.out.below b D327.out.lt)
          have X528 := Lib.hid (X527.out.below b X527.out.lt)
          have OZ28 := Lib.hid (own_below OZ27.out b)
          clear b B27 Dr27 D327 X527 OZ27
          clear OZ28
          by_cases hxq : xq = 0
          rotate_left
          · have hxq1 : (xq != 0) = true := by simpa using hxq
            clear JO KO
            go_wp2_with fail
            go_ret
            exact ⟨rfl, B28.out⟩
          have J1 := Lib.hid (JO.out hxq); have K1 := Lib.hid (KO.out hxq)
          clear JO KO
          subst hxq
          obtain ⟨d30, d31, d32, d33, d34, d35⟩ := six_cells D328.out
          obtain ⟨x50, x51, x52, x53, x54, x55⟩ := six_cells X528.out
          go_wp2_with fail
          refine (J1.out _ Dr28.out).mono ?_
          rintro e w29 ⟨rfl, b⟩
          clear d30 d31 d32 d33 d34 d35 x50 x51 x52 x53 x54 x55 J1
          have B29 := Lib.hid (B28.out.trans (b.mono B28.out.size))
          have Dr29 := Lib.hid (Dr28.out.below b)
          have D329 := Lib.hid (D328.out.below b D328.out.lt)
          have X529 := Lib.hid (X528.out.below b X528.out.lt)
          clear b B28 Dr28 D328 X528
          go_upto_region 31 with (fail)
          have b : Below w29.heap.size w29 (w29.alloc (.cells #[.int .i64 dok, .int .i64 doc, .string dou, .int .i64 dod, .string doa, .string dob] 25)) := (Below.refl _ _).alloc (Nat.le_refl _) _
          have nk := Blk.new w29 25 #[.int .i64 dok, .int .i64 doc, .string dou, .int .i64 dod, .string doa, .string dob]
          generalize w29.alloc (.cells #[.int .i64 dok, .int .i64 doc, .string dou, .int .i64 dod, .string doa, .string dob] 25) = w30 at b nk ⊢
          have nk := Lib.hid nk
          have B30 := Lib.hid (B29.out.trans (b.mono B29.out.size))
          have Dr30 := Lib.hid (Dr29.out.below b)
          have D330 := Lib.hid (D329.out.below b D329.out.lt)
          have X530 := Lib.hid (X529.out.below b X529.out.lt)
          have D3630 := Lib.hid (nk.out)
          clear b B29 Dr29 D329 X529
          clear nk
          obtain ⟨d30, d31, d32, d33, d34, d35⟩ := six_cells D330.out
          obtain ⟨x50, x51, x52, x53, x54, x55⟩ := six_cells X530.out
          obtain ⟨d360, d361, d362, d363, d364, d365⟩ := six_cells D3630.out
          go_wp2_with fail
          refine (K1.out _ Dr30.out).mono ?_
          rintro e w31 ⟨rfl, b⟩
          clear d30 d31 d32 d33 d34 d35 x50 x51 x52 x53 x54 x55 d360 d361 d362 d363 d364 d365 K1
          have B31 := Lib.hid (B30.out.trans (b.mono B30.out.size))
          have Dr31 := Lib.hid (Dr30.out.below b)
          have D331 := Lib.hid (D330.out.below b D330.out.lt)
          have X531 := Lib.hid (X530.out.below b X530.out.lt)
          have D3631 := Lib.hid (D3630.out.below b D3630.out.lt)
          clear b B30 Dr30 D330 X530 D3630
          go_wp2_with fail
          go_ret
          exact ⟨rfl, B31.out⟩
      · have hzq1 : (zq == 0) = false := by simpa using hzq
        clear PR PT
        clear Z1725
        by_cases hxq : xq = 0
        rotate_left
        · have hxq1 : (xq != 0) = true := by simpa using hxq
          clear JO KO
          go_wp2_with fail
          go_ret
          exact ⟨rfl, B25.out⟩
        have J1 := Lib.hid (JO.out hxq); have K1 := Lib.hid (KO.out hxq)
        clear JO KO
        subst hxq
        obtain ⟨d30, d31, d32, d33, d34, d35⟩ := six_cells D325.out
        obtain ⟨x50, x51, x52, x53, x54, x55⟩ := six_cells X525.out
        go_wp2_with fail
        refine (J1.out _ Dr25.out).mono ?_
        rintro e w26 ⟨rfl, b⟩
        clear d30 d31 d32 d33 d34 d35 x50 x51 x52 x53 x54 x55 J1
        have B26 := Lib.hid (B25.out.trans (b.mono B25.out.size))
        have Dr26 := Lib.hid (Dr25.out.below b)
        have D326 := Lib.hid (D325.out.below b D325.out.lt)
        have X526 := Lib.hid (X525.out.below b X525.out.lt)
        clear b B25 Dr25 D325 X525
        go_upto_region 31 with (fail)
        have b : Below w26.heap.size w26 (w26.alloc (.cells #[.int .i64 dok, .int .i64 doc, .string dou, .int .i64 dod, .string doa, .string dob] 25)) := (Below.refl _ _).alloc (Nat.le_refl _) _
        have nk := Blk.new w26 25 #[.int .i64 dok, .int .i64 doc, .string dou, .int .i64 dod, .string doa, .string dob]
        generalize w26.alloc (.cells #[.int .i64 dok, .int .i64 doc, .string dou, .int .i64 dod, .string doa, .string dob] 25) = w27 at b nk ⊢
        have nk := Lib.hid nk
        have B27 := Lib.hid (B26.out.trans (b.mono B26.out.size))
        have Dr27 := Lib.hid (Dr26.out.below b)
        have D327 := Lib.hid (D326.out.below b D326.out.lt)
        have X527 := Lib.hid (X526.out.below b X526.out.lt)
        have D3627 := Lib.hid (nk.out)
        clear b B26 Dr26 D326 X526
        clear nk
        obtain ⟨d30, d31, d32, d33, d34, d35⟩ := six_cells D327.out
        obtain ⟨x50, x51, x52, x53, x54, x55⟩ := six_cells X527.out
        obtain ⟨d360, d361, d362, d363, d364, d365⟩ := six_cells D3627.out
        go_wp2_with fail
        refine (K1.out _ Dr27.out).mono ?_
        rintro e w28 ⟨rfl, b⟩
        clear d30 d31 d32 d33 d34 d35 x50 x51 x52 x53 x54 x55 d360 d361 d362 d363 d364 d365 K1
        have B28 := Lib.hid (B27.out.trans (b.mono B27.out.size))
        have Dr28 := Lib.hid (Dr27.out.below b)
        have D328 := Lib.hid (D327.out.below b D327.out.lt)
        have X528 := Lib.hid (X527.out.below b X527.out.lt)
        have D3628 := Lib.hid (D3627.out.below b D3627.out.lt)
        clear b B27 Dr27 D327 X527 D3627
        go_wp2_with fail
        go_ret
        exact ⟨rfl, B28.out⟩
end Go.Proofs.YtnbpbidflacoiaaDoor
