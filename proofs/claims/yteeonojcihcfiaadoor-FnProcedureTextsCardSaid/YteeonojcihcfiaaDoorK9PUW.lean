/- The law of FnProcedureTexts: the texts of procedures, written and read. -/
import Derived.Test.YteeonojcihcfiaaDoorRows
import Derived.Test.YteeonojcihcfiaaDoorK9GA
import Derived.WalkKit
import Derived.ProofKit
import Derived.OpenShut
import Derived.BigQuiet
import Derived.Outline
import Derived.WalkSpells
import Derived.WalkLawsBesides
import Derived.Deep.DeepCutAuto
import Derived.Test.YteeonojcihcfiaaDoorK9PU3
import Derived.Test.YteeonojcihcfiaaDoorK9PU6
import Derived.Test.YteeonojcihcfiaaDoorK9DPU
import Derived.Test.YteeonojcihcfiaaDoorK9DP2
namespace Go.Proofs.YteeonojcihcfiaaDoor
open Go.ChangeShapes Go.WideShapes Go.ChangeAt Go.RowKit

theorem big_any (A : Option Addr) (n c : Nat) (hn : n ≤ 9223372036854775807) (w : World) :
    Calls Tryd.prog 15 #[.slice A n c] w fun e w' => e = .returned (.bool (decide ((4096 : Int) < n))) ∧ w = w' := by
  go_enter Tryd.func15, Tryd.ntmps15
  go_wp2
  go_ret
  exact ⟨rfl, rfl⟩
set_option maxRecDepth 100000 in
theorem like_same (L : List Stp) (n : Nat) (hl : L.length = n) (A A' : Option Addr) (c c' : Nat) (w : World) (hr : Reads w w.heap.size 2 A n (stC L)) (hr' : Reads w w.heap.size 2 A' n (stC L)) (hm : n ≤ 9223372036854775807) :
    Calls Tryd.prog 18 #[.slice A n c, .slice A' n c'] w fun e w' => e = .returned (.bool true) ∧ Below w.heap.size w w' := by
  have HL := Lib.hid hl; clear hl
  have HR := Lib.hid hr; clear hr
  have HR' := Lib.hid hr'; clear hr'
  go_enter Tryd.func18, Tryd.ntmps18
  go_wp2_with fail
  go_loopw [5] (fun v5 wr => ∃ k : Nat, k ≤ n ∧ Hid (Below w.heap.size w wr) ∧ v5 = .int .i64 k) (fun i _ => n - (intOf i).toNat)
  case atStart => exact ⟨0, by omega, Below.refl _ _, rfl⟩
  case round =>
    obtain ⟨k, hk, BW, rfl⟩ := hrel
    by_cases hlt : k < n
    · obtain ⟨ab, ao, rfl, hadb, hcell⟩ := (HR.out.below BW.out).2 (by omega)
      obtain ⟨ab', ao', rfl, hadb', hcell'⟩ := (HR'.out.below BW.out).2 (by omega)
      obtain ⟨e0, e1⟩ := stC_get L k (by rw [HL.out]; exact hlt)
      have c0 := hcell _ _ e0
      have c1 := hcell _ _ e1
      have d0 := hcell' _ _ e0
      have d1 := hcell' _ _ e1
      rw [← Nat.add_assoc] at c1 d1
      clear hcell hcell' e0 e1
      generalize L[k]'(by rw [HL.out]; exact hlt) = s at c0 c1 d0 d1
      have hk0 : (0 : Int) ≤ (k : Int) := by omega
      have hkn : (k : Int) < (n : Int) := by omega
      go_wp2_with fail
      go_quiet (fail)
      go_wp2_with fail
      go_roundw
      case rel => exact ⟨k + 1, by omega, below_drewN' BW.out nq, by go_num⟩
      case measure => simp [intOf]; omega
    · obtain rfl : k = n := by omega
      go_wp2_with fail
      go_ret
      exact ⟨rfl, BW.out⟩
theorem joinL_len (c : UInt8) (m : Nat) : ∀ L : List (List UInt8), (∀ p ∈ L, p.length ≤ m) → (joinL c L).length ≤ L.length * (m + 1)
  | [], _ => by simp [joinL]
  | [a], h => by have := h a (by simp); simp [joinL]; omega
  | a :: b :: r, h => by
    have h1 := h a (by simp)
    have h2 := joinL_len c m (b :: r) (fun p hp => h p (List.mem_cons_of_mem _ hp))
    simp only [joinL, List.length_append, List.length_cons] at h2 ⊢
    rw [Nat.add_mul] at h2 ⊢
    rw [Nat.add_mul]
    omega
theorem stepT_small {x : Stp} (h : InR x) : (stepT x).data.toList.length ≤ 27 := by
  obtain ⟨h1, h2, h3, h4⟩ := h
  have a := (decN_le (i := x.2.toNat) (by omega)).2
  have b := (decN_le (i := x.1.toNat) (by omega)).2
  have e : (stepT x).size = (stepT x).data.toList.length := Lib.size_eq _
  rw [← e]
  have k : (⟨#[64]⟩ : ByteArray).size = 1 := rfl
  rw [show stepT x = decN x.2.toNat ++ ⟨#[64]⟩ ++ decN x.1.toNat from rfl, ByteArray.size_append, ByteArray.size_append, k]
  omega
theorem textP_size {xs : List Stp} (h : isProc xs = true) : (textP xs).size ≤ 1000 := by
  unfold textP
  split
  · decide
  · have h1 := isProc_in h
    have h2 := isProc_len h
    have h3 := joinL_len 32 27 ((xs.map stepT).map fun p => p.data.toList) (by
      intro p hp
      rw [List.mem_map] at hp
      obtain ⟨q, hq, rfl⟩ := hp
      rw [List.mem_map] at hq
      obtain ⟨x, hx, rfl⟩ := hq
      exact stepT_small (h1 x hx))
    rw [List.length_map, List.length_map] at h3
    have e : (joinB (xs.map stepT)).size = (joinL 32 ((xs.map stepT).map fun p => p.data.toList)).length := by
      rw [Lib.size_eq]; simp [joinB]
    rw [e]
    omega
/-- Drawn steps. -/
def DrawnProc (w : World) (e : Ending) (w' : World) : Prop := ∃ xs A c, e = .returned (.slice A xs.length c) ∧ xs.length ≤ 13 ∧ w'.ownsRow w.heap.size 41 2 (.slice A xs.length c) xs.length (stC xs) ∧ Below w.heap.size w w'
set_option maxRecDepth 100000 in
theorem drawPText_any (A : Option Addr) (n c : Nat) (w : World) (h : Code8 w A n) :
    Calls Tryd.prog 16 #[.slice A n c] w (DrawnProc w) := by
  have HC := Lib.hid h; clear h
  go_enter Tryd.func16, Tryd.ntmps16
  go_wp2_with fail
  refine (from_code A n c w HC.out).mono ?_
  rintro e w1 ⟨g, rfl, hs1, b1⟩
  have HB1 := Lib.hid b1
  have HS1 := Lib.hid hs1
  have z1 := b1.size
  have gb := hs1.base
  clear b1 hs1
  go_wp2_with fail
  refine (draw25_any w.heap.size g w1 HS1.out z1).mono ?_
  rintro e w2 ⟨xs, A2, c2, rfl, hq, own2, hs2, ho2⟩
  have HW2 := Lib.hid (own_mono (base' := w.heap.size) own2 z1)
  have HB2 := Lib.hid (HB1.out.trans (only_below ho2 gb z1))
  have HQ := Lib.hid hq
  clear hs2 ho2 own2 hq
  go_wp2_with fail
  go_ret
  exact ⟨xs, A2, c2, rfl, HQ.out.1, HW2.out, HB2.out⟩
set_option maxRecDepth 100000 in
theorem drawRText_any (A : Option Addr) (n c : Nat) (w : World) (h : Code8 w A n) :
    Calls Tryd.prog 17 #[.slice A n c] w fun e w' => ∃ s : ByteArray, e = .returned (.string s) ∧ s.size ≤ 2200 ∧ Below w.heap.size w w' := by
  have HC := Lib.hid h; clear h
  go_enter Tryd.func17, Tryd.ntmps17
  go_wp2_with fail
  refine (from_code A n c w HC.out).mono ?_
  rintro e w1 ⟨g, rfl, hs1, b1⟩
  have HB1 := Lib.hid b1
  have HS1 := Lib.hid hs1
  have z1 := b1.size
  have gb := hs1.base
  clear b1 hs1
  go_wp2_with fail
  refine (good_any w.heap.size g w1 HS1.out z1).mono ?_
  rintro e w2 ⟨xs, A2, c2, rfl, hp, own2, hs2, ho2⟩
  have HS2 := Lib.hid hs2
  have HO2 := Lib.hid ho2
  have z2 := ho2.size
  have hts := textP_size hp
  have HT := Lib.hid (specPText_any xs hp A2 c2 w2 (Reads.of_own own2))
  clear hs2 ho2 own2 hp
  generalize textP xs = tx at hts HT
  go_wp2_with fail
  refine HT.out.mono ?_
  rintro e w3 ⟨rfl, b3⟩
  have HS3 := Lib.hid (HS2.out.below b3)
  have HO3 := Lib.hid (only_trans HO2.out (only_of_below b3))
  have z3 := b3.size
  clear b3
  go_wp2_with fail
  refine (draw_any 3 w.heap.size g w3 HS3.out (by omega)).mono ?_
  rintro e w4 ⟨y, rfl, _, _, _, hs4, ho4⟩
  have HS4 := Lib.hid hs4
  have HO4 := Lib.hid (only_trans HO3.out ho4)
  have z4 := ho4.size
  clear hs4 ho4
  by_cases hy : y = 0
  · have hb : (y == 0) = true := by simpa using hy
    clear hy
    go_wp2_with fail
    refine (damage_any tx hts w.heap.size g w4 HS4.out (by omega)).mono ?_
    rintro e w5 ⟨s, rfl, hz, hs5, ho5⟩
    have HB5 := Lib.hid (HB1.out.trans (only_below (only_trans HO4.out ho5) gb z1))
    clear hs5 ho5
    go_wp2_with fail
    go_ret
    exact ⟨s, rfl, hz, HB5.out⟩
  · have hb : (y == 0) = false := by simpa using hy
    have hb1 : ¬ y = 0 := hy
    clear hy
    have HB5 := Lib.hid (HB1.out.trans (only_below HO4.out gb z1))
    go_wp2_with fail
    go_ret
    exact ⟨tx, rfl, by omega, HB5.out⟩
theorem ptV_code (xs : List Stp) : isProc xs = ((ptV xs).2 == 0) := by
  unfold ptV
  cases h : isProc xs
  · rfl
  · rfl
set_option maxRecDepth 100000 in
set_option maxHeartbeats 4000000 in
theorem lawPX_any (A : Option Addr) (n c : Nat) (w : World) (hn : n ≤ 9223372036854775807) (hc : n ≤ 4096 → Code8 w A n) (ht : Tab w) (he : Errs w) :
    Calls Tryd.prog 5 #[.slice A n c] w fun e w' => e = .returned (.bool true) ∧ Below w.heap.size w w' := by
  have HCn := Lib.hid hc; clear hc
  by_cases hb : (4096 : Int) < n
  · have hd : decide ((4096 : Int) < n) = true := by simpa using hb
    have HD := Lib.hid hd; clear hd hb
    go_enter Tryd.func5, Tryd.ntmps5
    go_wp2_with fail
    refine (big_any A n c hn w).mono ?_; rw [HD.out]; rintro e w' ⟨rfl, rfl⟩
    go_wp2_with fail
    go_ret
    exact ⟨rfl, Below.refl _ _⟩
  have hd : decide ((4096 : Int) < n) = false := by simpa using hb
  have HD := Lib.hid hd; clear hd
  have HC2 := Lib.hid (HCn.out (by omega)); clear hb
  have HTb := Lib.hid ht; have HEr := Lib.hid he; clear ht he
  go_enter Tryd.func5, Tryd.ntmps5
  go_wp2_with fail
  refine (big_any A n c hn w).mono ?_; rw [HD.out]; rintro e w' ⟨rfl, rfl⟩
  go_wp2_with fail
  refine (drawPText_any A n c w HC2.out).mono ?_
  rintro e w1 ⟨xs, A1, c1, rfl, hx13, own1, b1⟩
  have W1 := Lib.hid own1
  have B1 := Lib.hid b1
  have HP := Lib.hid (fun h => (show (ptV xs) = (textP xs, 0) from if_pos h))
  have HQ := Lib.hid (fun (h : isProc xs = true) => pr_back h)
  have HQz := Lib.hid (fun (h : isProc xs = true) => textP_size h)
  have CI := Lib.hid (fun W (hr : Reads W W.heap.size 2 A1 xs.length (stC xs)) => implIs_law xs A1 c1 W hr (by omega))
  have PI := Lib.hid (fun W (hr : Reads W W.heap.size 2 A1 xs.length (stC xs)) hT => implPT_any xs (by omega) A1 c1 W hr hT)
  have PS := Lib.hid (fun W (hr : Reads W W.heap.size 2 A1 xs.length (stC xs)) => specPT_any xs (by omega) A1 c1 W hr)
  rw [ptV_code xs] at CI
  have HPc := Lib.hid (ptV_code xs)
  generalize ptV xs = pv at HP CI PI PS HPc
  obtain ⟨pt, pc⟩ := pv
  dsimp only at HP CI PI PS HPc
  clear own1 b1
  go_wp2_with fail
  refine (PI.out w1 (Reads.of_own W1.out) (HTb.out.below B1.out)).mono ?_; rintro e w2 ⟨rfl, b2⟩
  have B2 := Lib.hid (B1.out.trans (b2.mono B1.out.size)); have W2 := Lib.hid (own_below W1.out b2)
  clear b2 B1 W1
  go_wp2_with fail
  refine (PS.out w2 (Reads.of_own W2.out)).mono ?_; rintro e w3 ⟨rfl, b3⟩
  have B3 := Lib.hid (B2.out.trans (b3.mono B2.out.size)); have W3 := Lib.hid (own_below W2.out b3)
  clear b3 B2 W2
  go_wp2_with fail
  refine (drawRText_any A n c w3 (HC2.out.below B3.out)).mono ?_; rintro e w4 ⟨s, rfl, hs, b4⟩
  have B4 := Lib.hid (B3.out.trans (b4.mono B3.out.size)); have W4 := Lib.hid (own_below W3.out b4)
  clear b4 B3 W3
  have RI := Lib.hid (fun W hT hE => implRP_any s (by omega) W hT hE)
  have RS := Lib.hid (fun W => specRP_any s (by omega) W)
  rw [pr_same] at RI
  have hL0 := prV_len s
  have HR := Lib.hid (fun L (h : prV stepR s = (L, 0)) => pr_text h)
  generalize hpr : prV stepR s = pr at RI RS hL0 HR
  obtain ⟨L, rc⟩ := pr
  dsimp only at RI RS hL0
  clear hpr
  go_wp2_with fail
  refine (RI.out w4 (HTb.out.below B4.out) (HEr.out.below B4.out)).mono ?_; rintro e w5 ⟨v5, rfl, o5, b5⟩
  obtain ⟨A5, c5, rfl, _⟩ := own_shape o5
  have B5 := Lib.hid (B4.out.trans (b5.mono B4.out.size)); have W5 := Lib.hid (own_below W4.out b5); have O5 := Lib.hid o5
  clear b5 o5 B4 W4
  go_wp2_with fail
  refine (RS.out w5).mono ?_; rintro e w6 ⟨v6, rfl, o6, b6⟩
  obtain ⟨A6, c6, rfl, _⟩ := own_shape o6
  have B6 := Lib.hid (B5.out.trans (b6.mono B5.out.size)); have W6 := Lib.hid (own_below W5.out b6); have O6 := Lib.hid (own_below O5.out b6); have Q6 := Lib.hid o6
  clear b6 o6 B5 W5 O5
  go_wp2_with fail
  refine (like_same L L.length rfl A5 A6 c5 c6 w6 (Reads.of_own O6.out) (Reads.of_own Q6.out) (by omega)).mono ?_; rintro e w7 ⟨rfl, b7⟩
  have B7 := Lib.hid (B6.out.trans (b7.mono B6.out.size)); have W7 := Lib.hid (own_below W6.out b7); have O7 := Lib.hid (own_below O6.out b7)
  clear b7 B6 W6 O6 Q6
  go_wp2_with fail
  refine (CI.out w7 (Reads.of_own W7.out)).mono ?_; rintro e w8 ⟨rfl, b8⟩
  have B8 := Lib.hid (B7.out.trans (b8.mono B7.out.size)); have W8 := Lib.hid (own_below W7.out b8); have O8 := Lib.hid (own_below O7.out b8)
  clear b8 B7 W7 O7
  by_cases hrc : rc = 0
  · subst hrc
    obtain ⟨hiL, heL⟩ := HR.out L rfl
    have PL := Lib.hid (fun W hr hT => implPT_any L (by omega) A5 c5 W hr hT)
    rw [show ptV L = (s, 0) by rw [ptV, if_pos hiL, heL]] at PL
    dsimp only at PL
    clear hiL heL
    go_wp2_with fail
    refine (PL.out w8 (Reads.of_own O8.out) (HTb.out.below B8.out)).mono ?_; rintro e w9 ⟨rfl, b9⟩
    have B9 := Lib.hid (B8.out.trans (b9.mono B8.out.size)); have W9 := Lib.hid (own_below W8.out b9)
    clear b9 B8 W8 O8
    by_cases hpc : pc = 0
    · subst hpc
      have hix : isProc xs = true := HPc.out.trans rfl
      have HE := Lib.hid (show pt = textP xs from congrArg Prod.fst (HP.out hix))
      have RB := Lib.hid (fun W hT hE => implRP_any pt (by rw [HE.out]; have := HQz.out hix; omega) W hT hE)
      rw [pr_same] at RB
      rw [show prV stepR pt = (xs, 0) by rw [HE.out]; exact HQ.out hix] at RB
      dsimp only at RB
      clear hix HE
      go_wp2_with fail
      refine (RB.out w9 (HTb.out.below B9.out) (HEr.out.below B9.out)).mono ?_; rintro e wa ⟨va, rfl, oa, ba⟩
      obtain ⟨Aa, ca, rfl, _⟩ := own_shape oa
      have Ba := Lib.hid (B9.out.trans (ba.mono B9.out.size)); have Wa := Lib.hid (own_below W9.out ba); have Oa := Lib.hid oa
      clear ba oa
      go_wp2_with fail
      refine (like_same xs xs.length rfl Aa A1 ca c1 wa (Reads.of_own Oa.out) (Reads.of_own Wa.out) (by omega)).mono ?_; rintro e wb ⟨rfl, bb⟩
      have Bb := Lib.hid (Ba.out.trans (bb.mono Ba.out.size)); clear bb
      go_wp2_with fail
      go_ret
      exact ⟨rfl, Bb.out⟩
    · have hpb : (pc != 0) = true := by simpa using hpc
      clear hpc
      go_wp2_with fail
      go_ret
      exact ⟨rfl, B9.out⟩
  · have hrb : (rc == 0) = false := by simpa using hrc
    clear hrc
    by_cases hpc : pc = 0
    · subst hpc
      have hix : isProc xs = true := HPc.out.trans rfl
      have HE := Lib.hid (show pt = textP xs from congrArg Prod.fst (HP.out hix))
      have RB := Lib.hid (fun W hT hE => implRP_any pt (by rw [HE.out]; have := HQz.out hix; omega) W hT hE)
      rw [pr_same] at RB
      rw [show prV stepR pt = (xs, 0) by rw [HE.out]; exact HQ.out hix] at RB
      dsimp only at RB
      clear hix HE
      go_wp2_with fail
      refine (RB.out w8 (HTb.out.below B8.out) (HEr.out.below B8.out)).mono ?_; rintro e wa ⟨va, rfl, oa, ba⟩
      obtain ⟨Aa, ca, rfl, _⟩ := own_shape oa
      have Ba := Lib.hid (B8.out.trans (ba.mono B8.out.size)); have Wa := Lib.hid (own_below W8.out ba); have Oa := Lib.hid oa
      clear ba oa
      go_wp2_with fail
      refine (like_same xs xs.length rfl Aa A1 ca c1 wa (Reads.of_own Oa.out) (Reads.of_own Wa.out) (by omega)).mono ?_; rintro e wb ⟨rfl, bb⟩
      have Bb := Lib.hid (Ba.out.trans (bb.mono Ba.out.size)); clear bb
      go_wp2_with fail
      go_ret
      exact ⟨rfl, Bb.out⟩
    · have hpb : (pc != 0) = true := by simpa using hpc
      clear hpc
      go_wp2_with fail
      go_ret
      exact ⟨rfl, B8.out⟩
end Go.Proofs.YteeonojcihcfiaaDoor
