/- The law of FnDescriptionTexts: the texts of descriptions, written and read. -/
import Derived.Test.YtnbpbidflacoiaaDoorRows
import Derived.Test.YtnbpbidflacoiaaDoorL0
import Derived.Test.YtnbpbidflacoiaaDoorM0
import Derived.WalkKit
import Derived.ProofKit
import Derived.OpenShut
import Derived.BigQuiet
import Derived.Outline
import Derived.WalkSpells
import Derived.WalkLawsBesides
import Derived.Deep.DeepCutAuto
import Derived.Test.YtnbpbidflacoiaaDoorPV1
import Derived.Test.YtnbpbidflacoiaaDoorPU6
import Derived.Test.YtnbpbidflacoiaaDoorZ2
import Derived.Test.YtnbpbidflacoiaaDoorSC
import Derived.Test.YtnbpbidflacoiaaDoorDD2
import Derived.Test.YtnbpbidflacoiaaDoorDN9
namespace Go.Proofs.YtnbpbidflacoiaaDoor
open Go.ChangeShapes Go.WideShapes Go.ChangeAt Go.RowKit

theorem big_any (A : Option Addr) (n c : Nat) (hn : n ≤ 9223372036854775807) (w : World) :
    Calls Tryd.prog 8 #[.slice A n c] w fun e w' => e = .returned (.bool (decide ((4096 : Int) < n))) ∧ w = w' := by
  go_enter Tryd.func8, Tryd.ntmps8
  go_wp2
  go_ret
  exact ⟨rfl, rfl⟩
theorem textD_mid {d : Dsc} (h : TxOk d) : (textD d).size ≤ 10000 := by
  obtain ⟨h1, h2, h3, h4⟩ := h
  unfold textD
  split
  · rw [ByteArray.size_append]; have : (⟨#[97, 116, 32]⟩ : ByteArray).size = 3 := rfl; omega
  · split
    · rw [ByteArray.size_append]; have : (⟨#[110, 101, 97, 114, 32]⟩ : ByteArray).size = 5 := rfl; omega
    · split
      · next hk =>
        obtain ⟨c0, c1, d0, d7⟩ := h4 hk
        have a := (decN_le (i := d.count.toNat) (by omega)).2
        have b := dir_size d0 d7
        simp only [ByteArray.size_append]
        have e1 : (⟨#[32]⟩ : ByteArray).size = 1 := rfl
        have e2 : (⟨#[32, 111, 102, 32]⟩ : ByteArray).size = 4 := rfl
        omega
      · simp only [ByteArray.size_append]
        have e1 : (⟨#[98, 101, 116, 119, 101, 101, 110, 32]⟩ : ByteArray).size = 8 := rfl
        have e2 : (⟨#[32, 97, 110, 100, 32]⟩ : ByteArray).size = 5 := rfl
        omega
set_option maxRecDepth 100000 in
set_option maxHeartbeats 1000000 in
theorem drawDesc_any (A : Option Addr) (n c : Nat) (w : World) (h : Code8 w A n) :
    Calls Tryd.prog 39 #[.slice A n c] w fun e w' => ∃ d : Dsc, e = .returned d.val ∧ d.Ok ∧ Below w.heap.size w w' := by
  have HC := Lib.hid h; clear h
  have KN0 := Lib.hid (dsc_new w 25 #[.int .i64 0, .int .i64 0, .string ⟨#[]⟩, .int .i64 0, .string ⟨#[]⟩, .string ⟨#[]⟩])
  go_enter Tryd.func39, Tryd.ntmps39
  go_wp2_with fail
  generalize hW0 : w.alloc (.cells #[.int .i64 0, .int .i64 0, .string ⟨#[]⟩, .int .i64 0, .string ⟨#[]⟩, .string ⟨#[]⟩] 25) = W0
  obtain ⟨r0, bw0⟩ := KN0.out W0 hW0.symm
  clear hW0
  refine (from_code A n c W0 (HC.out.below bw0)).mono ?_
  rintro e w1 ⟨g, rfl, hs1, b1⟩
  have R1 := Lib.hid (r0.below b1 r0.lt)
  have HS1 := Lib.hid hs1
  have z1 := b1.size
  have gb := hs1.base
  have hrg := r0.lt
  have B1 := Lib.hid (bw0.trans (b1.mono bw0.size))
  have zw := bw0.size
  clear b1 hs1 r0 bw0
  go_wp2_with fail
  refine (drawD_any W0.heap.size g w1 HS1.out z1).mono ?_
  rintro e w2 ⟨d, rfl, ok, hs2, ho2⟩
  have R2 := Lib.hid (R1.out.grown ho2 (by intro e; injection e with e; omega))
  have B2 := Lib.hid (B1.out.trans ((only_below ho2 gb z1).mono zw))
  have HOk := Lib.hid ok
  clear hs2 ho2 ok R1 B1
  obtain ⟨kind, count, unit, dir, a, b⟩ := d
  unfold Dsc.val
  obtain ⟨g0, g1, g2, g3, g4, g5, g6, g7, g8, g9, g10, g11, g12, g13, g14, g15, g16, g17⟩ := six_facts R2.out
  go_wp2_with fail
  exact bodyPost_ret (v := .agg #[.int .i64 kind, .int .i64 count, .string unit, .int .i64 dir, .string a, .string b]) (by simp [results, Tryd.results39, go_sem, g12, g13, g14, g15, g16, g17]) rfl ⟨⟨kind, count, unit, dir, a, b⟩, rfl, HOk.out, six_below B2.out (Nat.le_refl _) _ _ _ _ _ _⟩
set_option maxRecDepth 100000 in
set_option maxHeartbeats 1000000 in
theorem drawRD_any (A : Option Addr) (n c : Nat) (w : World) (h : Code8 w A n) :
    Calls Tryd.prog 40 #[.slice A n c] w fun e w' => ∃ s : ByteArray, e = .returned (.string s) ∧ s.size ≤ 2200 ∧ Below w.heap.size w w' := by
  have HC := Lib.hid h; clear h
  go_enter Tryd.func40, Tryd.ntmps40
  go_wp2_with fail
  refine (from_code A n c w HC.out).mono ?_
  rintro e w1 ⟨g, rfl, hs1, b1⟩
  have HB1 := Lib.hid b1
  have HS1 := Lib.hid hs1
  have z1 := b1.size
  have gb := hs1.base
  clear b1 hs1
  go_wp2_with fail
  refine (goodT_any w.heap.size g w1 HS1.out z1).mono ?_
  rintro e w2 ⟨d, rfl, hp, hs2, ho2⟩
  have HS2 := Lib.hid hs2
  have HO2 := Lib.hid ho2
  have z2 := ho2.size
  have hts := textD_small hp
  have HT := Lib.hid (specText_any d hp.ok w2)
  clear hs2 ho2 hp
  generalize textD d = tx at hts HT
  obtain ⟨kind, count, unit, dir, a, b⟩ := d
  unfold Dsc.val at HT ⊢
  dsimp only at HT ⊢
  go_wp2_with fail
  refine HT.out.mono ?_
  rintro e w3 ⟨rfl, b3⟩
  have HS3 := Lib.hid (HS2.out.below b3)
  have HO3 := Lib.hid (only_trans HO2.out (only_of_below b3))
  have z3 := b3.size
  clear b3
  go_wp2_with fail
  refine (draw_any 3 w.heap.size g w3 HS3.out (by omega)).mono ?_
  rintro e w4 ⟨y, rfl, _, _, _, hs4, ho4⟩
  have HS4 := Lib.hid hs4
  have HO4 := Lib.hid (only_trans HO3.out ho4)
  have z4 := ho4.size
  clear hs4 ho4
  by_cases hy : y = 0
  · have hb : (y == 0) = true := by simpa using hy
    clear hy
    go_wp2_with fail
    refine (damage_any tx hts w.heap.size g w4 HS4.out (by omega)).mono ?_
    rintro e w5 ⟨s, rfl, hz, hs5, ho5⟩
    have HB5 := Lib.hid (HB1.out.trans (only_below (only_trans HO4.out ho5) gb z1))
    clear hs5 ho5
    go_wp2_with fail
    go_ret
    exact ⟨s, rfl, hz, HB5.out⟩
  · have hb : (y == 0) = false := by simpa using hy
    have hb1 : ¬ y = 0 := hy
    clear hy
    have HB5 := Lib.hid (HB1.out.trans (only_below HO4.out gb z1))
    go_wp2_with fail
    go_ret
    exact ⟨tx, rfl, by omega, HB5.out⟩
theorem dtV_code (d : Dsc) : isD d = ((dtV d).2 == 0) := by
  unfold dtV
  cases h : isD d
  · rfl
  · rfl
theorem rdP_back {d : Dsc} (h : isD d = true) : rdP (textD d) = (d, 0) := rdV_back rd_program h
theorem rdP_text {s : ByteArray} {d : Dsc} (h : rdP s = (d, 0)) : isD d = true ∧ textD d = s := rdV_text h
theorem rdP_ok (s : ByteArray) (hs : s.size ≤ 1048576) : (rdP s).1.Ok := by
  unfold rdP rdV
  split
  · exact read_ok (fun p hp => Nat.le_trans (cut_size 32 s p hp) hs)
  · exact ⟨by decide, by decide, by decide⟩
set_option maxRecDepth 100000 in
set_option maxHeartbeats 4000000 in
theorem lawDX_any (A : Option Addr) (n c : Nat) (w : World) (hn : n ≤ 9223372036854775807) (hc : n ≤ 4096 → Code8 w A n) (hd0 : Dirs w) (ht : Tab w) (he : Errs w) :
    Calls Tryd.prog 7 #[.slice A n c] w fun e w' => e = .returned (.bool true) ∧ Below w.heap.size w w' := by
  have HCn := Lib.hid hc; clear hc
  by_cases hb : (4096 : Int) < n
  · have hd : decide ((4096 : Int) < n) = true := by simpa using hb
    have HD := Lib.hid hd; clear hd hb
    go_enter Tryd.func7, Tryd.ntmps7
    go_wp2_with fail
    refine (big_any A n c hn w).mono ?_; rw [HD.out]; rintro e w' ⟨rfl, rfl⟩
    go_wp2_with fail
    go_ret
    exact ⟨rfl, Below.refl _ _⟩
  have hd : decide ((4096 : Int) < n) = false := by simpa using hb
  have HD := Lib.hid hd; clear hd
  have HC2 := Lib.hid (HCn.out (by omega)); clear hb
  have HTb := Lib.hid ht; have HEr := Lib.hid he; have HDr := Lib.hid hd0; clear ht he hd0
  go_enter Tryd.func7, Tryd.ntmps7
  go_wp2_with fail
  refine (big_any A n c hn w).mono ?_; rw [HD.out]; rintro e w' ⟨rfl, rfl⟩
  go_wp2_with fail
  refine (drawDesc_any A n c w HC2.out).mono ?_
  rintro e w0 ⟨d, rfl, ok, b0⟩
  have HP := Lib.hid (fun h => (show dtV d = (textD d, 0) from if_pos h))
  have CI := Lib.hid (fun W hD => implIsD_any d ok W hD)
  have PI := Lib.hid (fun W hT hD => implDT_any d ok W hT hD)
  have PS := Lib.hid (fun W => specDT_any d ok W)
  rw [dtV_code d] at CI
  have HPc := Lib.hid (dtV_code d)
  generalize dtV d = pv at HP CI PI PS HPc
  obtain ⟨pt, pc⟩ := pv
  obtain ⟨kind, count, unit, dir, a, b⟩ := d
  unfold Dsc.val at CI PI PS ⊢
  dsimp only at HP CI PI PS HPc ⊢
  have KD := Lib.hid (fun W => dsc_new W 25 #[.int .i64 kind, .int .i64 count, .string unit, .int .i64 dir, .string a, .string b])
  have B0 := Lib.hid b0
  clear b0 ok
  go_upto_region 4 with (fail)
  generalize hX : w0.alloc (.cells #[.int .i64 kind, .int .i64 count, .string unit, .int .i64 dir, .string a, .string b] 25) = w1
  obtain ⟨kb, bb⟩ := KD.out w0 w1 hX.symm
  clear hX
  have B1 := Lib.hid (B0.out.trans (bb.mono B0.out.size)); have K1 := Lib.hid kb
  clear bb kb B0
  obtain ⟨k0, k1, k2, k3, k4, k5⟩ := dsc_cells K1.out
  go_wp2_with fail
  refine (PI.out w1 (HTb.out.below B1.out) (HDr.out.below B1.out)).mono ?_; rintro e w2 ⟨rfl, b2⟩
  have B2 := Lib.hid (B1.out.trans (b2.mono B1.out.size)); have K2 := Lib.hid (K1.out.below b2 K1.out.lt)
  clear b2 B1 K1 k0 k1 k2 k3 k4 k5
  obtain ⟨k0, k1, k2, k3, k4, k5⟩ := dsc_cells K2.out
  go_wp2_with fail
  refine (PS.out w2).mono ?_; rintro e w3 ⟨rfl, b3⟩
  have B3 := Lib.hid (B2.out.trans (b3.mono B2.out.size)); have K3 := Lib.hid (K2.out.below b3 K2.out.lt)
  clear b3 B2 K2 k0 k1 k2 k3 k4 k5
  go_wp2_with fail
  refine (drawRD_any A n c w3 (HC2.out.below B3.out)).mono ?_; rintro e w4 ⟨s, rfl, hs, b4⟩
  have B4 := Lib.hid (B3.out.trans (b4.mono B3.out.size)); have K4 := Lib.hid (K3.out.below b4 K3.out.lt)
  clear b4 B3 K3
  have RI := Lib.hid (fun W hT hE hD => implRD_any s (by omega) W hT hE hD)
  have RS := Lib.hid (fun W => specRD_any s (by omega) W)
  rw [rd_same] at RS
  have HR := Lib.hid (fun L (h : rdP s = (L, 0)) => rdP_text h)
  have HXo := Lib.hid (rdP_ok s (by omega))
  generalize rdP s = pr at RI RS HR HXo
  obtain ⟨x, rc⟩ := pr
  dsimp only at RI RS HXo
  have HRx := Lib.hid (fun (h : rc = 0) => HR.out x (by rw [h]))
  have PX := Lib.hid (fun W hT hD => implDT_any x HXo.out W hT hD)
  have HXv := Lib.hid (fun (h : rc = 0) => (show dtV x = (s, 0) by rw [dtV, if_pos (HRx.out h).1, (HRx.out h).2]))
  clear HR HRx HXo
  generalize dtV x = px at PX HXv
  obtain ⟨xk, xc, xu, xd, xa, xb⟩ := x
  unfold Dsc.val at RI RS PX
  dsimp only at RI RS PX
  have KX := Lib.hid (fun W => dsc_new W 25 #[.int .i64 xk, .int .i64 xc, .string xu, .int .i64 xd, .string xa, .string xb])
  go_wp2_with fail
  refine (RI.out w4 (HTb.out.below B4.out) (HEr.out.below B4.out) (HDr.out.below B4.out)).mono ?_; rintro e wp ⟨rfl, bp⟩
  have Bp := Lib.hid (B4.out.trans (bp.mono B4.out.size)); have Kp := Lib.hid (K4.out.below bp K4.out.lt)
  clear bp B4 K4
  go_wp2_with fail
  generalize hX : wp.alloc (.cells #[.int .i64 xk, .int .i64 xc, .string xu, .int .i64 xd, .string xa, .string xb] 25) = w5
  obtain ⟨kx, bb⟩ := KX.out wp w5 hX.symm
  clear hX
  have B5 := Lib.hid (Bp.out.trans (bb.mono Bp.out.size)); have K5 := Lib.hid (Kp.out.below bb Kp.out.lt); have X5 := Lib.hid kx
  clear bb kx Bp Kp
  refine (RS.out w5).mono ?_; rintro e wq ⟨rfl, bq⟩
  have Bq := Lib.hid (B5.out.trans (bq.mono B5.out.size)); have Kq := Lib.hid (K5.out.below bq K5.out.lt); have Xq := Lib.hid (X5.out.below bq X5.out.lt)
  clear bq B5 K5 X5
  go_upto_region 9 with (fail)
  generalize hX : wq.alloc (.cells #[.int .i64 xk, .int .i64 xc, .string xu, .int .i64 xd, .string xa, .string xb] 25) = w6
  obtain ⟨kx, bb⟩ := KX.out wq w6 hX.symm
  clear hX
  have B6 := Lib.hid (Bq.out.trans (bb.mono Bq.out.size)); have K6 := Lib.hid (Kq.out.below bb Kq.out.lt); have X6 := Lib.hid (Xq.out.below bb Xq.out.lt); have Y6 := Lib.hid kx
  clear bb kx Bq Kq Xq
  obtain ⟨k0, k1, k2, k3, k4, k5⟩ := dsc_cells K6.out
  obtain ⟨m0, m1, m2, m3, m4, m5⟩ := dsc_cells X6.out
  obtain ⟨n0, n1, n2, n3, n4, n5⟩ := dsc_cells Y6.out
  go_wp2_with fail
  refine (CI.out w6 (HDr.out.below B6.out)).mono ?_; rintro e w8 ⟨rfl, b8⟩
  have B8 := Lib.hid (B6.out.trans (b8.mono B6.out.size)); have K8 := Lib.hid (K6.out.below b8 K6.out.lt); have X8 := Lib.hid (X6.out.below b8 X6.out.lt)
  clear b8 B6 K6 X6 Y6 k0 k1 k2 k3 k4 k5 m0 m1 m2 m3 m4 m5 n0 n1 n2 n3 n4 n5
  by_cases hrc : rc = 0
  · subst hrc
    have hpx := HXv.out rfl
    subst hpx
    dsimp only at PX
    obtain ⟨m0, m1, m2, m3, m4, m5⟩ := dsc_cells X8.out
    go_wp2_with fail
    refine (PX.out w8 (HTb.out.below B8.out) (HDr.out.below B8.out)).mono ?_; rintro e w9 ⟨rfl, b9⟩
    have B9 := Lib.hid (B8.out.trans (b9.mono B8.out.size)); have K9 := Lib.hid (K8.out.below b9 K8.out.lt)
    clear b9 B8 K8 X8 m0 m1 m2 m3 m4 m5
    by_cases hpc : pc = 0
    · subst hpc
      have hix : isD ⟨kind, count, unit, dir, a, b⟩ = true := HPc.out.trans rfl
      have HE := Lib.hid (show pt = textD ⟨kind, count, unit, dir, a, b⟩ from congrArg Prod.fst (HP.out hix))
      have RB := Lib.hid (fun W hT hE hD => implRD_any pt (by rw [HE.out]; have := textD_mid (isD_tx hix); omega) W hT hE hD)
      rw [show rdP pt = (⟨kind, count, unit, dir, a, b⟩, 0) by rw [HE.out]; exact rdP_back hix] at RB
      unfold Dsc.val at RB
      dsimp only at RB
      clear hix HE
      go_wp2_with fail
      refine (RB.out w9 (HTb.out.below B9.out) (HEr.out.below B9.out) (HDr.out.below B9.out)).mono ?_; rintro e wa ⟨rfl, ba⟩
      have Ba := Lib.hid (B9.out.trans (ba.mono B9.out.size)); have Ka := Lib.hid (K9.out.below ba K9.out.lt)
      clear ba
      go_upto_region 18 with (fail)
      generalize hX : wa.alloc (.cells #[.int .i64 kind, .int .i64 count, .string unit, .int .i64 dir, .string a, .string b] 25) = wb
      obtain ⟨kb, bb⟩ := KD.out wa wb hX.symm
      clear hX
      have Bb := Lib.hid (Ba.out.trans (bb.mono Ba.out.size))
      obtain ⟨k0, k1, k2, k3, k4, k5⟩ := dsc_cells (Ka.out.below bb Ka.out.lt)
      obtain ⟨m0, m1, m2, m3, m4, m5⟩ := dsc_cells kb
      clear bb kb
      go_wp2_with fail
      go_ret
      exact ⟨ret_bool (by simp), Bb.out⟩
    · have hpb : (pc != 0) = true := by simpa using hpc
      clear hpc
      go_wp2_with fail
      go_ret
      exact ⟨rfl, B9.out⟩
  · have hrb : (rc == 0) = false := by simpa using hrc
    clear hrc
    by_cases hpc : pc = 0
    · subst hpc
      have hix : isD ⟨kind, count, unit, dir, a, b⟩ = true := HPc.out.trans rfl
      have HE := Lib.hid (show pt = textD ⟨kind, count, unit, dir, a, b⟩ from congrArg Prod.fst (HP.out hix))
      have RB := Lib.hid (fun W hT hE hD => implRD_any pt (by rw [HE.out]; have := textD_mid (isD_tx hix); omega) W hT hE hD)
      rw [show rdP pt = (⟨kind, count, unit, dir, a, b⟩, 0) by rw [HE.out]; exact rdP_back hix] at RB
      unfold Dsc.val at RB
      dsimp only at RB
      clear hix HE
      go_wp2_with fail
      refine (RB.out w8 (HTb.out.below B8.out) (HEr.out.below B8.out) (HDr.out.below B8.out)).mono ?_; rintro e wa ⟨rfl, ba⟩
      have Ba := Lib.hid (B8.out.trans (ba.mono B8.out.size)); have Ka := Lib.hid (K8.out.below ba K8.out.lt)
      clear ba
      go_upto_region 18 with (fail)
      generalize hX : wa.alloc (.cells #[.int .i64 kind, .int .i64 count, .string unit, .int .i64 dir, .string a, .string b] 25) = wb
      obtain ⟨kb, bb⟩ := KD.out wa wb hX.symm
      clear hX
      have Bb := Lib.hid (Ba.out.trans (bb.mono Ba.out.size))
      obtain ⟨k0, k1, k2, k3, k4, k5⟩ := dsc_cells (Ka.out.below bb Ka.out.lt)
      obtain ⟨m0, m1, m2, m3, m4, m5⟩ := dsc_cells kb
      clear bb kb
      go_wp2_with fail
      go_ret
      exact ⟨ret_bool (by simp), Bb.out⟩
    · have hpb : (pc != 0) = true := by simpa using hpc
      clear hpc
      go_wp2_with fail
      go_ret
      exact ⟨rfl, B8.out⟩
end Go.Proofs.YtnbpbidflacoiaaDoor
