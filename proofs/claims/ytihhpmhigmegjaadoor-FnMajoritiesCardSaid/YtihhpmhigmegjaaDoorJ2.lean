/- SmallestMajority of the program. -/
import Derived.Test.YtihhpmhigmegjaaDoorRows
import Derived.Test.YtihhpmhigmegjaaDoorL0
import Derived.Test.YtihhpmhigmegjaaDoorM0
import Derived.WalkKit
import Derived.ProofKit
import Derived.OpenShut
import Derived.BigQuiet
import Derived.Outline
import Derived.WalkSpells
import Derived.WalkLawsBesides
import Derived.Deep.DeepCutAuto
import Derived.Test.YtihhpmhigmegjaaDoorJ1
import Derived.Test.YtihhpmhigmegjaaDoorT0
import Derived.Lib.MinMaxS
namespace Go.Proofs.YtihhpmhigmegjaaDoor
open Go.ChangeShapes Go.WideShapes Go.ChangeAt Go.RowKit Go.Sort

def nmAt (xs : List Bal) (k : Nat) : ByteArray := match xs[k]? with | some b => b.name | none => ByteArray.empty
theorem nmAt_eq {xs : List Bal} {k : Nat} (h : k < xs.length) : nmAt xs k = xs[k].name := by simp [nmAt, h]
theorem new_str1 (w : World) (t : TypeId) (a : Value) : Reads (w.alloc (.cells #[a] t)) (w.heap.size + 1) 1 (some ⟨w.heap.size, 0, none⟩) 1 [a] := by
  refine ⟨rfl, fun _ => ⟨_, 0, rfl, by omega, fun j u hu => ?_⟩⟩
  have := (Blk.new w t #[a]).cell j
  rw [Nat.zero_add, this]
  simpa using hu
theorem infoTx : (Tryd.prog.info? 9).map (fun i => (i.zero, i.size, i.bytes)) = some (some (.string ByteArray.empty), 1, 16) := by kernel_rfl
def majL (xs : List Bal) (rule : Int) : List Nat := if vcodeB xs rule = 0 then bestI xs.length (goodB xs rule) (2 ^ xs.length) else []
def majN (xs : List Bal) (rule : Int) : List ByteArray := (majL xs rule).map (nmAt xs)
def majC (xs : List Bal) (rule : Int) : Int := if vcodeB xs rule = 0 then (if majL xs rule = [] then 4 else 0) else vcodeB xs rule
theorem best_inc {n : Nat} {good : List Nat → Bool} : ∀ m, Inc n 0 (bestI n good m)
  | 0 => trivial
  | m + 1 => by
    rw [bestI]
    split
    · exact bits_inc n m
    · exact best_inc m
theorem best_yes {n m : Nat} {good : List Nat → Bool} (h : (bestI n good m == [] || ltI (bitsI n m) (bestI n good m)) = true) (hg : good (bitsI n m) = true) : bestI n good (m + 1) = bitsI n m := by
  rw [bestI, h, hg]; rfl
theorem best_no {n m : Nat} {good : List Nat → Bool} (h : (bestI n good m == [] || ltI (bitsI n m) (bestI n good m)) = false) : bestI n good (m + 1) = bestI n good m := by
  rw [bestI, h]; rfl
theorem best_no2 {n m : Nat} {good : List Nat → Bool} (h : good (bitsI n m) = false) : bestI n good (m + 1) = bestI n good m := by
  rw [bestI, h, Bool.and_false]; rfl
theorem tx_snoc' (xs : List ByteArray) (a : ByteArray) : txC (xs ++ [a]) = txC xs ++ [.string a] := by simp [txC]
theorem new_two (w : World) (t : TypeId) (a b : Int) : Reads (w.alloc (.cells #[.int .i64 a, .int .i64 b] t)) (w.alloc (.cells #[.int .i64 a, .int .i64 b] t)).heap.size 1 (some ⟨w.heap.size, 0, none⟩) 2 (inC [a, b]) :=
  ⟨rfl, fun _ => ⟨w.heap.size, 0, rfl, by simp, fun j u hu => by
    rw [Nat.zero_add, (Blk.new w t #[.int .i64 a, .int .i64 b]).cell]; simpa [inC] using hu⟩⟩

set_option maxRecDepth 100000 in
set_option maxHeartbeats 2000000 in
theorem implMaj_any (xs : List Bal) (rule : Int) (A : Option Addr) (c : Nat) (hA : A = none → c = 0) (w : World) (h : HasBal w xs A) :
    Calls Tryd.prog 24 #[.slice A xs.length c, .int .i64 rule] w fun e w' => ∃ v, e = .returned (.tuple #[v, .int .i64 (majC xs rule)]) ∧ w'.ownsRow w.heap.size 9 1 v (majN xs rule).length (txC (majN xs rule)) ∧ Below w.heap.size w w' := by
  have H := Lib.hid h; clear h
  obtain ⟨i0, hi0, hz0, hz1, hz2⟩ := info_parts infoTx
  by_cases hc : vcodeB xs rule = 0
  · have HT := Lib.hid (show majL xs rule = bestI xs.length (goodB xs rule) (2 ^ xs.length) by rw [majL, if_pos hc])
    have HMC := Lib.hid (show majC xs rule = if majL xs rule = [] then 4 else 0 by rw [majC, if_pos hc])
    have HF := Lib.hid (fits_of (vcode_zero hc).1).1
    have HG0 := Lib.hid (good_nil (rule := rule) (fun b hb => by have := HF.out.2 b hb; omega) : goodB xs rule [] = false)
    have hm := HF.out.1
    have HC := Lib.hid hc; clear hc
    obtain ⟨N, hN⟩ : ∃ N, 2 ^ xs.length = N := ⟨_, rfl⟩
    have hN1 : N ≤ 1024 := by rw [← hN]; exact (Nat.pow_le_pow_right (by omega) hm : 2 ^ xs.length ≤ 2 ^ 10)
    have hNi : (2 : Int) ^ xs.length = (N : Int) := by rw [← hN]; simp
    have hNw : IntKind.i64.wrap (N : Int) = (N : Int) := IntWalk.i64_in _ (by omega)
    have hnil := fun (W : World) (a : Option Addr) (l k : Nat) => Lib.run_eql_slice_nil (P := Tryd.prog) W 68 2 a l k 0 0 Tryd.underlying68
    rw [hN] at HT
    have HN := Lib.hid hN; clear hN
    go_enter Tryd.func24, Tryd.ntmps24
    go_wp2_with fail
    refine (implCode_any xs _ _ _ _ H.out).mono ?_; rw [HC.out]; rintro e w1 ⟨rfl, b1⟩
    have B1 := Lib.hid b1; clear b1
    go_wp2_with fail
    go_loopw [7, 23] (fun v7 v23 wr => ∃ (k m : Nat) (B : Option Addr) (d : Nat), k ≤ N ∧ m ≤ 10 ∧ Hid ((bestI xs.length (goodB xs rule) k).length = m) ∧ v7 = .slice B m d ∧ Hid (m = 0 → B = none ∧ d = 0) ∧ Hid (wr.ownsRow w.heap.size 2 1 (.slice B m d) m (inC (ints (bestI xs.length (goodB xs rule) k)))) ∧ Hid (Below w.heap.size w wr) ∧ v23 = .int .i64 k) (fun _ i _ => N - (intOf i).toNat)
    case atStart => exact ⟨0, 0, none, 0, by omega, by omega, rfl, rfl, fun _ => ⟨rfl, rfl⟩, World.ownsRow_nil _ _ _ _, B1.out, rfl⟩
    case round =>
      obtain ⟨k, m, B, d, hk, hm10, HLn, rfl, HNil, HO, BW, rfl⟩ := hrel
      by_cases hlt : k < N
      · have HSub := Lib.hid (subset_any xs.length k (by rw [HN.out]; exact hlt) (by omega) wr)
        have hbl := bits_len xs.length k
        have HBI := Lib.hid (bits_inc xs.length k)
        go_wp2_with fail
        refine HSub.out.mono ?_; rintro e w2 ⟨v, rfl, own2, b2⟩
        obtain ⟨A2, c2, rfl, _⟩ := own_shape own2
        have O2 := Lib.hid own2
        have HO2 := Lib.hid (own_below HO.out b2)
        have B2 := Lib.hid (BW.out.trans (b2.mono BW.out.size))
        clear own2 b2
        by_cases hm0 : m = 0
        · obtain ⟨rfl, rfl⟩ := HNil.out hm0
          subst hm0
          have HBn := Lib.hid (List.eq_nil_of_length_eq_zero HLn.out)
          have HBy := Lib.hid (show (bestI xs.length (goodB xs rule) k == [] || ltI (bitsI xs.length k) (bestI xs.length (goodB xs rule) k)) = true by rw [HBn.out]; rfl)
          cases hg : goodB xs rule (bitsI xs.length k)
          all_goals
            have HG := Lib.hid hg; clear hg
            go_wp2_with fail
            refine (cast_any xs (bitsI xs.length k) hm (by omega) A A2 c c2 hA w2 (H.out.1.below B2.out |>.more B2.out.size) (Reads.of_own O2.out)).mono ?_; rintro e w3 ⟨v3, rfl, own3, b3⟩
            obtain ⟨A3, c3, rfl, _⟩ := own_shape own3
            have O3 := Lib.hid own3
            have O23 := Lib.hid (own_below O2.out b3)
            have HO3 := Lib.hid (own_below HO2.out b3)
            have B3 := Lib.hid (B2.out.trans (b3.mono B2.out.size))
            clear own3 b3
            go_wp2_with fail
            have CC := implCar_any (castB xs (bitsI xs.length k)) rule (fits_cast HF.out _) A3 c3 w3
            rw [castB_len] at CC
            rw [show carB (castB xs (bitsI xs.length k)) rule = _ from HG.out] at CC
            refine (CC (Reads.of_own O3.out)).mono ?_; clear CC; rintro e w4 ⟨rfl, b4⟩
            have O24 := Lib.hid (own_below O23.out b4)
            have HO4 := Lib.hid (own_below HO3.out b4)
            have HZ := Lib.hid (show goodB xs rule (bitsI xs.length k) = true → ((bitsI xs.length k).length = 0 → A2 = none ∧ c2 = 0) from fun h1 h0 => by
              rw [List.eq_nil_of_length_eq_zero h0, HG0.out] at h1; cases h1)
            have B4 := Lib.hid (B3.out.trans (b4.mono B3.out.size))
            clear b4
            go_wp2_with fail
            go_roundw
          case rel => exact ⟨k + 1, 0, none, 0, by omega, by omega, by rw [best_no2 HG.out]; exact HLn.out, rfl, fun _ => ⟨rfl, rfl⟩, by rw [best_no2 HG.out]; exact HO4.out, B4.out, by go_num⟩
          case measure => simp [intOf]; omega
          case rel => exact ⟨k + 1, _, A2, c2, by omega, by omega, by rw [best_yes HBy.out HG.out]; rfl, rfl, HZ.out HG.out, by rw [best_yes HBy.out HG.out]; exact own_mono O24.out BW.out.size, B4.out, by go_num⟩
          case measure => simp [intOf]; omega
        · obtain ⟨g, cap', hv, hbg, hgl⟩ := HO2.out.form (by omega)
          simp only [Value.slice.injEq, true_and] at hv
          obtain ⟨rfl, rfl⟩ := hv
          have HBne := Lib.hid (show (bestI xs.length (goodB xs rule) k == []) = false by
            cases hb : bestI xs.length (goodB xs rule) k with
            | nil => have := HLn.out; rw [hb] at this; exact absurd this.symm hm0
            | cons _ _ => rfl)
          obtain ⟨a1, ha1⟩ : ∃ a, cmpI ((bitsI xs.length k).length : Int) (m : Int) = a := ⟨_, rfl⟩
          obtain ⟨a2, ha2⟩ : ∃ a, cmpL (ints (bitsI xs.length k)) (ints (bestI xs.length (goodB xs rule) k)) = a := ⟨_, rfl⟩
          obtain ⟨r, hr⟩ : ∃ r, orI [a1, a2] = r := ⟨_, rfl⟩
          have HL := Lib.hid (show decide (r < 0) = ltI (bitsI xs.length k) (bestI xs.length (goodB xs rule) k) by rw [← hr, ← ha1, ← ha2, ← HLn.out]; exact or_lt _ _)
          have C1 := Lib.hid (compare_any ((bitsI xs.length k).length : Int) (m : Int) w2)
          rw [ha1] at C1
          have C2 := compareL_any (ints (bitsI xs.length k)) (ints (bestI xs.length (goodB xs rule) k)) (by rw [ints_len]; omega) (by rw [ints_len, HLn.out]; omega) A2 (some ⟨g, 0, none⟩) c2 d w2
          rw [ints_len, ints_len, HLn.out, ha2] at C2
          replace C2 := Lib.hid (C2 (Reads.of_own O2.out) (Reads.of_own HO2.out))
          have C3 := or_any [a1, a2] (by simp) (some ⟨w2.heap.size, 0, none⟩) 2 (w2.alloc (.cells #[.int .i64 a1, .int .i64 a2] 3)) (new_two _ _ _ _)
          rw [hr] at C3
          replace C3 := Lib.hid C3
          clear ha1 ha2 hr
          by_cases hneg : r < 0
          · have HBy := Lib.hid (show (bestI xs.length (goodB xs rule) k == [] || ltI (bitsI xs.length k) (bestI xs.length (goodB xs rule) k)) = true by rw [HBne.out, ← HL.out, decide_eq_true hneg]; rfl)
            cases hg : goodB xs rule (bitsI xs.length k)
            all_goals
              have HG := Lib.hid hg; clear hg
              go_wp2_with fail
              refine C1.out.mono ?_; rintro e w' ⟨rfl, rfl⟩
              go_wp2_with fail
              refine C2.out.mono ?_; rintro e w' ⟨rfl, rfl⟩
              go_wp2_with fail
              refine C3.out.mono ?_; rintro e w' ⟨rfl, rfl⟩
              go_wp2_with fail
              have BA := (Below.refl w2.heap.size w2).alloc (Nat.le_refl _) (.cells #[Value.int .i64 a1, .int .i64 a2] 3)
              generalize w2.alloc (.cells #[Value.int .i64 a1, .int .i64 a2] 3) = w2' at BA ⊢
              have B2' := Lib.hid (B2.out.trans (BA.mono B2.out.size))
              have O2' := Lib.hid (own_below O2.out BA)
              have HO2' := Lib.hid (own_below HO2.out BA)
              clear BA
              refine (cast_any xs (bitsI xs.length k) hm (by omega) A A2 c c2 hA w2' (H.out.1.below B2'.out |>.more B2'.out.size) (Reads.of_own O2'.out)).mono ?_; rintro e w3 ⟨v3, rfl, own3, b3⟩
              obtain ⟨A3, c3, rfl, _⟩ := own_shape own3
              have O3 := Lib.hid own3
              have O23 := Lib.hid (own_below O2'.out b3)
              have HO3 := Lib.hid (own_below HO2'.out b3)
              have B3 := Lib.hid (B2'.out.trans (b3.mono B2'.out.size))
              clear own3 b3
              go_wp2_with fail
              have CC := implCar_any (castB xs (bitsI xs.length k)) rule (fits_cast HF.out _) A3 c3 w3
              rw [castB_len] at CC
              rw [show carB (castB xs (bitsI xs.length k)) rule = _ from HG.out] at CC
              refine (CC (Reads.of_own O3.out)).mono ?_; clear CC; rintro e w4 ⟨rfl, b4⟩
              have O24 := Lib.hid (own_below O23.out b4)
              have HO4 := Lib.hid (own_below HO3.out b4)
              have HZ := Lib.hid (show goodB xs rule (bitsI xs.length k) = true → ((bitsI xs.length k).length = 0 → A2 = none ∧ c2 = 0) from fun h1 h0 => by
                rw [List.eq_nil_of_length_eq_zero h0, HG0.out] at h1; cases h1)
              have B4 := Lib.hid (B3.out.trans (b4.mono B3.out.size))
              clear b4
              go_wp2_with fail
              go_roundw
            case rel => exact ⟨k + 1, m, some ⟨g, 0, none⟩, d, by omega, by omega, by rw [best_no2 HG.out]; exact HLn.out, rfl, HNil.out, by rw [best_no2 HG.out]; exact HO4.out, B4.out, by go_num⟩
            case measure => simp [intOf]; omega
            case rel => exact ⟨k + 1, _, A2, c2, by omega, by omega, by rw [best_yes HBy.out HG.out]; rfl, rfl, HZ.out HG.out, by rw [best_yes HBy.out HG.out]; exact own_mono O24.out BW.out.size, B4.out, by go_num⟩
            case measure => simp [intOf]; omega
          · have HBn := Lib.hid (show (bestI xs.length (goodB xs rule) k == [] || ltI (bitsI xs.length k) (bestI xs.length (goodB xs rule) k)) = false by rw [HBne.out, ← HL.out, decide_eq_false hneg]; rfl)
            go_wp2_with fail
            refine C1.out.mono ?_; rintro e w' ⟨rfl, rfl⟩
            go_wp2_with fail
            refine C2.out.mono ?_; rintro e w' ⟨rfl, rfl⟩
            go_wp2_with fail
            refine C3.out.mono ?_; rintro e w' ⟨rfl, rfl⟩
            go_wp2_with fail
            go_roundw
            case rel => exact ⟨k + 1, m, some ⟨g, 0, none⟩, d, by omega, by omega, by rw [best_no HBn.out]; exact HLn.out, rfl, HNil.out, by rw [best_no HBn.out]; exact HO2.out.alloc _, B2.out.alloc B2.out.size _, by go_num⟩
            case measure => simp [intOf]; omega
      · obtain rfl : k = N := by omega
        by_cases hm0 : m = 0
        · obtain ⟨rfl, rfl⟩ := HNil.out hm0
          subst hm0
          have HBn := Lib.hid (HT.out.trans (List.eq_nil_of_length_eq_zero HLn.out))
          have HCd := Lib.hid (show majC xs rule = 4 by rw [HMC.out, if_pos HBn.out])
          have HNm := Lib.hid (show majN xs rule = [] by rw [majN, HBn.out]; rfl)
          go_wp2_with fail
          go_ret2
          exact ⟨_, by rw [HCd.out]; rfl, by rw [HNm.out]; exact World.ownsRow_nil _ _ _ _, BW.out⟩
        · have HCd := Lib.hid (show majC xs rule = 0 by rw [HMC.out, if_neg (fun h => hm0 (by rw [← HLn.out, ← HT.out, h]; rfl))])
          have HInc := Lib.hid (best_inc (n := xs.length) (good := goodB xs rule) k).mem
          have HLm := Lib.hid (show (majL xs rule).length = m by rw [HT.out]; exact HLn.out)
          rw [← HT.out] at HO HInc
          have R := Lib.hid (Reads.of_own HO.out)
          have hne : ((m : Int) == 0) = false := by simp; omega
          go_wp2_with fail
          obtain ⟨wq, hwq⟩ : ∃ x, x = wr := ⟨_, rfl⟩
          subst hwq
          have hwz := BW.out.size
          go_loopw [11, 58] (fun v11 v58 wr' => ∃ (j : Nat) (E : Option Addr) (f : Nat), j ≤ m ∧ v11 = .slice E j f ∧ Hid (wr'.ownsRow wq.heap.size 9 1 (.slice E j f) j (txC (((majL xs rule).take j).map (nmAt xs)))) ∧ Hid (Below wq.heap.size wq wr') ∧ v58 = .int .i64 j) (fun _ i _ => m - (intOf i).toNat)
          case atStart => exact ⟨0, none, 0, by omega, rfl, World.ownsRow_nil _ _ _ _, Below.refl _ _, rfl⟩
          case round =>
            obtain ⟨j, E, f, hj, rfl, HE, BE, rfl⟩ := hrel
            by_cases hlj : j < m
            · obtain ⟨ab, ao, rfl, hadb, hcell⟩ := (R.out.below BE.out).2 (by omega)
              have hjl : j < (majL xs rule).length := by rw [HLm.out]; exact hlj
              have c0 := hcell _ _ (inC_get (ints (majL xs rule)) j (by rw [ints_len]; exact hjl))
              rw [show (ints (majL xs rule))[j]'(by rw [ints_len]; exact hjl) = (((majL xs rule)[j] : Nat) : Int) by simp [ints]] at c0
              have hil := HInc.out (majL xs rule)[j] (List.getElem_mem hjl)
              have HTk := Lib.hid (show ((majL xs rule).take (j + 1)).map (nmAt xs) = ((majL xs rule).take j).map (nmAt xs) ++ [nmAt xs (majL xs rule)[j]] by rw [List.take_succ_eq_append_getElem hjl, List.map_append]; rfl)
              generalize (majL xs rule)[j] = i at c0 hil HTk
              have HBE := Lib.hid (BW.out.trans (BE.out.mono BW.out.size))
              obtain ⟨ab', ao', rfl, hadb', hcell'⟩ := (H.out.1.below HBE.out).2 (by omega)
              have d0 := hcell' _ _ (baC_get xs i hil.2).1
              have hil2 := hil.2
              rw [← nmAt_eq hil.2] at d0
              clear hcell hcell' hil
              generalize nmAt xs i = nm at d0 HTk
              go_wp2_with (at_builtin; refine wpList_append_any _ rfl (.tmp 62) (.tmp 68) _ rfl wq.heap.size 9 i0 _ 1 16 Tryd.underlying43 hi0 hz0 hz1 hz2 rfl (by omega) (.slice E j f) j (txC (((majL xs rule).take j).map (nmAt xs))) rfl (HE.out.alloc _) _ (some ⟨wr.heap.size, 0, none⟩) 1 1 [.string nm] rfl (new_str1 _ _ _) (by simp [Value.oneCell']) (by simp only [maxLen]; omega) (by omega) (by have := BE.out.size; simp; omega) ?_; intro v4 w4 hown4 hg4 hat4; obtain ⟨B4, d4, rfl, _⟩ := own_shape hown4)
              go_roundw
              case rel => exact ⟨j + 1, B4, d4, by omega, rfl, by rw [HTk.out, tx_snoc']; exact hown4, below_own (BE.out.alloc BE.out.size _) (HE.out.alloc _) hg4 (Nat.le_refl _) (by have := BE.out.size; simp; omega), by go_num⟩
              case measure => simp [intOf]; omega
            · obtain rfl : j = m := by omega
              have HTk := Lib.hid (show majN xs rule = ((majL xs rule).take j).map (nmAt xs) by rw [majN, List.take_of_length_le (by rw [HLm.out]; omega)])
              have HLN := Lib.hid (show (majN xs rule).length = j by rw [majN, List.length_map]; exact HLm.out)
              go_wp2_with fail
              go_ret2
              exact ⟨_, by rw [HCd.out]; rfl, by rw [HLN.out, HTk.out]; exact own_mono HE.out hwz, BW.out.trans (BE.out.mono BW.out.size)⟩
  · have HT := Lib.hid (show majN xs rule = [] by rw [majN, majL, if_neg hc]; rfl)
    have HMC := Lib.hid (show majC xs rule = vcodeB xs rule by rw [majC, if_neg hc])
    have hne : (vcodeB xs rule != 0) = true := by rw [bne_iff_ne]; exact hc
    clear hc
    go_enter Tryd.func24, Tryd.ntmps24
    go_wp2_with fail
    refine (implCode_any xs _ _ _ _ H.out).mono ?_; rintro e w1 ⟨rfl, b1⟩
    go_wp2_with fail
    go_ret2
    exact ⟨_, by rw [HMC.out]; rfl, by rw [HT.out]; exact World.ownsRow_nil _ _ _ _, b1⟩
end Go.Proofs.YtihhpmhigmegjaaDoor
