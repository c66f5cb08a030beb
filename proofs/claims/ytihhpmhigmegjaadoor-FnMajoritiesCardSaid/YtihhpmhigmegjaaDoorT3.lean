/- PivotalMembers, of the reference and of the program (printed by gen_piv.py). -/
import Derived.Test.YtihhpmhigmegjaaDoorRows
import Derived.Test.YtihhpmhigmegjaaDoorL0
import Derived.Test.YtihhpmhigmegjaaDoorM0
import Derived.WalkKit
import Derived.ProofKit
import Derived.OpenShut
import Derived.BigQuiet
import Derived.Outline
import Derived.WalkSpells
import Derived.WalkLawsBesides
import Derived.Deep.DeepCutAuto
import Derived.Test.YtihhpmhigmegjaaDoorT2
namespace Go.Proofs.YtihhpmhigmegjaaDoor
open Go.ChangeShapes Go.WideShapes Go.ChangeAt Go.RowKit

theorem new_tx1 (w : World) (t : TypeId) (a : Value) : Reads (w.alloc (.cells #[a] t)) (w.heap.size + 1) 1 (some ⟨w.heap.size, 0, none⟩) 1 [a] := by
  refine ⟨rfl, fun _ => ⟨_, 0, rfl, by omega, fun j u hu => ?_⟩⟩
  have := (Blk.new w t #[a]).cell j
  rw [Nat.zero_add, this]
  simpa using hu
theorem infoStr : (Tryd.prog.info? 9).map (fun i => (i.zero, i.size, i.bytes)) = some (some (.string ByteArray.empty), 1, 16) := by kernel_rfl
def nameAt (xs : List Bal) (k : Nat) : ByteArray := match xs[k]? with | some b => b.name | none => ByteArray.empty
theorem nameAt_eq {xs : List Bal} {k : Nat} (h : k < xs.length) : nameAt xs k = xs[k].name := by simp [nameAt, h]
/-- The names among the first k ballots that can change the outcome. -/
def pivL (xs : List Bal) (rule : Int) : Nat → List ByteArray
  | 0 => []
  | k + 1 => if pivB xs rule k = true then pivL xs rule k ++ [nameAt xs k] else pivL xs rule k
theorem pivL_len (xs : List Bal) (rule : Int) (k : Nat) : (pivL xs rule k).length ≤ k := by
  induction k with
  | zero => simp [pivL]
  | succ k ih => unfold pivL; split <;> (try simp) <;> omega
theorem pivL_yes {xs : List Bal} {rule : Int} {k : Nat} (h : pivB xs rule k = true) : pivL xs rule (k + 1) = pivL xs rule k ++ [nameAt xs k] := by rw [pivL, if_pos h]
theorem pivL_no {xs : List Bal} {rule : Int} {k : Nat} (h : pivB xs rule k = false) : pivL xs rule (k + 1) = pivL xs rule k := by rw [pivL, if_neg (by rw [h]; decide)]
theorem txC_snoc (L : List ByteArray) (s : ByteArray) : txC (L ++ [s]) = txC L ++ [.string s] := by simp [txC]
def pivR (xs : List Bal) (rule : Int) : List ByteArray := if vcodeB xs rule = 0 then pivL xs rule xs.length else []

set_option maxRecDepth 100000 in
set_option maxHeartbeats 2000000 in
theorem specPiv_any (xs : List Bal) (rule : Int) (A : Option Addr) (c : Nat) (w : World) (h : HasBal w xs A) :
    Calls Tryd.prog 23 #[.slice A xs.length c, .int .i64 rule] w fun e w' => ∃ v, e = .returned (.tuple #[v, .int .i64 (vcodeB xs rule)]) ∧ w'.ownsRow w.heap.size 9 1 v (pivR xs rule).length (txC (pivR xs rule)) ∧ Below w.heap.size w w' := by
  have H := Lib.hid h; clear h
  obtain ⟨i0, hi0, hz0, hz1, hz2⟩ := info_parts infoStr
  by_cases hc : vcodeB xs rule = 0
  · have HT := Lib.hid (show pivR xs rule = pivL xs rule xs.length by rw [pivR, if_pos hc])
    have HF := Lib.hid (fits_of (vcode_zero hc).1).1
    have hm := HF.out.1
    have HC := Lib.hid hc; clear hc
    cases hcar : carB xs rule
    · have HQ := Lib.hid hcar; clear hcar
      go_enter Tryd.func23, Tryd.ntmps23
      go_wp2_with fail
      refine (specCode_any xs _ _ _ _ H.out).mono ?_; rw [HC.out]; rintro e w1 ⟨rfl, b1⟩
      have H1 := Lib.hid (H.out.below b1)
      go_wp2_with fail
      refine (specCar_any xs _ HF.out _ _ _ H1.out.1).mono ?_; rw [HQ.out]; rintro e w' ⟨rfl, rfl⟩
      go_wp2_with fail
      go_loopw [8, 9] (fun v8 v9 wr => ∃ (k n : Nat) (B : Option Addr) (d : Nat), k ≤ xs.length ∧ n ≤ k ∧ Hid ((pivL xs rule k).length = n) ∧ v8 = .slice B n d ∧ Hid (wr.ownsRow w.heap.size 9 1 (.slice B n d) n (txC (pivL xs rule k))) ∧ Hid (Below w.heap.size w wr) ∧ v9 = .int .i64 k) (fun _ i _ => xs.length - (intOf i).toNat)
      case atStart => exact ⟨0, 0, _, _, by omega, by omega, rfl, rfl, World.ownsRow_made (e := 9) (size := 1) w1 #[] 0 b1.size (by decide) rfl, b1.alloc b1.size _, rfl⟩
      case round =>
        obtain ⟨k, n, B, d, hk, hnk, HN, rfl, HO, BW, rfl⟩ := hrel
        by_cases hlt : k < xs.length
        · have HR := Lib.hid ((H.out.1.below BW.out).more BW.out.size)
          cases q0 : carB (withB xs k (1)) rule
          · have Q0 := Lib.hid q0; clear q0
            cases q1 : carB (withB xs k (-1)) rule
            · have Q1 := Lib.hid q1; clear q1
              cases q2 : carB (withB xs k (0)) rule
              · have Q2 := Lib.hid q2; clear q2
                go_wp2_with fail
                refine (with_bal xs HF.out k hlt (1) A c wr HR.out).mono ?_; rintro e wa0 ⟨A0, c0, rfl, own0, b0⟩
                have B0 := Lib.hid (BW.out.trans (b0.mono BW.out.size)); have O0 := Lib.hid (own_below HO.out b0); have R0 := Lib.hid ((HR.out.below b0).more b0.size)
                have P0 := Reads.of_own own0
                have D0 := specCar_any (withB xs k (1)) rule (fits_with HF.out k (1)) A0 c0 wa0
                rw [withB_len, Q0.out] at D0
                go_wp2_with fail
                refine (D0 P0).mono ?_; rintro e w' ⟨rfl, rfl⟩
                clear own0 b0 P0 D0
                go_wp2_with fail
                refine (with_bal xs HF.out k hlt (-1) A c wa0 R0.out).mono ?_; rintro e wa1 ⟨A1, c1, rfl, own1, b1⟩
                have B1 := Lib.hid (B0.out.trans (b1.mono B0.out.size)); have O1 := Lib.hid (own_below O0.out b1); have R1 := Lib.hid ((R0.out.below b1).more b1.size)
                have P1 := Reads.of_own own1
                have D1 := specCar_any (withB xs k (-1)) rule (fits_with HF.out k (-1)) A1 c1 wa1
                rw [withB_len, Q1.out] at D1
                go_wp2_with fail
                refine (D1 P1).mono ?_; rintro e w' ⟨rfl, rfl⟩
                clear own1 b1 P1 D1
                go_wp2_with fail
                refine (with_bal xs HF.out k hlt (0) A c wa1 R1.out).mono ?_; rintro e wa2 ⟨A2, c2, rfl, own2, b2⟩
                have B2 := Lib.hid (B1.out.trans (b2.mono B1.out.size)); have O2 := Lib.hid (own_below O1.out b2); have R2 := Lib.hid ((R1.out.below b2).more b2.size)
                have P2 := Reads.of_own own2
                have D2 := specCar_any (withB xs k (0)) rule (fits_with HF.out k (0)) A2 c2 wa2
                rw [withB_len, Q2.out] at D2
                go_wp2_with fail
                refine (D2 P2).mono ?_; rintro e w' ⟨rfl, rfl⟩
                clear own2 b2 P2 D2
                have HP := Lib.hid (show pivB xs rule k = false from by unfold pivB; rw [HQ.out, Q0.out, Q1.out, Q2.out]; rfl)
                go_wp2_with fail
                go_roundw
                case rel => exact ⟨k + 1, n, B, d, by omega, by omega, by rw [pivL_no HP.out]; exact HN.out, rfl, by rw [pivL_no HP.out]; exact O2.out, B2.out, by go_num⟩
                case measure => simp [intOf]; omega
              · have Q2 := Lib.hid q2; clear q2
                go_wp2_with fail
                refine (with_bal xs HF.out k hlt (1) A c wr HR.out).mono ?_; rintro e wa0 ⟨A0, c0, rfl, own0, b0⟩
                have B0 := Lib.hid (BW.out.trans (b0.mono BW.out.size)); have O0 := Lib.hid (own_below HO.out b0); have R0 := Lib.hid ((HR.out.below b0).more b0.size)
                have P0 := Reads.of_own own0
                have D0 := specCar_any (withB xs k (1)) rule (fits_with HF.out k (1)) A0 c0 wa0
                rw [withB_len, Q0.out] at D0
                go_wp2_with fail
                refine (D0 P0).mono ?_; rintro e w' ⟨rfl, rfl⟩
                clear own0 b0 P0 D0
                go_wp2_with fail
                refine (with_bal xs HF.out k hlt (-1) A c wa0 R0.out).mono ?_; rintro e wa1 ⟨A1, c1, rfl, own1, b1⟩
                have B1 := Lib.hid (B0.out.trans (b1.mono B0.out.size)); have O1 := Lib.hid (own_below O0.out b1); have R1 := Lib.hid ((R0.out.below b1).more b1.size)
                have P1 := Reads.of_own own1
                have D1 := specCar_any (withB xs k (-1)) rule (fits_with HF.out k (-1)) A1 c1 wa1
                rw [withB_len, Q1.out] at D1
                go_wp2_with fail
                refine (D1 P1).mono ?_; rintro e w' ⟨rfl, rfl⟩
                clear own1 b1 P1 D1
                go_wp2_with fail
                refine (with_bal xs HF.out k hlt (0) A c wa1 R1.out).mono ?_; rintro e wa2 ⟨A2, c2, rfl, own2, b2⟩
                have B2 := Lib.hid (B1.out.trans (b2.mono B1.out.size)); have O2 := Lib.hid (own_below O1.out b2); have R2 := Lib.hid ((R1.out.below b2).more b2.size)
                have P2 := Reads.of_own own2
                have D2 := specCar_any (withB xs k (0)) rule (fits_with HF.out k (0)) A2 c2 wa2
                rw [withB_len, Q2.out] at D2
                go_wp2_with fail
                refine (D2 P2).mono ?_; rintro e w' ⟨rfl, rfl⟩
                clear own2 b2 P2 D2
                have HP := Lib.hid (show pivB xs rule k = true from by unfold pivB; rw [HQ.out, Q0.out, Q1.out, Q2.out]; rfl)
                obtain ⟨ab, ao, hA, hadb, hcell⟩ := R2.out.2 (by omega)
                have e0 := hcell _ _ (baC_get xs k hlt).1
                have HNm := Lib.hid (nameAt_eq hlt)
                generalize xs[k].name = nm at e0 HNm
                subst hA
                clear hcell
                go_wp2_with (at_builtin; refine wpList_append_any _ rfl (.tmp 51) (.tmp 57) _ rfl w.heap.size 9 i0 _ 1 16 Tryd.underlying43 hi0 hz0 hz1 hz2 rfl (by omega) (.slice B n d) n (txC (pivL xs rule k)) rfl (O2.out.alloc _) _ (some ⟨wa2.heap.size, 0, none⟩) 1 1 [.string nm] rfl (new_tx1 _ _ _) (by simp [Value.oneCell']) (by simp only [maxLen]; omega) (by omega) (by have := B2.out.size; simp; omega) ?_; intro v4 w4 hown4 hg4 hat4; obtain ⟨B4, d4, rfl, _⟩ := own_shape hown4)
                go_roundw
                case rel => exact ⟨k + 1, n + 1, B4, d4, by omega, by omega, by have := HN.out; rw [pivL_yes HP.out]; simp [Hid, this], rfl, by rw [pivL_yes HP.out, HNm.out, txC_snoc]; exact hown4, below_own (B2.out.alloc B2.out.size _) (O2.out.alloc _) hg4 (Nat.le_refl _) (by have := B2.out.size; simp; omega), by go_num⟩
                case measure => simp [intOf]; omega
            · have Q1 := Lib.hid q1; clear q1
              go_wp2_with fail
              refine (with_bal xs HF.out k hlt (1) A c wr HR.out).mono ?_; rintro e wa0 ⟨A0, c0, rfl, own0, b0⟩
              have B0 := Lib.hid (BW.out.trans (b0.mono BW.out.size)); have O0 := Lib.hid (own_below HO.out b0); have R0 := Lib.hid ((HR.out.below b0).more b0.size)
              have P0 := Reads.of_own own0
              have D0 := specCar_any (withB xs k (1)) rule (fits_with HF.out k (1)) A0 c0 wa0
              rw [withB_len, Q0.out] at D0
              go_wp2_with fail
              refine (D0 P0).mono ?_; rintro e w' ⟨rfl, rfl⟩
              clear own0 b0 P0 D0
              go_wp2_with fail
              refine (with_bal xs HF.out k hlt (-1) A c wa0 R0.out).mono ?_; rintro e wa1 ⟨A1, c1, rfl, own1, b1⟩
              have B1 := Lib.hid (B0.out.trans (b1.mono B0.out.size)); have O1 := Lib.hid (own_below O0.out b1); have R1 := Lib.hid ((R0.out.below b1).more b1.size)
              have P1 := Reads.of_own own1
              have D1 := specCar_any (withB xs k (-1)) rule (fits_with HF.out k (-1)) A1 c1 wa1
              rw [withB_len, Q1.out] at D1
              go_wp2_with fail
              refine (D1 P1).mono ?_; rintro e w' ⟨rfl, rfl⟩
              clear own1 b1 P1 D1
              have HP := Lib.hid (show pivB xs rule k = true from by unfold pivB; rw [HQ.out, Q0.out, Q1.out]; simp)
              obtain ⟨ab, ao, hA, hadb, hcell⟩ := R1.out.2 (by omega)
              have e0 := hcell _ _ (baC_get xs k hlt).1
              have HNm := Lib.hid (nameAt_eq hlt)
              generalize xs[k].name = nm at e0 HNm
              subst hA
              clear hcell
              go_wp2_with (at_builtin; refine wpList_append_any _ rfl (.tmp 51) (.tmp 57) _ rfl w.heap.size 9 i0 _ 1 16 Tryd.underlying43 hi0 hz0 hz1 hz2 rfl (by omega) (.slice B n d) n (txC (pivL xs rule k)) rfl (O1.out.alloc _) _ (some ⟨wa1.heap.size, 0, none⟩) 1 1 [.string nm] rfl (new_tx1 _ _ _) (by simp [Value.oneCell']) (by simp only [maxLen]; omega) (by omega) (by have := B1.out.size; simp; omega) ?_; intro v4 w4 hown4 hg4 hat4; obtain ⟨B4, d4, rfl, _⟩ := own_shape hown4)
              go_roundw
              case rel => exact ⟨k + 1, n + 1, B4, d4, by omega, by omega, by have := HN.out; rw [pivL_yes HP.out]; simp [Hid, this], rfl, by rw [pivL_yes HP.out, HNm.out, txC_snoc]; exact hown4, below_own (B1.out.alloc B1.out.size _) (O1.out.alloc _) hg4 (Nat.le_refl _) (by have := B1.out.size; simp; omega), by go_num⟩
              case measure => simp [intOf]; omega
          · have Q0 := Lib.hid q0; clear q0
            go_wp2_with fail
            refine (with_bal xs HF.out k hlt (1) A c wr HR.out).mono ?_; rintro e wa0 ⟨A0, c0, rfl, own0, b0⟩
            have B0 := Lib.hid (BW.out.trans (b0.mono BW.out.size)); have O0 := Lib.hid (own_below HO.out b0); have R0 := Lib.hid ((HR.out.below b0).more b0.size)
            have P0 := Reads.of_own own0
            have D0 := specCar_any (withB xs k (1)) rule (fits_with HF.out k (1)) A0 c0 wa0
            rw [withB_len, Q0.out] at D0
            go_wp2_with fail
            refine (D0 P0).mono ?_; rintro e w' ⟨rfl, rfl⟩
            clear own0 b0 P0 D0
            have HP := Lib.hid (show pivB xs rule k = true from by unfold pivB; rw [HQ.out, Q0.out]; simp)
            obtain ⟨ab, ao, hA, hadb, hcell⟩ := R0.out.2 (by omega)
            have e0 := hcell _ _ (baC_get xs k hlt).1
            have HNm := Lib.hid (nameAt_eq hlt)
            generalize xs[k].name = nm at e0 HNm
            subst hA
            clear hcell
            go_wp2_with (at_builtin; refine wpList_append_any _ rfl (.tmp 51) (.tmp 57) _ rfl w.heap.size 9 i0 _ 1 16 Tryd.underlying43 hi0 hz0 hz1 hz2 rfl (by omega) (.slice B n d) n (txC (pivL xs rule k)) rfl (O0.out.alloc _) _ (some ⟨wa0.heap.size, 0, none⟩) 1 1 [.string nm] rfl (new_tx1 _ _ _) (by simp [Value.oneCell']) (by simp only [maxLen]; omega) (by omega) (by have := B0.out.size; simp; omega) ?_; intro v4 w4 hown4 hg4 hat4; obtain ⟨B4, d4, rfl, _⟩ := own_shape hown4)
            go_roundw
            case rel => exact ⟨k + 1, n + 1, B4, d4, by omega, by omega, by have := HN.out; rw [pivL_yes HP.out]; simp [Hid, this], rfl, by rw [pivL_yes HP.out, HNm.out, txC_snoc]; exact hown4, below_own (B0.out.alloc B0.out.size _) (O0.out.alloc _) hg4 (Nat.le_refl _) (by have := B0.out.size; simp; omega), by go_num⟩
            case measure => simp [intOf]; omega
        · obtain rfl : k = xs.length := by omega
          have HN' := HN.out
          go_wp2_with fail
          go_ret2
          exact ⟨_, by rw [HC.out]; rfl, by rw [HT.out, HN']; exact HO.out, BW.out⟩
    · have HQ := Lib.hid hcar; clear hcar
      go_enter Tryd.func23, Tryd.ntmps23
      go_wp2_with fail
      refine (specCode_any xs _ _ _ _ H.out).mono ?_; rw [HC.out]; rintro e w1 ⟨rfl, b1⟩
      have H1 := Lib.hid (H.out.below b1)
      go_wp2_with fail
      refine (specCar_any xs _ HF.out _ _ _ H1.out.1).mono ?_; rw [HQ.out]; rintro e w' ⟨rfl, rfl⟩
      go_wp2_with fail
      go_loopw [8, 9] (fun v8 v9 wr => ∃ (k n : Nat) (B : Option Addr) (d : Nat), k ≤ xs.length ∧ n ≤ k ∧ Hid ((pivL xs rule k).length = n) ∧ v8 = .slice B n d ∧ Hid (wr.ownsRow w.heap.size 9 1 (.slice B n d) n (txC (pivL xs rule k))) ∧ Hid (Below w.heap.size w wr) ∧ v9 = .int .i64 k) (fun _ i _ => xs.length - (intOf i).toNat)
      case atStart => exact ⟨0, 0, _, _, by omega, by omega, rfl, rfl, World.ownsRow_made (e := 9) (size := 1) w1 #[] 0 b1.size (by decide) rfl, b1.alloc b1.size _, rfl⟩
      case round =>
        obtain ⟨k, n, B, d, hk, hnk, HN, rfl, HO, BW, rfl⟩ := hrel
        by_cases hlt : k < xs.length
        · have HR := Lib.hid ((H.out.1.below BW.out).more BW.out.size)
          cases q0 : carB (withB xs k (1)) rule
          · have Q0 := Lib.hid q0; clear q0
            go_wp2_with fail
            refine (with_bal xs HF.out k hlt (1) A c wr HR.out).mono ?_; rintro e wa0 ⟨A0, c0, rfl, own0, b0⟩
            have B0 := Lib.hid (BW.out.trans (b0.mono BW.out.size)); have O0 := Lib.hid (own_below HO.out b0); have R0 := Lib.hid ((HR.out.below b0).more b0.size)
            have P0 := Reads.of_own own0
            have D0 := specCar_any (withB xs k (1)) rule (fits_with HF.out k (1)) A0 c0 wa0
            rw [withB_len, Q0.out] at D0
            go_wp2_with fail
            refine (D0 P0).mono ?_; rintro e w' ⟨rfl, rfl⟩
            clear own0 b0 P0 D0
            have HP := Lib.hid (show pivB xs rule k = true from by unfold pivB; rw [HQ.out, Q0.out]; simp)
            obtain ⟨ab, ao, hA, hadb, hcell⟩ := R0.out.2 (by omega)
            have e0 := hcell _ _ (baC_get xs k hlt).1
            have HNm := Lib.hid (nameAt_eq hlt)
            generalize xs[k].name = nm at e0 HNm
            subst hA
            clear hcell
            go_wp2_with (at_builtin; refine wpList_append_any _ rfl (.tmp 51) (.tmp 57) _ rfl w.heap.size 9 i0 _ 1 16 Tryd.underlying43 hi0 hz0 hz1 hz2 rfl (by omega) (.slice B n d) n (txC (pivL xs rule k)) rfl (O0.out.alloc _) _ (some ⟨wa0.heap.size, 0, none⟩) 1 1 [.string nm] rfl (new_tx1 _ _ _) (by simp [Value.oneCell']) (by simp only [maxLen]; omega) (by omega) (by have := B0.out.size; simp; omega) ?_; intro v4 w4 hown4 hg4 hat4; obtain ⟨B4, d4, rfl, _⟩ := own_shape hown4)
            go_roundw
            case rel => exact ⟨k + 1, n + 1, B4, d4, by omega, by omega, by have := HN.out; rw [pivL_yes HP.out]; simp [Hid, this], rfl, by rw [pivL_yes HP.out, HNm.out, txC_snoc]; exact hown4, below_own (B0.out.alloc B0.out.size _) (O0.out.alloc _) hg4 (Nat.le_refl _) (by have := B0.out.size; simp; omega), by go_num⟩
            case measure => simp [intOf]; omega
          · have Q0 := Lib.hid q0; clear q0
            cases q1 : carB (withB xs k (-1)) rule
            · have Q1 := Lib.hid q1; clear q1
              go_wp2_with fail
              refine (with_bal xs HF.out k hlt (1) A c wr HR.out).mono ?_; rintro e wa0 ⟨A0, c0, rfl, own0, b0⟩
              have B0 := Lib.hid (BW.out.trans (b0.mono BW.out.size)); have O0 := Lib.hid (own_below HO.out b0); have R0 := Lib.hid ((HR.out.below b0).more b0.size)
              have P0 := Reads.of_own own0
              have D0 := specCar_any (withB xs k (1)) rule (fits_with HF.out k (1)) A0 c0 wa0
              rw [withB_len, Q0.out] at D0
              go_wp2_with fail
              refine (D0 P0).mono ?_; rintro e w' ⟨rfl, rfl⟩
              clear own0 b0 P0 D0
              go_wp2_with fail
              refine (with_bal xs HF.out k hlt (-1) A c wa0 R0.out).mono ?_; rintro e wa1 ⟨A1, c1, rfl, own1, b1⟩
              have B1 := Lib.hid (B0.out.trans (b1.mono B0.out.size)); have O1 := Lib.hid (own_below O0.out b1); have R1 := Lib.hid ((R0.out.below b1).more b1.size)
              have P1 := Reads.of_own own1
              have D1 := specCar_any (withB xs k (-1)) rule (fits_with HF.out k (-1)) A1 c1 wa1
              rw [withB_len, Q1.out] at D1
              go_wp2_with fail
              refine (D1 P1).mono ?_; rintro e w' ⟨rfl, rfl⟩
              clear own1 b1 P1 D1
              have HP := Lib.hid (show pivB xs rule k = true from by unfold pivB; rw [HQ.out, Q0.out, Q1.out]; simp)
              obtain ⟨ab, ao, hA, hadb, hcell⟩ := R1.out.2 (by omega)
              have e0 := hcell _ _ (baC_get xs k hlt).1
              have HNm := Lib.hid (nameAt_eq hlt)
              generalize xs[k].name = nm at e0 HNm
              subst hA
              clear hcell
              go_wp2_with (at_builtin; refine wpList_append_any _ rfl (.tmp 51) (.tmp 57) _ rfl w.heap.size 9 i0 _ 1 16 Tryd.underlying43 hi0 hz0 hz1 hz2 rfl (by omega) (.slice B n d) n (txC (pivL xs rule k)) rfl (O1.out.alloc _) _ (some ⟨wa1.heap.size, 0, none⟩) 1 1 [.string nm] rfl (new_tx1 _ _ _) (by simp [Value.oneCell']) (by simp only [maxLen]; omega) (by omega) (by have := B1.out.size; simp; omega) ?_; intro v4 w4 hown4 hg4 hat4; obtain ⟨B4, d4, rfl, _⟩ := own_shape hown4)
              go_roundw
              case rel => exact ⟨k + 1, n + 1, B4, d4, by omega, by omega, by have := HN.out; rw [pivL_yes HP.out]; simp [Hid, this], rfl, by rw [pivL_yes HP.out, HNm.out, txC_snoc]; exact hown4, below_own (B1.out.alloc B1.out.size _) (O1.out.alloc _) hg4 (Nat.le_refl _) (by have := B1.out.size; simp; omega), by go_num⟩
              case measure => simp [intOf]; omega
            · have Q1 := Lib.hid q1; clear q1
              cases q2 : carB (withB xs k (0)) rule
              · have Q2 := Lib.hid q2; clear q2
                go_wp2_with fail
                refine (with_bal xs HF.out k hlt (1) A c wr HR.out).mono ?_; rintro e wa0 ⟨A0, c0, rfl, own0, b0⟩
                have B0 := Lib.hid (BW.out.trans (b0.mono BW.out.size)); have O0 := Lib.hid (own_below HO.out b0); have R0 := Lib.hid ((HR.out.below b0).more b0.size)
                have P0 := Reads.of_own own0
                have D0 := specCar_any (withB xs k (1)) rule (fits_with HF.out k (1)) A0 c0 wa0
                rw [withB_len, Q0.out] at D0
                go_wp2_with fail
                refine (D0 P0).mono ?_; rintro e w' ⟨rfl, rfl⟩
                clear own0 b0 P0 D0
                go_wp2_with fail
                refine (with_bal xs HF.out k hlt (-1) A c wa0 R0.out).mono ?_; rintro e wa1 ⟨A1, c1, rfl, own1, b1⟩
                have B1 := Lib.hid (B0.out.trans (b1.mono B0.out.size)); have O1 := Lib.hid (own_below O0.out b1); have R1 := Lib.hid ((R0.out.below b1).more b1.size)
                have P1 := Reads.of_own own1
                have D1 := specCar_any (withB xs k (-1)) rule (fits_with HF.out k (-1)) A1 c1 wa1
                rw [withB_len, Q1.out] at D1
                go_wp2_with fail
                refine (D1 P1).mono ?_; rintro e w' ⟨rfl, rfl⟩
                clear own1 b1 P1 D1
                go_wp2_with fail
                refine (with_bal xs HF.out k hlt (0) A c wa1 R1.out).mono ?_; rintro e wa2 ⟨A2, c2, rfl, own2, b2⟩
                have B2 := Lib.hid (B1.out.trans (b2.mono B1.out.size)); have O2 := Lib.hid (own_below O1.out b2); have R2 := Lib.hid ((R1.out.below b2).more b2.size)
                have P2 := Reads.of_own own2
                have D2 := specCar_any (withB xs k (0)) rule (fits_with HF.out k (0)) A2 c2 wa2
                rw [withB_len, Q2.out] at D2
                go_wp2_with fail
                refine (D2 P2).mono ?_; rintro e w' ⟨rfl, rfl⟩
                clear own2 b2 P2 D2
                have HP := Lib.hid (show pivB xs rule k = true from by unfold pivB; rw [HQ.out, Q0.out, Q1.out, Q2.out]; rfl)
                obtain ⟨ab, ao, hA, hadb, hcell⟩ := R2.out.2 (by omega)
                have e0 := hcell _ _ (baC_get xs k hlt).1
                have HNm := Lib.hid (nameAt_eq hlt)
                generalize xs[k].name = nm at e0 HNm
                subst hA
                clear hcell
                go_wp2_with (at_builtin; refine wpList_append_any _ rfl (.tmp 51) (.tmp 57) _ rfl w.heap.size 9 i0 _ 1 16 Tryd.underlying43 hi0 hz0 hz1 hz2 rfl (by omega) (.slice B n d) n (txC (pivL xs rule k)) rfl (O2.out.alloc _) _ (some ⟨wa2.heap.size, 0, none⟩) 1 1 [.string nm] rfl (new_tx1 _ _ _) (by simp [Value.oneCell']) (by simp only [maxLen]; omega) (by omega) (by have := B2.out.size; simp; omega) ?_; intro v4 w4 hown4 hg4 hat4; obtain ⟨B4, d4, rfl, _⟩ := own_shape hown4)
                go_roundw
                case rel => exact ⟨k + 1, n + 1, B4, d4, by omega, by omega, by have := HN.out; rw [pivL_yes HP.out]; simp [Hid, this], rfl, by rw [pivL_yes HP.out, HNm.out, txC_snoc]; exact hown4, below_own (B2.out.alloc B2.out.size _) (O2.out.alloc _) hg4 (Nat.le_refl _) (by have := B2.out.size; simp; omega), by go_num⟩
                case measure => simp [intOf]; omega
              · have Q2 := Lib.hid q2; clear q2
                go_wp2_with fail
                refine (with_bal xs HF.out k hlt (1) A c wr HR.out).mono ?_; rintro e wa0 ⟨A0, c0, rfl, own0, b0⟩
                have B0 := Lib.hid (BW.out.trans (b0.mono BW.out.size)); have O0 := Lib.hid (own_below HO.out b0); have R0 := Lib.hid ((HR.out.below b0).more b0.size)
                have P0 := Reads.of_own own0
                have D0 := specCar_any (withB xs k (1)) rule (fits_with HF.out k (1)) A0 c0 wa0
                rw [withB_len, Q0.out] at D0
                go_wp2_with fail
                refine (D0 P0).mono ?_; rintro e w' ⟨rfl, rfl⟩
                clear own0 b0 P0 D0
                go_wp2_with fail
                refine (with_bal xs HF.out k hlt (-1) A c wa0 R0.out).mono ?_; rintro e wa1 ⟨A1, c1, rfl, own1, b1⟩
                have B1 := Lib.hid (B0.out.trans (b1.mono B0.out.size)); have O1 := Lib.hid (own_below O0.out b1); have R1 := Lib.hid ((R0.out.below b1).more b1.size)
                have P1 := Reads.of_own own1
                have D1 := specCar_any (withB xs k (-1)) rule (fits_with HF.out k (-1)) A1 c1 wa1
                rw [withB_len, Q1.out] at D1
                go_wp2_with fail
                refine (D1 P1).mono ?_; rintro e w' ⟨rfl, rfl⟩
                clear own1 b1 P1 D1
                go_wp2_with fail
                refine (with_bal xs HF.out k hlt (0) A c wa1 R1.out).mono ?_; rintro e wa2 ⟨A2, c2, rfl, own2, b2⟩
                have B2 := Lib.hid (B1.out.trans (b2.mono B1.out.size)); have O2 := Lib.hid (own_below O1.out b2); have R2 := Lib.hid ((R1.out.below b2).more b2.size)
                have P2 := Reads.of_own own2
                have D2 := specCar_any (withB xs k (0)) rule (fits_with HF.out k (0)) A2 c2 wa2
                rw [withB_len, Q2.out] at D2
                go_wp2_with fail
                refine (D2 P2).mono ?_; rintro e w' ⟨rfl, rfl⟩
                clear own2 b2 P2 D2
                have HP := Lib.hid (show pivB xs rule k = false from by unfold pivB; rw [HQ.out, Q0.out, Q1.out, Q2.out]; rfl)
                go_wp2_with fail
                go_roundw
                case rel => exact ⟨k + 1, n, B, d, by omega, by omega, by rw [pivL_no HP.out]; exact HN.out, rfl, by rw [pivL_no HP.out]; exact O2.out, B2.out, by go_num⟩
                case measure => simp [intOf]; omega
        · obtain rfl : k = xs.length := by omega
          have HN' := HN.out
          go_wp2_with fail
          go_ret2
          exact ⟨_, by rw [HC.out]; rfl, by rw [HT.out, HN']; exact HO.out, BW.out⟩
  · have HT := Lib.hid (show pivR xs rule = [] by rw [pivR, if_neg hc])
    have hne : (vcodeB xs rule != 0) = true := by rw [bne_iff_ne]; exact hc
    clear hc
    go_enter Tryd.func23, Tryd.ntmps23
    go_wp2_with fail
    refine (specCode_any xs _ _ _ _ H.out).mono ?_; rintro e w1 ⟨rfl, b1⟩
    go_wp2_with fail
    go_ret2
    exact ⟨_, rfl, by rw [HT.out]; exact World.ownsRow_nil _ _ _ _, b1⟩
end Go.Proofs.YtihhpmhigmegjaaDoor
