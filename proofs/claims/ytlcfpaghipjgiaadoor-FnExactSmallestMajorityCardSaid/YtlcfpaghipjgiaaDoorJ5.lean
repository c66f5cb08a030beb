/- SmallestMajority of the reference; the law. -/
import Derived.Test.YtlcfpaghipjgiaaDoorRows
import Derived.Test.YtlcfpaghipjgiaaDoorL0
import Derived.Test.YtlcfpaghipjgiaaDoorM0
import Derived.WalkKit
import Derived.ProofKit
import Derived.OpenShut
import Derived.BigQuiet
import Derived.Outline
import Derived.WalkSpells
import Derived.WalkLawsBesides
import Derived.Deep.DeepCutAuto
import Derived.Test.YtlcfpaghipjgiaaDoorJ4
import Derived.Test.YtlcfpaghipjgiaaDoorT5
import Derived.Test.YtlcfpaghipjgiaaDoorU2
namespace Go.Proofs.YtlcfpaghipjgiaaDoor
open Go.ChangeShapes Go.WideShapes Go.ChangeAt Go.RowKit Go.Sort

theorem maj_few {xs : List Bal} {rule : Int} (hc : vcodeB xs rule = 0) : fewest xs.length (goodB xs rule) = if majL xs rule = [] then none else some (majL xs rule) := by
  have := best_fewest (n := xs.length) (good := goodB xs rule) (good_nil (fun b hb => (wt_of (vcode_zero hc).1).1 b hb))
  rw [majL, if_pos hc]
  exact this
set_option maxRecDepth 100000 in
set_option maxHeartbeats 2000000 in
theorem specMaj_any (xs : List Bal) (rule : Int) (A : Option Addr) (c : Nat) (w : World) (h : HasBal w xs A) :
    Calls Tryd.prog 37 #[.slice A xs.length c, .int .i64 rule] w fun e w' => ∃ v, e = .returned (.tuple #[v, .int .i64 (majC xs rule)]) ∧ w'.ownsRow w.heap.size 9 1 v (majN xs rule).length (txC (majN xs rule)) ∧ Below w.heap.size w w' := by
  have H := Lib.hid h; clear h
  by_cases hc : vcodeB xs rule = 0
  · have HMC := Lib.hid (show majC xs rule = if majL xs rule = [] then 4 else 0 by rw [majC, if_pos hc])
    have HA := Lib.hid (vcode_zero hc).1
    have HF := Lib.hid (fits_of HA.out).1
    have hm := HF.out.1
    have HFw := Lib.hid (maj_few hc)
    have HC := Lib.hid hc; clear hc
    go_enter Tryd.func37, Tryd.ntmps37
    go_wp2_with fail
    refine (specCode_any xs _ _ _ _ H.out).mono ?_; rw [HC.out]; rintro e w1 ⟨rfl, b1⟩
    have B1 := Lib.hid b1; clear b1
    go_wp2_with fail
    go_loopw [7] (fun v7 wr => ∃ k : Nat, k ≤ xs.length ∧ Hid (∀ j, 1 ≤ j → j < k + 1 → fewI xs.length (goodB xs rule) j [] 0 = none) ∧ Hid (Below w.heap.size w wr) ∧ v7 = .int .i64 ((k : Int) + 1)) (fun i _ => xs.length + 1 - (intOf i).toNat)
    case atStart => exact ⟨0, by omega, fun j a b => by omega, B1.out, rfl⟩
    case round =>
      obtain ⟨k, hk, HK, BW, rfl⟩ := hrel
      by_cases hlt : k < xs.length
      · have hk1 : IntKind.i64.wrap ((k : Int) + 1 + 1) = (k : Int) + 1 + 1 := IntWalk.i64_in _ (by omega)
        have hwz := BW.out.size
        have HFA := Lib.hid (few_any HA.out rule HF.out A c (k + 1) ((k : Int) + 1) (by push_cast; rfl) [] 0 0 rfl (by omega) (fun i hi => by simp at hi) (by simp; omega) w.heap.size (some ⟨wr.heap.size, 0, none⟩) 0 (wr.alloc (.cells #[] 9)) (((H.out.1.below BW.out).more hwz).alloc (Nat.le_refl _) _ |>.more (by simp)) (own_mono (own_made0 wr _) hwz) (by simp; omega))
        go_wp2_with fail
        refine HFA.out.mono ?_; rintro e w2 ⟨v, rfl, hsp, b2⟩
        have B2 := Lib.hid ((BW.out.alloc hwz (.cells #[] 9)).trans (b2.mono (by simp; omega)))
        have HSp := Lib.hid hsp
        clear hsp b2
        cases hq : fewI xs.length (goodB xs rule) (k + 1) [] 0
        · have HNo := Lib.hid hq; clear hq
          go_wp2_with fail
          go_roundw
          case rel => exact ⟨k + 1, by omega, fun j a b => by
              by_cases hjk : j = k + 1
              · subst hjk; exact HNo.out
              · exact HK.out j a (by omega), B2.out, by go_num⟩
          case measure => simp [intOf]; omega
        · rename_i out
          have HV := Lib.hid (HSp.out out hq)
          have hs : fewest xs.length (goodB xs rule) = some out := seek_at (by omega) (by omega) HK.out hq
          have HL := Lib.hid (show majL xs rule = out ∧ ¬ majL xs rule = [] by
            have := HFw.out
            rw [hs] at this
            split at this
            · cases this
            · rename_i h; exact ⟨(Option.some.inj this).symm, h⟩)
          have HCd := Lib.hid (show majC xs rule = 0 by rw [HMC.out, if_neg HL.out.2])
          have HNm := Lib.hid (show majN xs rule = out.map (nmAt xs) by rw [majN, HL.out.1])
          have HLn := Lib.hid (show (majN xs rule).length = out.length by rw [HNm.out, List.length_map])
          clear hq hs
          go_wp2_with fail
          go_ret2
          exact ⟨_, by rw [HCd.out]; rfl, by rw [HLn.out, HNm.out]; exact HV.out, B2.out⟩
      · obtain rfl : k = xs.length := by omega
        have HE := Lib.hid (show majL xs rule = [] by
          have := HFw.out
          rw [show fewest xs.length (goodB xs rule) = none from seek_end (fun j a b => HK.out j a (by omega))] at this
          split at this
          · rename_i h; exact h
          · cases this)
        have HCd := Lib.hid (show majC xs rule = 4 by rw [HMC.out, if_pos HE.out])
        have HNm := Lib.hid (show majN xs rule = [] by rw [majN, HE.out]; rfl)
        go_wp2_with fail
        go_ret2
        exact ⟨_, by rw [HCd.out]; rfl, by rw [HNm.out]; exact World.ownsRow_nil _ _ _ _, BW.out⟩
  · have HT := Lib.hid (show majN xs rule = [] by rw [majN, majL, if_neg hc]; rfl)
    have HMC := Lib.hid (show majC xs rule = vcodeB xs rule by rw [majC, if_neg hc])
    have hne : (vcodeB xs rule != 0) = true := by rw [bne_iff_ne]; exact hc
    clear hc
    go_enter Tryd.func37, Tryd.ntmps37
    go_wp2_with fail
    refine (specCode_any xs _ _ _ _ H.out).mono ?_; rintro e w1 ⟨rfl, b1⟩
    go_wp2_with fail
    go_ret2
    exact ⟨_, by rw [HMC.out]; rfl, by rw [HT.out]; exact World.ownsRow_nil _ _ _ _, b1⟩
theorem majN_len {w : World} {xs : List Bal} {A : Option Addr} {rule : Int} (h : HasBal w xs A) : (majN xs rule).length ≤ 1048576 := by
  rw [majN, List.length_map, majL]
  split
  · rename_i hc
    have := (fits_of (vcode_zero hc).1).1.1
    have := (best_inc (n := xs.length) (good := goodB xs rule) (2 ^ xs.length)).len (by omega)
    omega
  · simp
end Go.Proofs.YtlcfpaghipjgiaaDoor
