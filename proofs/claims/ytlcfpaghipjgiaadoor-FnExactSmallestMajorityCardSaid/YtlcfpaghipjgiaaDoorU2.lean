/- LeastChanges of the reference. -/
import Derived.Test.YtlcfpaghipjgiaaDoorRows
import Derived.Test.YtlcfpaghipjgiaaDoorL0
import Derived.Test.YtlcfpaghipjgiaaDoorM0
import Derived.WalkKit
import Derived.ProofKit
import Derived.OpenShut
import Derived.BigQuiet
import Derived.Outline
import Derived.WalkSpells
import Derived.WalkLawsBesides
import Derived.Deep.DeepCutAuto
import Derived.Test.YtlcfpaghipjgiaaDoorU1
namespace Go.Proofs.YtlcfpaghipjgiaaDoor
open Go.ChangeShapes Go.WideShapes Go.ChangeAt Go.RowKit

theorem wt_of {xs : List Bal} (h : areB xs = true) : (∀ b ∈ xs, 0 ≤ b.weight) ∧ ∀ b ∈ xs, -1 ≤ b.choice ∧ b.choice ≤ 1 := by
  have := (fits_of h).2
  refine ⟨fun b hb => ?_, fun b hb => ?_⟩
  · have := this b hb; simp [balB, inB] at this; omega
  · have := this b hb; simp [balB, inB] at this; omega
def leastV (xs : List Bal) (rule : Int) : Int × Int := if vcodeB xs rule = 0 then leastT xs rule else (0, vcodeB xs rule)
theorem find_range {p : Nat → Bool} {n k : Nat} (hk : k < n) (h : ∀ j, j < k → p j = false) (hp : p k = true) : (List.range n).find? p = some k := by
  rw [List.find?_range_eq_some]
  exact ⟨hp, by simp; omega, fun j hj => by rw [h j hj]; rfl⟩
set_option maxRecDepth 100000 in
set_option maxHeartbeats 2000000 in
theorem specLeast_any (xs : List Bal) (rule : Int) (A : Option Addr) (c : Nat) (w : World) (h : HasBal w xs A) :
    Calls Tryd.prog 24 #[.slice A xs.length c, .int .i64 rule] w fun e w' => e = .returned (.tuple #[.int .i64 (leastV xs rule).1, .int .i64 (leastV xs rule).2]) ∧ Below w.heap.size w w' := by
  have H := Lib.hid h; clear h
  by_cases hc : vcodeB xs rule = 0
  · have HT := Lib.hid (show leastV xs rule = leastT xs rule by rw [leastV, if_pos hc])
    have HF := Lib.hid (fits_of (vcode_zero hc).1).1
    have hm := HF.out.1
    have HC := Lib.hid hc; clear hc
    cases hcar : carB xs rule
    all_goals
      have HQ := Lib.hid hcar; clear hcar
      go_enter Tryd.func24, Tryd.ntmps24
      go_wp2_with fail
      refine (specCode_any xs _ _ _ _ H.out).mono ?_; rw [HC.out]; rintro e w1 ⟨rfl, b1⟩
      have H1 := Lib.hid (H.out.below b1)
      go_wp2_with fail
      refine (specCar_any xs _ HF.out _ _ _ H1.out.1).mono ?_; rw [HQ.out]; rintro e w' ⟨rfl, rfl⟩
      go_wp2_with fail
      go_loopw [8] (fun v8 wr => ∃ k : Nat, k ≤ xs.length ∧ Hid (∀ j, j < k → turnS rule (!carB xs rule) (j + 1) [] xs = false) ∧ Hid (Below w.heap.size w wr) ∧ v8 = .int .i64 ((k : Int) + 1)) (fun i _ => xs.length + 1 - (intOf i).toNat)
      case atStart => exact ⟨0, by omega, fun j hj => by omega, b1, rfl⟩
      case round =>
        obtain ⟨k, hk, HK, BW, rfl⟩ := hrel
        by_cases hlt : k < xs.length
        · have R := Lib.hid ((H.out.1.below BW.out).more BW.out.size)
          have hk1 : IntKind.i64.wrap ((k : Int) + 1 + 1) = (k : Int) + 1 + 1 := IntWalk.i64_in _ (by omega)
          cases ht : turnS rule (!carB xs rule) (k + 1) [] xs
          all_goals
            have HX := Lib.hid ht; clear ht
            have DI := fun tgt (h : tgt = !carB xs rule) N (hN : N = ((k + 1 : Nat) : Int)) => (show Calls Tryd.prog 58 #[.slice A xs.length c, .int .i64 rule, .int .i64 0, .int .i64 N, .bool tgt] wr fun e w' => e = .returned (.bool (turnS rule (!carB xs rule) (k + 1) [] xs)) ∧ Below wr.heap.size wr w' from by subst h; exact turns_any rule _ (k + 1) N hN (by omega) xs HF.out 0 0 rfl (by omega) A c wr R.out)
            rw [HX.out] at DI
            have DI2 := Lib.hid DI; clear DI
            go_wp2_with fail
            have D3 := DI2.out _ rfl
            rw [HQ.out] at D3
            simp only [Bool.not_false, Bool.not_true] at D3
            with_reducible refine (D3 _ (by omega)).mono ?_
            clear D3
            rintro e w2 ⟨rfl, b3⟩
            have B3 := Lib.hid (BW.out.trans (b3.mono BW.out.size)); clear b3
            go_wp2_with fail
          · go_roundw
            case rel => exact ⟨k + 1, by omega, fun j hj => by
                by_cases hjk : j = k
                · subst hjk; exact HX.out
                · exact HK.out j (by omega), B3.out, by go_num⟩
            case measure => simp [intOf]; omega
          · have HL := Lib.hid (show leastV xs rule = ((k : Int) + 1, 0) by rw [HT.out, leastT, find_range hlt HK.out HX.out])
            go_ret2
            exact ⟨by rw [HL.out]; first | done | rfl, B3.out⟩
        · obtain rfl : k = xs.length := by omega
          have HL := Lib.hid (show leastV xs rule = (0, 4) by rw [HT.out, leastT, List.find?_eq_none.2 (fun m hm => by rw [HK.out m (by simpa using hm)]; decide)])
          go_wp2_with fail
          go_ret2
          exact ⟨by rw [HL.out]; first | done | rfl, BW.out⟩
  · have HT := Lib.hid (show leastV xs rule = (0, vcodeB xs rule) by rw [leastV, if_neg hc])
    have hne : (vcodeB xs rule != 0) = true := by rw [bne_iff_ne]; exact hc
    clear hc
    go_enter Tryd.func24, Tryd.ntmps24
    go_wp2_with fail
    refine (specCode_any xs _ _ _ _ H.out).mono ?_; rintro e w1 ⟨rfl, b1⟩
    go_wp2_with fail
    go_ret2
    exact ⟨by rw [HT.out]; first | done | rfl, b1⟩
end Go.Proofs.YtlcfpaghipjgiaaDoor
