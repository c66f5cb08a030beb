/- PivotalMembers of the program; marks of ballots. -/
import Derived.Test.YtihhpmhigmegjaaDoorRows
import Derived.Test.YtihhpmhigmegjaaDoorL0
import Derived.Test.YtihhpmhigmegjaaDoorM0
import Derived.WalkKit
import Derived.ProofKit
import Derived.OpenShut
import Derived.BigQuiet
import Derived.Outline
import Derived.WalkSpells
import Derived.WalkLawsBesides
import Derived.Deep.DeepCutAuto
import Derived.Test.YtihhpmhigmegjaaDoorT3
namespace Go.Proofs.YtihhpmhigmegjaaDoor
open Go.ChangeShapes Go.WideShapes Go.ChangeAt Go.RowKit

set_option maxRecDepth 100000 in
set_option maxHeartbeats 2000000 in
theorem implPiv_any (xs : List Bal) (rule : Int) (A : Option Addr) (c : Nat) (w : World) (h : HasBal w xs A) :
    Calls Tryd.prog 22 #[.slice A xs.length c, .int .i64 rule] w fun e w' => ∃ v, e = .returned (.tuple #[v, .int .i64 (vcodeB xs rule)]) ∧ w'.ownsRow w.heap.size 9 1 v (pivR xs rule).length (txC (pivR xs rule)) ∧ Below w.heap.size w w' := by
  have H := Lib.hid h; clear h
  obtain ⟨i0, hi0, hz0, hz1, hz2⟩ := info_parts infoStr
  by_cases hc : vcodeB xs rule = 0
  · have HT := Lib.hid (show pivR xs rule = pivL xs rule xs.length by rw [pivR, if_pos hc])
    have HF := Lib.hid (fits_of (vcode_zero hc).1).1
    have hm := HF.out.1
    have HC := Lib.hid hc; clear hc
    go_enter Tryd.func22, Tryd.ntmps22
    go_wp2_with fail
    refine (implCode_any xs _ _ _ _ H.out).mono ?_; rw [HC.out]; rintro e w1 ⟨rfl, b1⟩
    go_wp2_with fail
    go_loopw [7, 18] (fun v7 v18 wr => ∃ (k n : Nat) (B : Option Addr) (d : Nat), k ≤ xs.length ∧ n ≤ k ∧ Hid ((pivL xs rule k).length = n) ∧ v7 = .slice B n d ∧ Hid (wr.ownsRow w.heap.size 9 1 (.slice B n d) n (txC (pivL xs rule k))) ∧ Hid (Below w.heap.size w wr) ∧ v18 = .int .i64 k) (fun _ i _ => xs.length - (intOf i).toNat)
    case atStart => exact ⟨0, 0, none, 0, by omega, by omega, rfl, rfl, World.ownsRow_nil _ _ _ _, b1, rfl⟩
    case round =>
      obtain ⟨k, n, B, d, hk, hnk, HN, rfl, HO, BW, rfl⟩ := hrel
      by_cases hlt : k < xs.length
      · have HR := Lib.hid ((H.out.1.below BW.out).more BW.out.size)
        obtain ⟨ab, ao, rfl, hadb, hcell⟩ := HR.out.2 (by omega)
        obtain ⟨e0, e1, e2⟩ := baC_get xs k hlt
        have c0 := hcell _ _ e0
        have c1 := hcell _ _ e1
        have c2 := hcell _ _ e2
        rw [← Nat.add_assoc] at c1 c2
        have HNm := Lib.hid (nameAt_eq hlt)
        clear hcell e0 e1 e2
        generalize xs[k] = b at c0 c1 c2 HNm
        have T3 := Lib.hid (three_new wr 32 (.string b.name) (.int .i64 b.choice) (.int .i64 b.weight))
        cases hp : pivB xs rule k
        all_goals
          have HP := Lib.hid hp; clear hp
          go_wp2_with fail
          generalize hW : wr.alloc (.cells #[.string b.name, .int .i64 b.choice, .int .i64 b.weight] 32) = W0
          obtain ⟨hb, hbk, _, _, _⟩ := T3.out W0 hW.symm
          clear hW
          have HB := Lib.hid hb; clear hb
          refine (piv_any xs rule k hlt HF.out (some ⟨ab, ao, none⟩) c W0 ((HR.out.below HB.out).more HB.out.size)).mono ?_; rw [HP.out]; rintro e w3 ⟨rfl, b3⟩
          have B3 := Lib.hid (BW.out.trans ((HB.out.trans (b3.mono HB.out.size)).mono BW.out.size)); have O3 := Lib.hid (own_below (own_below HO.out HB.out) b3)
          have k0' := (b3.cell (p := ⟨wr.heap.size, 0, none⟩) hbk.lt).trans (hbk.cell 0)
          clear b3 hbk
          go_wp2_with (at_builtin; refine wpList_append_any _ rfl (.tmp 27) (.tmp 30) _ rfl w.heap.size 9 i0 _ 1 16 Tryd.underlying43 hi0 hz0 hz1 hz2 rfl (by omega) (.slice B n d) n (txC (pivL xs rule k)) rfl (O3.out.alloc _) _ (some ⟨w3.heap.size, 0, none⟩) 1 1 [.string b.name] rfl (new_tx1 _ _ _) (by simp [Value.oneCell']) (by simp only [maxLen]; omega) (by omega) (by have := B3.out.size; simp; omega) ?_; intro v4 w4 hown4 hg4 hat4; obtain ⟨B4, d4, rfl, _⟩ := own_shape hown4)
        · go_roundw
          case rel => exact ⟨k + 1, n, B, d, by omega, by omega, by rw [pivL_no HP.out]; exact HN.out, rfl, by rw [pivL_no HP.out]; exact O3.out, B3.out, by go_num⟩
          case measure => simp [intOf]; omega
        · go_roundw
          case rel => exact ⟨k + 1, n + 1, B4, d4, by omega, by omega, by have := HN.out; rw [pivL_yes HP.out]; simp [Hid, this], rfl, by rw [pivL_yes HP.out, HNm.out, txC_snoc]; exact hown4, below_own (B3.out.alloc B3.out.size _) (O3.out.alloc _) hg4 (Nat.le_refl _) (by have := B3.out.size; simp; omega), by go_num⟩
          case measure => simp [intOf]; omega
      · obtain rfl : k = xs.length := by omega
        have HN' := HN.out
        go_wp2_with fail
        go_ret2
        exact ⟨_, by rw [HC.out]; rfl, by rw [HT.out, HN']; exact HO.out, BW.out⟩
  · have HT := Lib.hid (show pivR xs rule = [] by rw [pivR, if_neg hc])
    have hne : (vcodeB xs rule != 0) = true := by rw [bne_iff_ne]; exact hc
    clear hc
    go_enter Tryd.func22, Tryd.ntmps22
    go_wp2_with fail
    refine (implCode_any xs _ _ _ _ H.out).mono ?_; rintro e w1 ⟨rfl, b1⟩
    go_wp2_with fail
    go_ret2
    exact ⟨_, rfl, by rw [HT.out]; exact World.ownsRow_nil _ _ _ _, b1⟩

end Go.Proofs.YtihhpmhigmegjaaDoor
