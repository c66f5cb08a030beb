/- PivotalMembers of the program; marks of ballots. -/
import Derived.Test.YtlcfpaghipjgiaaDoorRows
import Derived.Test.YtlcfpaghipjgiaaDoorL0
import Derived.Test.YtlcfpaghipjgiaaDoorM0
import Derived.WalkKit
import Derived.ProofKit
import Derived.OpenShut
import Derived.BigQuiet
import Derived.Outline
import Derived.WalkSpells
import Derived.WalkLawsBesides
import Derived.Deep.DeepCutAuto
import Derived.Test.YtlcfpaghipjgiaaDoorT3
namespace Go.Proofs.YtlcfpaghipjgiaaDoor
open Go.ChangeShapes Go.WideShapes Go.ChangeAt Go.RowKit

set_option maxRecDepth 100000 in
set_option maxHeartbeats 2000000 in
theorem implPiv_any (xs : List Bal) (rule : Int) (A : Option Addr) (c : Nat) (w : World) (h : HasBal w xs A) :
    Calls Tryd.prog 27 #[.slice A xs.length c, .int .i64 rule] w fun e w' => ∃ v, e = .returned (.tuple #[v, .int .i64 (vcodeB xs rule)]) ∧ w'.ownsRow w.heap.size 9 1 v (pivR xs rule).length (txC (pivR xs rule)) ∧ Below w.heap.size w w' := by
  have H := Lib.hid h; clear h
  obtain ⟨i0, hi0, hz0, hz1, hz2⟩ := info_parts infoStr
  by_cases hc : vcodeB xs rule = 0
  · have HT := Lib.hid (show pivR xs rule = pivL xs rule xs.length by rw [pivR, if_pos hc])
    have HF := Lib.hid (fits_of (vcode_zero hc).1).1
    have hm := HF.out.1
    have HC := Lib.hid hc; clear hc
    go_enter Tryd.func27, Tryd.ntmps27
    go_wp2_with fail
    refine (implCode_any xs _ _ _ _ H.out).mono ?_; rw [HC.out]; rintro e w1 ⟨rfl, b1⟩
    go_wp2_with fail
    go_loopw [7, 18] (fun v7 v18 wr => ∃ (k n : Nat) (B : Option Addr) (d : Nat), k ≤ xs.length ∧ n ≤ k ∧ Hid ((pivL xs rule k).length = n) ∧ v7 = .slice B n d ∧ Hid (wr.ownsRow w.heap.size 9 1 (.slice B n d) n (txC (pivL xs rule k))) ∧ Hid (Below w.heap.size w wr) ∧ v18 = .int .i64 k) (fun _ i _ => xs.length - (intOf i).toNat)
    case atStart => exact ⟨0, 0, none, 0, by omega, by omega, rfl, rfl, World.ownsRow_nil _ _ _ _, b1, rfl⟩
    case round =>
      obtain ⟨k, n, B, d, hk, hnk, HN, rfl, HO, BW, rfl⟩ := hrel
      by_cases hlt : k < xs.length
      · have HR := Lib.hid ((H.out.1.below BW.out).more BW.out.size)
        obtain ⟨ab, ao, rfl, hadb, hcell⟩ := HR.out.2 (by omega)
        obtain ⟨e0, e1, e2⟩ := baC_get xs k hlt
        have c0 := hcell _ _ e0
        have c1 := hcell _ _ e1
        have c2 := hcell _ _ e2
        rw [← Nat.add_assoc] at c1 c2
        have HNm := Lib.hid (nameAt_eq hlt)
        clear hcell e0 e1 e2
        generalize xs[k] = b at c0 c1 c2 HNm
        have T3 := Lib.hid (three_new wr 49 (.string b.name) (.int .i64 b.choice) (.int .i64 b.weight))
        cases hp : pivB xs rule k
        all_goals
          have HP := Lib.hid hp; clear hp
          go_wp2_with fail
          generalize hW : wr.alloc (.cells #[.string b.name, .int .i64 b.choice, .int .i64 b.weight] 49) = W0
          obtain ⟨hb, hbk, _, _, _⟩ := T3.out W0 hW.symm
          clear hW
          have HB := Lib.hid hb; clear hb
          refine (piv_any xs rule k hlt HF.out (some ⟨ab, ao, none⟩) c W0 ((HR.out.below HB.out).more HB.out.size)).mono ?_; rw [HP.out]; rintro e w3 ⟨rfl, b3⟩
          have B3 := Lib.hid (BW.out.trans ((HB.out.trans (b3.mono HB.out.size)).mono BW.out.size)); have O3 := Lib.hid (own_below (own_below HO.out HB.out) b3)
          have k0' := (b3.cell (p := ⟨wr.heap.size, 0, none⟩) hbk.lt).trans (hbk.cell 0)
          clear b3 hbk
          go_wp2_with (at_builtin; refine wpList_append_any _ rfl (.tmp 27) (.tmp 30) _ rfl w.heap.size 9 i0 _ 1 16 Tryd.underlying38 hi0 hz0 hz1 hz2 rfl (by omega) (.slice B n d) n (txC (pivL xs rule k)) rfl (O3.out.alloc _) _ (some ⟨w3.heap.size, 0, none⟩) 1 1 [.string b.name] rfl (new_tx1 _ _ _) (by simp [Value.oneCell']) (by simp only [maxLen]; omega) (by omega) (by have := B3.out.size; simp; omega) ?_; intro v4 w4 hown4 hg4 hat4; obtain ⟨B4, d4, rfl, _⟩ := own_shape hown4)
        · go_roundw
          case rel => exact ⟨k + 1, n, B, d, by omega, by omega, by rw [pivL_no HP.out]; exact HN.out, rfl, by rw [pivL_no HP.out]; exact O3.out, B3.out, by go_num⟩
          case measure => simp [intOf]; omega
        · go_roundw
          case rel => exact ⟨k + 1, n + 1, B4, d4, by omega, by omega, by have := HN.out; rw [pivL_yes HP.out]; simp [Hid, this], rfl, by rw [pivL_yes HP.out, HNm.out, txC_snoc]; exact hown4, below_own (B3.out.alloc B3.out.size _) (O3.out.alloc _) hg4 (Nat.le_refl _) (by have := B3.out.size; simp; omega), by go_num⟩
          case measure => simp [intOf]; omega
      · obtain rfl : k = xs.length := by omega
        have HN' := HN.out
        go_wp2_with fail
        go_ret2
        exact ⟨_, by rw [HC.out]; rfl, by rw [HT.out, HN']; exact HO.out, BW.out⟩
  · have HT := Lib.hid (show pivR xs rule = [] by rw [pivR, if_neg hc])
    have hne : (vcodeB xs rule != 0) = true := by rw [bne_iff_ne]; exact hc
    clear hc
    go_enter Tryd.func27, Tryd.ntmps27
    go_wp2_with fail
    refine (implCode_any xs _ _ _ _ H.out).mono ?_; rintro e w1 ⟨rfl, b1⟩
    go_wp2_with fail
    go_ret2
    exact ⟨_, rfl, by rw [HT.out]; exact World.ownsRow_nil _ _ _ _, b1⟩

set_option maxRecDepth 100000 in
set_option maxHeartbeats 1000000 in
theorem markBal_any (cs : List Value) (base : Nat) (A : Option Addr) (n c k0 : Nat) (w : World) (hown : w.ownsRow base 49 3 (.slice A n c) n cs) (hn : n ≤ 1048576) (h0 : 1 ≤ k0) (h1 : k0 ≤ 1048576) :
    Calls Tryd.prog 29 #[.slice A n c, .int .i64 k0] w fun e w' => e = .returned (.int .i64 ((k0 + 3 * n : Nat) : Int)) ∧ w.grownBy w' (Value.ownBlock (.slice A n c)) := by
  rcases Nat.eq_zero_or_pos n with hz | hp
  · subst hz
    go_enter Tryd.func29, Tryd.ntmps29
    go_wp2_with fail
    refine wp_loop_rounds 1 ?_; rw [rounds_succ]
    go_wp2_with fail
    go_ret
    exact ⟨ret_int (by simp), World.grownBy.refl w _⟩
  · obtain ⟨g, cap, hv, hbg, hgl⟩ := hown.form hp
    simp only [Value.slice.injEq, true_and] at hv
    obtain ⟨rfl, rfl⟩ := hv
    have HO := Lib.hid hown; clear hown
    go_enter Tryd.func29, Tryd.ntmps29
    go_wp2_with fail
    go_loopw [1, 5] (fun v1 v5 wr => ∃ (k K : Nat) (cs' : List Value), k ≤ n ∧ 1 ≤ K ∧ K ≤ 4194304 ∧ Hid (K = k0 + 3 * k) ∧ Hid (wr.ownsRow base 49 3 (.slice (some ⟨g, 0, none⟩) n c) n cs') ∧ Hid (w.grownBy wr (some g)) ∧ v1 = .int .i64 K ∧ v5 = .int .i64 k) (fun _ i _ => n - (intOf i).toNat)
    case atStart => exact ⟨0, k0, cs, Nat.zero_le _, by omega, by omega, rfl, HO.out, World.grownBy.refl w _, rfl, rfl⟩
    case round =>
      obtain ⟨k, K, cs', hk, hK1, hK2, HK, HW, HG, rfl, rfl⟩ := hrel
      by_cases hlt : k < n
      · have MT := Lib.hid (markText_any K (by omega) (by omega) wr)
        go_wp2_with fail
        refine MT.out.mono ?_; rintro e w1 ⟨rfl, b1⟩
        have HW1 := Lib.hid (own_below HW.out b1)
        have HG1 := Lib.hid (HG.out.trans (grown_of_below b1 (some g)))
        clear b1 MT
        have hlen : cs'.length = n * 3 := HW1.out.1
        have q0 := HW1.out.cellAt (k * 3) (by omega)
        rw [List.getElem?_eq_getElem (by omega)] at q0
        have q1 := HW1.out.cellAt (k * 3 + 1) (by omega)
        rw [List.getElem?_eq_getElem (by omega)] at q1
        have q2 := HW1.out.cellAt (k * 3 + 2) (by omega)
        rw [List.getElem?_eq_getElem (by omega)] at q2
        have f0 := HW1.out.frozenAt (k * 3)
        have f1 := HW1.out.frozenAt (k * 3 + 1)
        have f2 := HW1.out.frozenAt (k * 3 + 2)
        generalize cs'[k * 3]'(by omega) = u0 at q0
        generalize cs'[k * 3 + 1]'(by omega) = u1 at q1
        generalize cs'[k * 3 + 2]'(by omega) = u2 at q2
        have s1 := HW1.out.stored (k * 3) (.string (mT K))
        have s2 := s1.1.stored (k * 3 + 1) (.int .i64 ((K : Int) + 1))
        have s3 := s2.1.stored (k * 3 + 2) (.int .i64 ((K : Int) + 1 + 1))
        have HS1 := Lib.hid (((HG1.out.trans s1.2).trans s2.2).trans s3.2); have HS2 := Lib.hid s3.1
        clear s1 s2 s3 hlen
        go_wp2_with fail
        go_roundw
        case rel => exact ⟨k + 1, K + 3, _, by omega, by omega, by have := HK.out; omega, by have := HK.out; simp [Hid]; omega, HS2.out, HS1.out, by go_num, by go_num⟩
        case measure => simp [intOf]; omega
      · obtain rfl : k = n := by omega
        go_wp2_with fail
        go_ret
        exact ⟨ret_int (by rw [HK.out]), HG.out⟩
end Go.Proofs.YtlcfpaghipjgiaaDoor
