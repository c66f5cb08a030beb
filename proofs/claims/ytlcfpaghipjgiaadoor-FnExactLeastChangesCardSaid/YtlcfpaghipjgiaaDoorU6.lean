/- LeastChanges of the program; the law. -/
import Derived.Test.YtlcfpaghipjgiaaDoorRows
import Derived.Test.YtlcfpaghipjgiaaDoorL0
import Derived.Test.YtlcfpaghipjgiaaDoorM0
import Derived.WalkKit
import Derived.ProofKit
import Derived.OpenShut
import Derived.BigQuiet
import Derived.Outline
import Derived.WalkSpells
import Derived.WalkLawsBesides
import Derived.Deep.DeepCutAuto
import Derived.Test.YtlcfpaghipjgiaaDoorU5
import Derived.Test.YtlcfpaghipjgiaaDoorV5
import Derived.Laws.EntriesVeiled
namespace Go.Proofs.YtlcfpaghipjgiaaDoor
open Go.ChangeShapes Go.WideShapes Go.ChangeAt Go.RowKit Go.Sort

set_option maxRecDepth 100000 in
set_option maxHeartbeats 1000000 in
theorem implLeast_any (xs : List Bal) (rule : Int) (A : Option Addr) (c : Nat) (hA : A = none → c = 0) (w : World) (h : HasBal w xs A) :
    Calls Tryd.prog 25 #[.slice A xs.length c, .int .i64 rule] w fun e w' => e = .returned (.tuple #[.int .i64 (leastV xs rule).1, .int .i64 (leastV xs rule).2]) ∧ Below w.heap.size w w' := by
  have H := Lib.hid h; clear h
  by_cases hc : vcodeB xs rule = 0
  · have HT := Lib.hid (show leastV xs rule = leastT xs rule by rw [leastV, if_pos hc])
    have HA := Lib.hid (vcode_zero hc).1
    have HF := Lib.hid (fits_of HA.out).1
    have hm := HF.out.1
    have HC := Lib.hid hc; clear hc
    have key : ∀ W0 : World, W0 = (w.alloc (.cells #[.slice A xs.length c] 25)).alloc (.cells #[.int .i64 rule] 2) → Blk W0 w.heap.size 25 #[.slice A xs.length c] ∧ Blk W0 (w.heap.size + 1) 2 #[.int .i64 rule] ∧ Below w.heap.size w W0 ∧ W0.heap.size = w.heap.size + 2 := by
      rintro W0 rfl
      refine ⟨(Blk.new _ _ _).alloc _, by have := Blk.new (w.alloc (.cells #[.slice A xs.length c] 25)) 2 #[.int .i64 rule]; simpa using this, ((Below.refl _ _).alloc (Nat.le_refl _) _).alloc (by simp) _, by simp⟩
    have hmf : ∀ (fn : Fn) (first cap : Array Value) (w : World), (Instr.makeFunc fn first cap).run Tryd.prog w = .ok (.func fn first cap) w := fun _ _ _ _ => rfl
    go_enter Tryd.func25, Tryd.ntmps25
    go_wp2_with fail
    generalize hW : (w.alloc (.cells #[.slice A xs.length c] 25)).alloc (.cells #[.int .i64 rule] 2) = W0
    obtain ⟨bL, bR, bb, hsz⟩ := key W0 hW.symm
    clear hW key
    refine (implCode_any xs rule A c W0 (H.out.below bb)).mono ?_; rw [HC.out]; rintro e w1 ⟨rfl, b1⟩
    have bL1 := bL.below b1 bL.lt; have bR1 := bR.below b1 bR.lt
    have c1 := bL1.cell 0
    have c2 := bR1.cell 0
    simp only [List.getElem?_toArray, List.getElem?_cons_zero] at c1 c2
    have z1 := bL1.lt; have z2 := bR1.lt
    have n1 : ¬ w.heap.size = w1.heap.size := by omega
    have n2 : ¬ w.heap.size + 1 = w1.heap.size := by omega
    go_wp2_with fail
    have bM := Blk.new w1 2 #[.int .i64 (-1)]
    have bA2 : Below w1.heap.size w1 (w1.alloc (.cells #[.int .i64 (-1)] 2)) := (Below.refl _ _).alloc (Nat.le_refl _) _
    generalize w1.alloc (.cells #[.int .i64 (-1)] 2) = W2 at bM bA2 ⊢
    have b0 : Below w.heap.size w w1 := bb.trans (b1.mono bb.size)
    have B2 := Lib.hid (b0.trans (bA2.mono b0.size))
    refine (clone_bal A xs.length c (baC xs) W2 (H.out.below B2.out).1 (baC_one xs) (by omega) hA).mono ?_; rintro e w3 ⟨v, rfl, own, b3⟩
    obtain ⟨OV, cap, rfl, _⟩ := own_shape own
    have bM3 := bM.below b3 bM.lt
    have bL3 := (bL1.below bA2 bL1.lt).below b3 (by have := bM.lt; omega)
    have bR3 := (bR1.below bA2 bR1.lt).below b3 (by have := bM.lt; omega)
    have B3 := Lib.hid (B2.out.trans (b3.mono B2.out.size))
    go_wp2_with fail
    have zz : w.heap.size ≤ w3.heap.size := B3.out.size
    have zM := bM.lt
    have z3 := b3.size
    have zA := bA2.size
    have zb := b1.size
    have hown := own.lt
    have own4 := own_below (own_below own (((Below.refl w3.heap.size w3).alloc (Nat.le_refl _) (.cells #[.slice OV xs.length cap] 25)))) ((Below.refl _ _).alloc (Nat.le_refl _) (.cells #[Value.func (Fn.func 60) #[] #[.pointer (some ⟨w.heap.size, 0, none⟩), .pointer (some ⟨w3.heap.size, 0, none⟩), .pointer (some ⟨w.heap.size + 1, 0, none⟩), .pointer (some ⟨w1.heap.size, 0, none⟩), .pointer (some ⟨w3.heap.size + 1, 0, none⟩)]] 68))
    have B4 := Lib.hid ((B3.out.alloc B3.out.size (.cells #[.slice OV xs.length cap] 25)).alloc (by simp; omega) (.cells #[Value.func (Fn.func 60) #[] #[.pointer (some ⟨w.heap.size, 0, none⟩), .pointer (some ⟨w3.heap.size, 0, none⟩), .pointer (some ⟨w.heap.size + 1, 0, none⟩), .pointer (some ⟨w1.heap.size, 0, none⟩), .pointer (some ⟨w3.heap.size + 1, 0, none⟩)]] 68))
    have hrd := (H.out.below B4.out).1
    have hS := Lib.hid (LSt.mk (B := w.heap.size) (tK := 68) (xs := xs) (rule := rule) (A := A) (c := c) (L := w.heap.size) (O := w3.heap.size) (R := w.heap.size + 1) (M := w1.heap.size) (K := w3.heap.size + 1) (OV := OV) (cap := cap) (l := -1) (ys := xs)
      ((bL3.alloc _).alloc _) ((Blk.new _ _ _).alloc _) ((bR3.alloc _).alloc _) ((bM3.alloc _).alloc _) (by have := Blk.new (w3.alloc (.cells #[.slice OV xs.length cap] 25)) 68 #[Value.func (Fn.func 60) #[] #[.pointer (some ⟨w.heap.size, 0, none⟩), .pointer (some ⟨w3.heap.size, 0, none⟩), .pointer (some ⟨w.heap.size + 1, 0, none⟩), .pointer (some ⟨w1.heap.size, 0, none⟩), .pointer (some ⟨w3.heap.size + 1, 0, none⟩)]]; simpa using this)
      (own_mono own4 (by omega)) rfl (((H.out.1.below B3.out).alloc (by omega) _).alloc (by simp; omega) _) B4.out.size (by omega) ⟨by omega, by omega, by omega, by omega⟩ (fun k hk => by have := hown k hk; omega))
    generalize (w3.alloc (Obj.cells #[Value.slice OV xs.length cap] 25)).alloc (Obj.cells #[Value.func (Fn.func 60) #[] #[.pointer (some ⟨w.heap.size, 0, none⟩), .pointer (some ⟨w3.heap.size, 0, none⟩), .pointer (some ⟨w.heap.size + 1, 0, none⟩), .pointer (some ⟨w1.heap.size, 0, none⟩), .pointer (some ⟨w3.heap.size + 1, 0, none⟩)]] 68) = W4 at hS B4 ⊢
    clear own4 hown bM3 bL3 bR3 own b3 bM bA2 bL1 bR1 bL bR b1 bb c1 c2 hrd
    refine (walk_any HF.out xs.length 0 0 0 rfl (by omega) (Int.le_refl _) (Int.le_refl _) (-1) xs HF.out rfl (fun _ => False) (.inl ⟨rfl, fun _ h => h⟩) W4 hS.out).mono ?_
    rintro e w5 ⟨rfl, l', ys', hs5, _, _, _, hl5, b5⟩
    have HL5 := Lib.hid (hl5.congr (E := Cnt (carB xs rule) rule [] xs 0) (fun z => by simp))
    have B5 := Lib.hid (B4.out.trans b5)
    have k5 := hs5.bM.cell 0
    simp only [List.getElem?_toArray, List.getElem?_cons_zero] at k5
    have HV := Lib.hid (least_eq (wt_of HA.out).1 (wt_of HA.out).2 HL5.out)
    clear hs5 hl5 b5
    by_cases hneg : l' < 0
    · rw [if_pos hneg] at HV
      go_wp2_with fail
      go_ret2
      exact ⟨by rw [HT.out, HV.out]; first | done | rfl, B5.out⟩
    · rw [if_neg hneg] at HV
      go_wp2_with fail
      go_ret2
      exact ⟨by rw [HT.out, HV.out]; first | done | rfl, B5.out⟩
  · have HT := Lib.hid (show leastV xs rule = (0, vcodeB xs rule) by rw [leastV, if_neg hc])
    have hne : (vcodeB xs rule != 0) = true := by rw [bne_iff_ne]; exact hc
    clear hc
    go_enter Tryd.func25, Tryd.ntmps25
    go_wp2_with fail
    have bb : Below w.heap.size w ((w.alloc (.cells #[.slice A xs.length c] 25)).alloc (.cells #[.int .i64 rule] 2)) := ((Below.refl _ _).alloc (Nat.le_refl _) _).alloc (by simp) _
    refine (implCode_any xs rule A c _ (H.out.below bb)).mono ?_; rintro e w1 ⟨rfl, b1⟩
    go_wp2_with fail
    go_ret2
    exact ⟨by rw [HT.out]; first | done | rfl, bb.trans (b1.mono bb.size)⟩
end Go.Proofs.YtlcfpaghipjgiaaDoor
