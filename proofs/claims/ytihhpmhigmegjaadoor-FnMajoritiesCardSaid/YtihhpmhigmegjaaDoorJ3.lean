/- l03Find, and the end of l27Few, of the reference. -/
import Derived.Test.YtihhpmhigmegjaaDoorRows
import Derived.Test.YtihhpmhigmegjaaDoorL0
import Derived.Test.YtihhpmhigmegjaaDoorM0
import Derived.WalkKit
import Derived.ProofKit
import Derived.OpenShut
import Derived.BigQuiet
import Derived.Outline
import Derived.WalkSpells
import Derived.WalkLawsBesides
import Derived.Deep.DeepCutAuto
import Derived.Test.YtihhpmhigmegjaaDoorJ2
import Derived.Test.YtihhpmhigmegjaaDoorI6
import Derived.Sort.Walk0
namespace Go.Proofs.YtihhpmhigmegjaaDoor
open Go.ChangeShapes Go.WideShapes Go.ChangeAt Go.RowKit Go.Sort

theorem strLt_trans {a b c : ByteArray} (h1 : strLt a b = true) (h2 : strLt b c = true) : strLt a c = true := by
  unfold strLt at *
  rw [bytesLess_eq, decide_eq_true_eq] at *
  exact List.lt_trans h1 h2
theorem strLt_self (a : ByteArray) : strLt a a = false := by
  unfold strLt
  rw [bytesLess_eq, decide_eq_false_iff_not]
  exact List.lt_irrefl _
theorem names_lt {xs : List Bal} (h : areB xs = true) : ∀ d i, i + 1 + d < xs.length → strLt (nmAt xs i) (nmAt xs (i + 1 + d)) = true := by
  rw [areB, Bool.and_eq_true] at h
  have one : ∀ i, i + 1 < xs.length → strLt (nmAt xs i) (nmAt xs (i + 1)) = true := fun i hi => by
    have := areTo_le (k := i + 1 + 1) hi h.1
    rw [areTo, Bool.and_eq_true, goodAt, List.getElem?_eq_getElem hi] at this
    have := this.2
    simp only [Bool.and_eq_true] at this
    have := this.2
    rw [ordB, List.getElem?_eq_getElem (by omega)] at this
    rw [nmAt_eq (by omega), nmAt_eq hi]
    exact this
  intro d
  induction d with
  | zero => intro i hi; exact one i hi
  | succ d ih =>
    intro i hi
    exact strLt_trans (ih i (by omega)) (one (i + 1 + d) (by omega))
theorem names_inj {xs : List Bal} (h : areB xs = true) {i j : Nat} (hi : i < xs.length) (hj : j < xs.length) (e : nmAt xs i = nmAt xs j) : i = j := by
  rcases Nat.lt_trichotomy i j with hl | hl | hl
  · have := names_lt h (j - i - 1) i (by omega)
    rw [show i + 1 + (j - i - 1) = j by omega, e, strLt_self] at this
    cases this
  · exact hl
  · have := names_lt h (i - j - 1) j (by omega)
    rw [show j + 1 + (i - j - 1) = i by omega, e, strLt_self] at this
    cases this
theorem name_in {xs : List Bal} (h : areB xs = true) {ch : List Nat} (hch : ∀ i ∈ ch, i < xs.length) {k : Nat} (hk : k < xs.length) : (0 ≤ ixS (nmAt xs k) (ch.map (nmAt xs))) ↔ k ∈ ch := by
  rw [ixS_mem, List.mem_map]
  constructor
  · rintro ⟨i, hi, e⟩
    rw [← names_inj h (hch i hi) hk e]; exact hi
  · exact fun hm => ⟨k, hm, rfl⟩
set_option maxRecDepth 100000 in
theorem find_any (L : List ByteArray) (x : ByteArray) (hm : L.length ≤ 9223372036854775807) (A : Option Addr) (c : Nat) (w : World) (hr : Reads w w.heap.size 1 A L.length (txC L)) :
    Calls Tryd.prog 67 #[.slice A L.length c, .string x] w fun e w' => e = .returned (.int .i64 (ixS x L)) ∧ w = w' := by
  have HR := Lib.hid hr; clear hr
  have H0 := Lib.hid (ixT_zero x L)
  go_enter Tryd.func67, Tryd.ntmps67
  go_wp2_with fail
  go_loop [5] (fun v5 => ∃ k : Nat, k ≤ L.length ∧ Hid (ixS x L = ixT x L k) ∧ v5 = .int .i64 k) (fun i => L.length - (intOf i).toNat)
  case atStart => exact ⟨0, by omega, H0.out.symm, rfl⟩
  case round =>
    obtain ⟨k, hk, HK, rfl⟩ := hrel
    by_cases hlt : k < L.length
    · obtain ⟨ab, ao, rfl, hadb, hcell⟩ := HR.out.2 (by omega)
      have c0 := hcell _ _ (txC_get L k hlt)
      clear hcell
      by_cases he : x = L[k]
      · have HX := Lib.hid (HK.out.trans (ixT_hit hlt he))
        have hc := str_eq L[k] x
        rw [decide_eq_true he.symm] at hc
        clear he
        generalize L[k] = a at c0 hc
        go_wp2_with fail
        go_ret
        exact ⟨ret_int HX.out.symm, rfl⟩
      · have HX := Lib.hid (HK.out.trans (ixT_miss hlt he))
        have hc := str_eq L[k] x
        rw [decide_eq_false (fun h => he h.symm)] at hc
        clear he
        generalize L[k] = a at c0 hc
        go_wp2_with fail
        go_round
        case rel => exact ⟨k + 1, by omega, HX.out, by go_num⟩
        case measure => simp [intOf]; omega
    · obtain rfl : k = L.length := by omega
      have HX := Lib.hid (HK.out.trans (ixT_end (x := x)))
      go_wp2_with fail
      go_ret
      exact ⟨ret_int HX.out.symm, rfl⟩
theorem new_bal1 (w : World) (o : Obj) (t : TypeId) (a b c : Value) : Reads ((w.alloc o).alloc (.cells #[a, b, c] t)) (w.heap.size + 2) 3 (some ⟨w.heap.size + 1, 0, none⟩) 1 [a, b, c] := by
  refine ⟨rfl, fun _ => ⟨_, 0, rfl, by omega, fun j u hu => ?_⟩⟩
  have := (Blk.new (w.alloc o) t #[a, b, c]).cell j
  rw [show (w.alloc o).heap.size = w.heap.size + 1 by simp] at this
  rw [Nat.zero_add, this]
  simpa using hu
theorem baC_app1 (xs : List Bal) (b : Bal) : baC (xs ++ [b]) = baC xs ++ [.string b.name, .int .i64 b.choice, .int .i64 b.weight] := by simp [baC, Bal.cells]
set_option maxRecDepth 100000 in
set_option maxHeartbeats 1000000 in
theorem few_zero {xs : List Bal} (ha : areB xs = true) (rule : Int) (hf : Fits xs) (ch : List Nat) (F : Int) (hch : ∀ i ∈ ch, i < xs.length) (hcl : ch.length ≤ 10) (A B : Option Addr) (c d : Nat) (w : World) (hr : Reads w w.heap.size 3 A xs.length (baC xs)) (hr' : Reads w w.heap.size 1 B ch.length (txC (ch.map (nmAt xs)))) :
    Calls Tryd.prog 57 #[.slice A xs.length c, .int .i64 rule, .slice B ch.length d, .int .i64 F, .int .i64 0] w fun e w' => e = .returned (.tuple #[.slice B ch.length d, .bool (goodB xs rule ch)]) ∧ Below w.heap.size w w' := by
  have hm := hf.1
  have HR := Lib.hid hr; have HR' := Lib.hid hr'; clear hr hr'
  have HF := Lib.hid hf; clear hf
  have HIn := Lib.hid (fun k (hk : k < xs.length) => name_in ha hch hk); clear ha
  obtain ⟨i0, hi0, hz0, hz1, hz2⟩ := info_parts infoBal
  go_enter Tryd.func57, Tryd.ntmps57
  go_wp2_with fail
  go_loopw [12, 13] (fun v12 v13 wr => ∃ (k : Nat) (V : Option Addr) (e : Nat), k ≤ xs.length ∧ v12 = .slice V k e ∧ Hid (wr.ownsRow w.heap.size 32 3 (.slice V k e) k (baC (castTo xs ch k))) ∧ Hid (Below w.heap.size w wr) ∧ v13 = .int .i64 k) (fun _ i _ => xs.length - (intOf i).toNat)
  case atStart => exact ⟨0, some ⟨w.heap.size, 0, none⟩, 0, by omega, rfl, World.ownsRow_made (e := 32) (size := 3) w #[] 0 (Nat.le_refl _) (by decide) rfl, (Below.refl _ _).alloc (Nat.le_refl _) _, rfl⟩
  case round =>
    obtain ⟨k, V, e, hk, rfl, HO, BW, rfl⟩ := hrel
    by_cases hlt : k < xs.length
    · obtain ⟨ab, ao, rfl, hadb, hcell⟩ := (HR.out.below BW.out).2 (by omega)
      obtain ⟨e0, e1, e2⟩ := baC_get xs k hlt
      have c0 := hcell _ _ e0
      have c1 := hcell _ _ e1
      have c2 := hcell _ _ e2
      rw [← Nat.add_assoc] at c1 c2
      have HI2 := Lib.hid (HIn.out k hlt)
      have HSt := Lib.hid (castTo_step (I := ch) hlt)
      rw [nmAt_eq hlt] at HI2
      clear hcell e0 e1 e2
      generalize xs[k] = b at c0 c1 c2 HI2 HSt
      have HC := Lib.hid (find_any (ch.map (nmAt xs)) b.name (by rw [List.length_map]; omega) B d (wr.alloc (.cells #[.string b.name, .int .i64 (-1), .int .i64 b.weight] 32)) (by rw [List.length_map]; exact ((HR'.out.below BW.out).more BW.out.size).alloc (Nat.le_refl _) _ |>.more (by simp)))
      rw [List.length_map] at HC
      generalize ixS b.name (ch.map (nmAt xs)) = ix at HC HI2
      by_cases hin : k ∈ ch
      · have hix := HI2.out.2 hin
        rw [if_pos hin] at HSt
        clear hin
        go_wp2_with fail
        refine HC.out.mono ?_; rintro e w' ⟨rfl, rfl⟩
        go_wp2_with (at_builtin; refine wpList_append_any _ rfl (.tmp 38) (.tmp 40) _ rfl w.heap.size 32 i0 _ 3 32 Tryd.underlying24 hi0 hz0 hz1 hz2 rfl (by omega) (.slice V k e) k (baC (castTo xs ch k)) rfl ((HO.out.alloc _).alloc _) _ (some ⟨wr.heap.size + 1, 0, none⟩) 1 1 [.string b.name, .int .i64 1, .int .i64 b.weight] rfl (new_bal1 _ _ _ _ _ _) (by simp [Value.oneCell']) (by simp only [maxLen]; omega) (by omega) (by have := BW.out.size; simp; omega) ?_; intro v4 w4 hown4 hg4 hat4; obtain ⟨B4, d4, rfl, _⟩ := own_shape hown4)
        go_roundw
        case rel => exact ⟨k + 1, B4, d4, by omega, rfl, by rw [HSt.out, baC_app1]; exact hown4, below_own ((BW.out.alloc BW.out.size _).alloc (by have := BW.out.size; simp; omega) _) ((HO.out.alloc _).alloc _) hg4 (Nat.le_refl _) (by have := BW.out.size; simp; omega), by go_num⟩
        case measure => simp [intOf]; omega
      · have hix : ix < 0 := by
          rcases Int.lt_or_le ix 0 with h | h
          · exact h
          · exact absurd (HI2.out.1 h) hin
        rw [if_neg hin] at HSt
        clear hin
        go_wp2_with fail
        refine HC.out.mono ?_; rintro e w' ⟨rfl, rfl⟩
        go_wp2_with (at_builtin; refine wpList_append_any _ rfl (.tmp 38) (.tmp 40) _ rfl w.heap.size 32 i0 _ 3 32 Tryd.underlying24 hi0 hz0 hz1 hz2 rfl (by omega) (.slice V k e) k (baC (castTo xs ch k)) rfl ((HO.out.alloc _).alloc _) _ (some ⟨wr.heap.size + 1, 0, none⟩) 1 1 [.string b.name, .int .i64 (-1), .int .i64 b.weight] rfl (new_bal1 _ _ _ _ _ _) (by simp [Value.oneCell']) (by simp only [maxLen]; omega) (by omega) (by have := BW.out.size; simp; omega) ?_; intro v4 w4 hown4 hg4 hat4; obtain ⟨B4, d4, rfl, _⟩ := own_shape hown4)
        go_roundw
        case rel => exact ⟨k + 1, B4, d4, by omega, rfl, by rw [HSt.out, baC_app1]; exact hown4, below_own ((BW.out.alloc BW.out.size _).alloc (by have := BW.out.size; simp; omega) _) ((HO.out.alloc _).alloc _) hg4 (Nat.le_refl _) (by have := BW.out.size; simp; omega), by go_num⟩
        case measure => simp [intOf]; omega
    · obtain rfl : k = xs.length := by omega
      have HC := specCar_any (castB xs ch) rule (fits_cast HF.out ch) V e wr
      rw [castB_len] at HC
      have HC2 := Lib.hid (HC (Reads.of_own HO.out)); clear HC
      have HG := Lib.hid (show carB (castB xs ch) rule = goodB xs rule ch from rfl)
      rw [HG.out] at HC2
      go_wp2_with fail
      refine HC2.out.mono ?_; rintro e w' ⟨rfl, rfl⟩
      go_wp2_with fail
      go_ret2
      exact ⟨by first | done | rfl, BW.out⟩
end Go.Proofs.YtihhpmhigmegjaaDoor
