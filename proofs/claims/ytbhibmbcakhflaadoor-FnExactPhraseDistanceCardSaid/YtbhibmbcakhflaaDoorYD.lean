/- The distance of two phrases, by both. -/
import Derived.Test.YtbhibmbcakhflaaDoorRows
import Derived.Test.YtbhibmbcakhflaaDoorL0
import Derived.Test.YtbhibmbcakhflaaDoorM0
import Derived.WalkKit
import Derived.ProofKit
import Derived.OpenShut
import Derived.BigQuiet
import Derived.Outline
import Derived.WalkSpells
import Derived.WalkLawsBesides
import Derived.Deep.DeepCutAuto
import Derived.Test.YtbhibmbcakhflaaDoorYC
import Derived.Test.YtbhibmbcakhflaaDoorG4
import Derived.Test.YtbhibmbcakhflaaDoorFA
namespace Go.Proofs.YtbhibmbcakhflaaDoor
open Go.ChangeShapes Go.WideShapes Go.ChangeAt Go.RowKit Go.Sort

theorem phr_small {a : ByteArray} (h : phrB a = true) : (cutB 32 a).length ≤ 8 ∧ ∀ p ∈ cutB 32 a, p.size ≤ 16 := by
  unfold phrB at h
  rw [Bool.and_eq_true, decide_eq_true_eq, List.all_eq_true] at h
  refine ⟨by omega, fun p hp => ?_⟩
  have := h.2 p hp
  unfold wordB inB at this
  simp only [Bool.and_eq_true, decide_eq_true_eq] at this
  omega
theorem wAt_small {X : List ByteArray} (h : ∀ p ∈ X, p.size ≤ 16) (i : Nat) : (wAt X i).size ≤ 16 := by
  rcases Nat.lt_or_ge i X.length with hi | hi
  · rw [wAt_eq hi]; exact h _ (List.getElem_mem hi)
  · rw [wAt_out hi]; decide
theorem pdTo_bd {X Y : List ByteArray} (hx : ∀ p ∈ X, p.size ≤ 16) (hy : ∀ p ∈ Y, p.size ≤ 16) : ∀ k, 0 ≤ pdTo X Y k ∧ pdTo X Y k ≤ 32 * k
  | 0 => by simp [pdTo]
  | k + 1 => by
    have h1 := pdTo_bd hx hy k
    have h2 := edB_bd (wAt X k) (wAt Y k)
    have h3 := wAt_small hx k
    have h4 := wAt_small hy k
    rw [pdTo]
    push_cast
    omega
/-- The distance of two phrases. -/
def pdV (a b : ByteArray) : Int := pdTo (cutB 32 a) (cutB 32 b) (max (cutB 32 a).length (cutB 32 b).length)
theorem pdV_swap {a b : ByteArray} (h : (cutB 32 a).length < (cutB 32 b).length) : pdV a b = pdTo (cutB 32 b) (cutB 32 a) (cutB 32 b).length := by
  unfold pdV
  rw [Nat.max_eq_right (by omega), pdTo_symm]
theorem pdV_same {a b : ByteArray} (h : ¬ (cutB 32 a).length < (cutB 32 b).length) : pdV a b = pdTo (cutB 32 a) (cutB 32 b) (cutB 32 a).length := by
  unfold pdV
  rw [Nat.max_eq_left (by omega)]
set_option maxRecDepth 100000 in
set_option maxHeartbeats 2000000 in
theorem implPd_any (a b : ByteArray) (ha : a.size ≤ 1048576) (hb : b.size ≤ 1048576) (pa : phrB a = true) (pb : phrB b = true) (w : World) :
    Calls Tryd.prog 9 #[.string a, .string b] w fun e w' => e = .returned (.int .i64 (pdV a b)) ∧ Below w.heap.size w w' := by
  have HA := Lib.hid (implWords_any a (by omega))
  have HB := Lib.hid (implWords_any b (by omega))
  have H1 := Lib.hid (fun h => pdV_swap (a := a) (b := b) h)
  have H2 := Lib.hid (fun h => pdV_same (a := a) (b := b) h)
  have KN := Lib.hid (blks_two w 9 9 (txC (cutB 32 a)).toArray (txC (cutB 32 b)).toArray)
  have SA := Lib.hid (phr_small pa).2
  have SB := Lib.hid (phr_small pb).2
  have la := (phr_small pa).1
  have lb := (phr_small pb).1
  clear pa pb
  generalize pdV a b = r at *
  generalize cutB 32 a = X at *
  generalize cutB 32 b = Y at *
  go_enter Tryd.func9, Tryd.ntmps9
  go_wp2_with fail
  refine (HA.out w).mono ?_; rintro e w1 ⟨rfl, hw1⟩
  subst hw1
  go_wp2_with fail
  refine (HB.out _).mono ?_; rintro e w1 ⟨rfl, hw1⟩
  obtain ⟨bx, by_, bw, _⟩ := KN.out w1 hw1
  clear hw1
  have hsz : (w.alloc (.cells (txC X).toArray 9)).heap.size = w.heap.size + 1 := by simp
  rw [hsz]
  have RX := Lib.hid (blk_rd bx (txC_len X))
  have RY := Lib.hid (blk_rd by_ (txC_len Y))
  have B1 := Lib.hid bw
  clear bx by_ bw hsz
  by_cases hxy : X.length < Y.length
  · have HF := Lib.hid (H1.out hxy)
    have HP := Lib.hid (fun k => pdTo_bd SB.out SA.out k)
    go_wp2_with fail
    go_loopw [7, 23] (fun v7 v23 wr => ∃ (k : Nat) (t : Int), k ≤ Y.length ∧ 0 ≤ t ∧ t ≤ 32 * k ∧ Hid (pdTo Y X k = t) ∧ Hid (Below w1.heap.size w1 wr) ∧ v7 = .int .i64 t ∧ v23 = .int .i64 k) (fun _ i _ => Y.length - (intOf i).toNat)
    case atStart => exact ⟨0, 0, by omega, by omega, by omega, rfl, Below.refl _ _, rfl, rfl⟩
    case round =>
      obtain ⟨k, t, hk, ht0, ht1, HT, BW, rfl, rfl⟩ := hrel
      by_cases hlt : k < Y.length
      · obtain ⟨ab, ao, hab0, hadb, hcell⟩ := (RY.out.below BW.out).2 (by omega)
        simp only [Option.some.injEq, Addr.mk.injEq, and_true] at hab0
        obtain ⟨rfl, rfl⟩ := hab0
        have c0 := hcell _ _ (txC_get Y k hlt)
        rw [Nat.zero_add] at c0
        clear hcell
        have HS := Lib.hid (show pdTo Y X (k + 1) = pdTo Y X k + edB Y[k] (wAt X k) by rw [pdTo, wAt_eq hlt])
        have hps := SB.out _ (List.getElem_mem hlt)
        generalize Y[k] = p at c0 HS hps
        by_cases hlq : k < X.length
        · obtain ⟨qb, qo, hqb0, hqdb, hqcell⟩ := (RX.out.below BW.out).2 (by omega)
          simp only [Option.some.injEq, Addr.mk.injEq, and_true] at hqb0
          obtain ⟨rfl, rfl⟩ := hqb0
          have d0 := hqcell _ _ (txC_get X k hlq)
          rw [Nat.zero_add] at d0
          clear hqcell
          have hqs := SA.out _ (List.getElem_mem hlq)
          rw [wAt_eq hlq] at HS
          generalize X[k] = q at d0 HS hqs
          have HE := Lib.hid (implEd_any p q (by omega) (by omega))
          have hbd := edB_bd p q
          generalize edB p q = z at HS HE hbd
          go_wp2_with fail
          refine (HE.out _).mono ?_; rintro e w2 ⟨rfl, b2⟩
          go_wp2_with fail
          go_roundw
          case rel => exact ⟨k + 1, t + z, by omega, by omega, by omega, HS.out.trans (by rw [HT.out]), BW.out.trans (b2.mono BW.out.size), rfl, by go_num⟩
          case measure => simp [intOf]; omega
        · rw [wAt_out (by omega), edB_nil _ _ (by decide)] at HS
          go_wp2_with fail
          go_roundw
          case rel => exact ⟨k + 1, t + p.size, by omega, by omega, by omega, HS.out.trans (by rw [HT.out]), BW.out, rfl, by go_num⟩
          case measure => simp [intOf]; omega
      · obtain rfl : k = Y.length := by omega
        go_wp2_with fail
        go_ret
        exact ⟨ret_int (by rw [HF.out, HT.out]), B1.out.trans (BW.out.mono B1.out.size)⟩
  · have HF := Lib.hid (H2.out hxy)
    have HP := Lib.hid (fun k => pdTo_bd SA.out SB.out k)
    go_wp2_with fail
    go_loopw [7, 23] (fun v7 v23 wr => ∃ (k : Nat) (t : Int), k ≤ X.length ∧ 0 ≤ t ∧ t ≤ 32 * k ∧ Hid (pdTo X Y k = t) ∧ Hid (Below w1.heap.size w1 wr) ∧ v7 = .int .i64 t ∧ v23 = .int .i64 k) (fun _ i _ => X.length - (intOf i).toNat)
    case atStart => exact ⟨0, 0, by omega, by omega, by omega, rfl, Below.refl _ _, rfl, rfl⟩
    case round =>
      obtain ⟨k, t, hk, ht0, ht1, HT, BW, rfl, rfl⟩ := hrel
      by_cases hlt : k < X.length
      · obtain ⟨ab, ao, hab0, hadb, hcell⟩ := (RX.out.below BW.out).2 (by omega)
        simp only [Option.some.injEq, Addr.mk.injEq, and_true] at hab0
        obtain ⟨rfl, rfl⟩ := hab0
        have c0 := hcell _ _ (txC_get X k hlt)
        rw [Nat.zero_add] at c0
        clear hcell
        have HS := Lib.hid (show pdTo X Y (k + 1) = pdTo X Y k + edB X[k] (wAt Y k) by rw [pdTo, wAt_eq hlt])
        have hps := SA.out _ (List.getElem_mem hlt)
        generalize X[k] = p at c0 HS hps
        by_cases hlq : k < Y.length
        · obtain ⟨qb, qo, hqb0, hqdb, hqcell⟩ := (RY.out.below BW.out).2 (by omega)
          simp only [Option.some.injEq, Addr.mk.injEq, and_true] at hqb0
          obtain ⟨rfl, rfl⟩ := hqb0
          have d0 := hqcell _ _ (txC_get Y k hlq)
          rw [Nat.zero_add] at d0
          clear hqcell
          have hqs := SB.out _ (List.getElem_mem hlq)
          rw [wAt_eq hlq] at HS
          generalize Y[k] = q at d0 HS hqs
          have HE := Lib.hid (implEd_any p q (by omega) (by omega))
          have hbd := edB_bd p q
          generalize edB p q = z at HS HE hbd
          go_wp2_with fail
          refine (HE.out _).mono ?_; rintro e w2 ⟨rfl, b2⟩
          go_wp2_with fail
          go_roundw
          case rel => exact ⟨k + 1, t + z, by omega, by omega, by omega, HS.out.trans (by rw [HT.out]), BW.out.trans (b2.mono BW.out.size), rfl, by go_num⟩
          case measure => simp [intOf]; omega
        · rw [wAt_out (by omega), edB_nil _ _ (by decide)] at HS
          go_wp2_with fail
          go_roundw
          case rel => exact ⟨k + 1, t + p.size, by omega, by omega, by omega, HS.out.trans (by rw [HT.out]), BW.out, rfl, by go_num⟩
          case measure => simp [intOf]; omega
      · obtain rfl : k = X.length := by omega
        go_wp2_with fail
        go_ret
        exact ⟨ret_int (by rw [HF.out, HT.out]), B1.out.trans (BW.out.mono B1.out.size)⟩
set_option maxRecDepth 100000 in
set_option maxHeartbeats 2000000 in
theorem specPd_any (a b : ByteArray) (ha : a.size ≤ 1048576) (hb : b.size ≤ 1048576) (pa : phrB a = true) (pb : phrB b = true) (w : World) :
    Calls Tryd.prog 7 #[.string a, .string b] w fun e w' => e = .returned (.int .i64 (pdV a b)) ∧ Below w.heap.size w w' := by
  have HA := Lib.hid (specWords_any a (by omega))
  have HB := Lib.hid (specWords_any b (by omega))
  have HV := Lib.hid (show pdV a b = pdTo (cutB 32 a) (cutB 32 b) (max (cutB 32 a).length (cutB 32 b).length) from rfl)
  have SA := Lib.hid (phr_small pa).2
  have SB := Lib.hid (phr_small pb).2
  have la := (phr_small pa).1
  have lb := (phr_small pb).1
  rw [pa] at HA
  rw [pb] at HB
  clear pa pb
  generalize pdV a b = r at *
  generalize cutB 32 a = X at *
  generalize cutB 32 b = Y at *
  go_enter Tryd.func7, Tryd.ntmps7
  go_wp2_with fail
  refine (HA.out w).mono ?_; rintro e w1 ⟨v1, rfl, b1, o1⟩
  obtain ⟨A1, c1, rfl, _⟩ := own_shape (o1 (by first | trivial | rfl))
  have R1 := Lib.hid (Reads.of_own (o1 (by first | trivial | rfl))); have B1 := Lib.hid b1; clear o1 b1
  go_wp2_with fail
  refine (HB.out _).mono ?_; rintro e w2 ⟨v2, rfl, b2, o2⟩
  obtain ⟨A2, c2, rfl, _⟩ := own_shape (o2 (by first | trivial | rfl))
  have RX := Lib.hid ((R1.out.below b2).more b2.size); have RY := Lib.hid (Reads.of_own (o2 (by first | trivial | rfl))); have B2 := Lib.hid (B1.out.trans (b2.mono B1.out.size)); clear o2 b2
  by_cases hxy : X.length < Y.length
  · have HV2 := Lib.hid (show r = pdTo X Y Y.length by rw [HV.out, Nat.max_eq_right (by omega)])
    clear HV
    go_wp2_with fail
    go_loopw [9, 10] (fun v9 v10 wr => ∃ (k : Nat) (t : Int), k ≤ Y.length ∧ 0 ≤ t ∧ t ≤ 32 * k ∧ Hid (pdTo X Y k = t) ∧ Hid (Below w2.heap.size w2 wr) ∧ v9 = .int .i64 t ∧ v10 = .int .i64 k) (fun _ i _ => Y.length - (intOf i).toNat)
    case atStart => exact ⟨0, 0, by omega, by omega, by omega, rfl, Below.refl _ _, rfl, rfl⟩
    case round =>
      obtain ⟨k, t, hk, ht0, ht1, HT, BW, rfl, rfl⟩ := hrel
      have HS := Lib.hid (show pdTo X Y (k + 1) = pdTo X Y k + edB (wAt X k) (wAt Y k) from rfl)
      have HE := Lib.hid (specEd_any (wAt X k) (wAt Y k) (by have := wAt_small SA.out k; omega) (by have := wAt_small SB.out k; omega))
      have hbd := edB_bd (wAt X k) (wAt Y k)
      have hs1 := wAt_small SA.out k
      have hs2 := wAt_small SB.out k
      generalize edB (wAt X k) (wAt Y k) = z at HS HE hbd
      have hz32 : 0 ≤ z ∧ z ≤ 32 := by omega
      clear hbd
      rcases (show (k < X.length ∧ k < Y.length) ∨ (k < X.length ∧ ¬ k < Y.length) ∨ (¬ k < X.length ∧ k < Y.length) ∨ (¬ k < X.length ∧ ¬ k < Y.length) by omega) with ⟨h1, h2⟩ | ⟨h1, h2⟩ | ⟨h1, h2⟩ | ⟨h1, h2⟩
      · obtain ⟨xb, xo, rfl, hXdb, hXcell⟩ := (RX.out.below BW.out).2 (by omega)
        have cX := hXcell _ _ (txC_get X k h1)
        clear hXcell
        rw [wAt_eq h1] at HE hs1
        generalize X[k] = pX at cX HE hs1
        obtain ⟨yb, yo, rfl, hYdb, hYcell⟩ := (RY.out.below BW.out).2 (by omega)
        have cY := hYcell _ _ (txC_get Y k h2)
        clear hYcell
        rw [wAt_eq h2] at HE hs2
        generalize Y[k] = pY at cY HE hs2
        have hkn : (k : Int) < (Y.length : Int) := by omega
        go_wp2_with fail
        refine (HE.out _).mono ?_; rintro e w3 ⟨rfl, b3⟩
        go_wp2_with fail
        go_roundw
        case rel => exact ⟨k + 1, t + z, by omega, by omega, by omega, HS.out.trans (by rw [HT.out]), BW.out.trans (b3.mono BW.out.size), rfl, by go_num⟩
        case measure => simp [intOf]; omega
      · omega
      · rw [wAt_out (X := X) (by omega)] at HE hs1
        obtain ⟨yb, yo, rfl, hYdb, hYcell⟩ := (RY.out.below BW.out).2 (by omega)
        have cY := hYcell _ _ (txC_get Y k h2)
        clear hYcell
        rw [wAt_eq h2] at HE hs2
        generalize Y[k] = pY at cY HE hs2
        have hkn : (k : Int) < (Y.length : Int) := by omega
        go_wp2_with fail
        refine (HE.out _).mono ?_; rintro e w3 ⟨rfl, b3⟩
        go_wp2_with fail
        go_roundw
        case rel => exact ⟨k + 1, t + z, by omega, by omega, by omega, HS.out.trans (by rw [HT.out]), BW.out.trans (b3.mono BW.out.size), rfl, by go_num⟩
        case measure => simp [intOf]; omega
      · rw [wAt_out (X := X) (by omega)] at HE hs1
        rw [wAt_out (X := Y) (by omega)] at HE hs2
        obtain rfl : k = Y.length := by omega
        go_wp2_with fail
        go_ret
        exact ⟨ret_int (by rw [HV2.out, HT.out]), B2.out.trans (BW.out.mono B2.out.size)⟩
  · have HV2 := Lib.hid (show r = pdTo X Y X.length by rw [HV.out, Nat.max_eq_left (by omega)])
    clear HV
    go_wp2_with fail
    go_loopw [9, 10] (fun v9 v10 wr => ∃ (k : Nat) (t : Int), k ≤ X.length ∧ 0 ≤ t ∧ t ≤ 32 * k ∧ Hid (pdTo X Y k = t) ∧ Hid (Below w2.heap.size w2 wr) ∧ v9 = .int .i64 t ∧ v10 = .int .i64 k) (fun _ i _ => X.length - (intOf i).toNat)
    case atStart => exact ⟨0, 0, by omega, by omega, by omega, rfl, Below.refl _ _, rfl, rfl⟩
    case round =>
      obtain ⟨k, t, hk, ht0, ht1, HT, BW, rfl, rfl⟩ := hrel
      have HS := Lib.hid (show pdTo X Y (k + 1) = pdTo X Y k + edB (wAt X k) (wAt Y k) from rfl)
      have HE := Lib.hid (specEd_any (wAt X k) (wAt Y k) (by have := wAt_small SA.out k; omega) (by have := wAt_small SB.out k; omega))
      have hbd := edB_bd (wAt X k) (wAt Y k)
      have hs1 := wAt_small SA.out k
      have hs2 := wAt_small SB.out k
      generalize edB (wAt X k) (wAt Y k) = z at HS HE hbd
      have hz32 : 0 ≤ z ∧ z ≤ 32 := by omega
      clear hbd
      rcases (show (k < X.length ∧ k < Y.length) ∨ (k < X.length ∧ ¬ k < Y.length) ∨ (¬ k < X.length ∧ k < Y.length) ∨ (¬ k < X.length ∧ ¬ k < Y.length) by omega) with ⟨h1, h2⟩ | ⟨h1, h2⟩ | ⟨h1, h2⟩ | ⟨h1, h2⟩
      · obtain ⟨xb, xo, rfl, hXdb, hXcell⟩ := (RX.out.below BW.out).2 (by omega)
        have cX := hXcell _ _ (txC_get X k h1)
        clear hXcell
        rw [wAt_eq h1] at HE hs1
        generalize X[k] = pX at cX HE hs1
        obtain ⟨yb, yo, rfl, hYdb, hYcell⟩ := (RY.out.below BW.out).2 (by omega)
        have cY := hYcell _ _ (txC_get Y k h2)
        clear hYcell
        rw [wAt_eq h2] at HE hs2
        generalize Y[k] = pY at cY HE hs2
        have hkn : (k : Int) < (X.length : Int) := by omega
        go_wp2_with fail
        refine (HE.out _).mono ?_; rintro e w3 ⟨rfl, b3⟩
        go_wp2_with fail
        go_roundw
        case rel => exact ⟨k + 1, t + z, by omega, by omega, by omega, HS.out.trans (by rw [HT.out]), BW.out.trans (b3.mono BW.out.size), rfl, by go_num⟩
        case measure => simp [intOf]; omega
      · obtain ⟨xb, xo, rfl, hXdb, hXcell⟩ := (RX.out.below BW.out).2 (by omega)
        have cX := hXcell _ _ (txC_get X k h1)
        clear hXcell
        rw [wAt_eq h1] at HE hs1
        generalize X[k] = pX at cX HE hs1
        rw [wAt_out (X := Y) (by omega)] at HE hs2
        have hkn : (k : Int) < (X.length : Int) := by omega
        go_wp2_with fail
        refine (HE.out _).mono ?_; rintro e w3 ⟨rfl, b3⟩
        go_wp2_with fail
        go_roundw
        case rel => exact ⟨k + 1, t + z, by omega, by omega, by omega, HS.out.trans (by rw [HT.out]), BW.out.trans (b3.mono BW.out.size), rfl, by go_num⟩
        case measure => simp [intOf]; omega
      · omega
      · rw [wAt_out (X := X) (by omega)] at HE hs1
        rw [wAt_out (X := Y) (by omega)] at HE hs2
        obtain rfl : k = X.length := by omega
        go_wp2_with fail
        go_ret
        exact ⟨ret_int (by rw [HV2.out, HT.out]), B2.out.trans (BW.out.mono B2.out.size)⟩
end Go.Proofs.YtbhibmbcakhflaaDoor
