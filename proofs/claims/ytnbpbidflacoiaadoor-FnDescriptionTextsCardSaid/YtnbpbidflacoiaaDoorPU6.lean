/- l01Damage of the reference: a text, slightly turned. -/
import Derived.Test.YtnbpbidflacoiaaDoorRows
import Derived.Test.YtnbpbidflacoiaaDoorL0
import Derived.Test.YtnbpbidflacoiaaDoorM0
import Derived.WalkKit
import Derived.ProofKit
import Derived.OpenShut
import Derived.BigQuiet
import Derived.Outline
import Derived.WalkSpells
import Derived.WalkLawsBesides
import Derived.Deep.DeepCutAuto
import Derived.Test.YtnbpbidflacoiaaDoorPUR
import Derived.Test.YtnbpbidflacoiaaDoorRX
namespace Go.Proofs.YtnbpbidflacoiaaDoor
open Go.ChangeShapes Go.WideShapes Go.ChangeAt Go.RowKit

set_option maxRecDepth 100000 in
set_option maxHeartbeats 2000000 in
theorem damage_any (t : ByteArray) (ht : t.size ≤ 1000) (B g : Nat) (w : World) (hs : Src w B g) (hB : B ≤ w.heap.size) :
    Calls Tryd.prog 71 #[.pointer (some ⟨g, 0, none⟩), .string t] w (DrawnS 2200 w B g) := by
  have mixed : Tryd.prog.follows Departure.mixedOrders = true := by kernel_rfl
  have hgl := hs.lt
  have S0 := Lib.hid hs; clear hs
  have N0 := Lib.hid (only_refl w g)
  go_enter Tryd.func71, Tryd.ntmps71
  have hw0 : IntKind.i64.wrap ((t.size : Int) + 1) = (t.size : Int) + 1 := IntWalk.i64_in _ (by omega)
  go_wp2_with fail
  refine (draw_any ((t.size : Int) + 1) B g w S0.out hB).mono ?_
  rintro e w1 ⟨x, rfl, x0, x1, x2, hs1, ho1⟩
  have hx : x ≤ (t.size : Int) := by
    by_cases h0 : t.size = 0
    · have := x2 (by omega); omega
    · have := x1 (by omega); omega
  clear x1 x2 hw0
  obtain ⟨k, rfl⟩ : ∃ k : Nat, x = k := ⟨x.toNat, by omega⟩
  have N1 := Lib.hid (only_trans N0.out ho1)
  have S1 := Lib.hid hs1
  have szq1 : w.heap.size ≤ w1.heap.size := by have := ho1.size; (try simp at this); omega
  clear ho1 hs1 S0 N0
  go_wp2_with fail
  refine (draw_any 8 B g w1 S1.out (by omega)).mono ?_
  rintro e w2 ⟨y, rfl, y0, y1, _, hs2, ho2⟩
  have hy := y1 (by omega)
  clear y1
  have N2 := Lib.hid (only_trans N1.out ho2)
  have S2 := Lib.hid hs2
  have szq2 : w1.heap.size ≤ w2.heap.size := by have := ho2.size; (try simp at this); omega
  clear ho2 hs2 S1 N1
  obtain rfl | rfl | rfl | hy3 : y = 0 ∨ y = 1 ∨ y = 2 ∨ 3 ≤ y := by omega
  · have hk0 : (0 : Int) ≤ (k : Int) := by omega
    go_wp2_with fail
    go_ret
    exact ⟨_, rfl, by simp only [ByteArray.size_extract]; omega, S2.out, N2.out⟩
  · skip
    go_upto_region 6 with (fail)
    have hWB : B ≤ w2.heap.size := by omega
    have hgW : g < w2.heap.size := by omega
    have hS0 : SrcOnly w2 B g w2.drew := SrcOnly.drew ⟨S2.out, only_refl _ _⟩
    refine' wp_region_slots (SrcOnly w2 B g) (fun w w' => Only w w' g) [isV (.string t), isV (.int .i64 (k : Int)), isStr 1000, isRow 9 w2.heap.size [.string ⟨#[48]⟩, .string ⟨#[35]⟩, .string ⟨#[46]⟩, .string ⟨#[47]⟩, .string ⟨#[32]⟩, .string ⟨#[97]⟩, .string ⟨#[45]⟩, .string ⟨#[10]⟩], isV (.pointer (some ⟨g, 0, none⟩)), isInt (0) (7), isAt 9 w2.heap.size [.string ⟨#[48]⟩, .string ⟨#[35]⟩, .string ⟨#[46]⟩, .string ⟨#[47]⟩, .string ⟨#[32]⟩, .string ⟨#[97]⟩, .string ⟨#[45]⟩, .string ⟨#[10]⟩], isStr 100, isStr (1000 + 100), isV (.string t), isV (.int .i64 (k : Int)), isStr 1000, isStr ((1000 + 100) + 1000)] mixed (by kernel_rfl) (by kernel_rfl) hS0 ?_ _ _ ?_ ?_ ?_
    · exact AllStable.cons (stable_V _ _) (AllStable.cons (stable_V _ _) (AllStable.cons (stable_Str _ _) (AllStable.cons (stable_Row _ (by omega) _ _) (AllStable.cons (stable_V _ _) (AllStable.cons (stable_Int _ _ _) (AllStable.cons (stable_At _ (by omega) _ _) (AllStable.cons (stable_Str _ _) (AllStable.cons (stable_Str _ _) (AllStable.cons (stable_V _ _) (AllStable.cons (stable_V _ _) (AllStable.cons (stable_Str _ _) (AllStable.cons (stable_Str _ _) (AllStable.nil)))))))))))))
    rotate_left 2
    · intro f; simp only [lay, List.setIfInBounds_toArray, List.set_cons_succ, List.set_cons_zero, Nat.reduceAdd]; exact rfl
    · refine AllTo.cons ?_ ?_
      · intro f v3 hS hT K hK
        simp only [Act.put, List.setIfInBounds_toArray, List.set_cons_succ, List.set_cons_zero] at hK
        go_simp
        exact hK.out _ _ (rfl) hS (only_refl _ _)
      refine AllTo.cons ?_ ?_
      · intro f v3 hS hT K hK
        simp only [Act.put, List.setIfInBounds_toArray, List.set_cons_succ, List.set_cons_zero] at hK
        go_simp
        exact hK.out _ _ (rfl) hS (only_refl _ _)
      refine AllTo.cons ?_ ?_
      · intro f v3 hS hT K hK
        have ea := hT 0 _ rfl rfl
        dsimp only [isV] at ea
        have ei := hT 1 _ rfl rfl
        dsimp only [isV] at ei
        have hk0 : (0 : Int) ≤ (k : Int) := by omega
        have hkn : (k : Int) ≤ (t.size : Int) := by omega
        simp only [Act.put, List.setIfInBounds_toArray, List.set_cons_succ, List.set_cons_zero, ea, ei] at hK
        go_simp
        exact hK.out _ _ (⟨_, rfl, by simp only [ByteArray.size_extract]; omega⟩) hS (only_refl _ _)
      refine AllTo.cons ?_ ?_
      · intro f v3 hS hT K hK
        simp only [Act.put, List.setIfInBounds_toArray, List.set_cons_succ, List.set_cons_zero] at hK
        go_simp
        exact hK.out _ _ ⟨v3.heap.size, rfl, hS.2.size, Blk.new _ _ _⟩ (hS.alloc _).1 (hS.alloc _).2
      refine AllTo.cons ?_ ?_
      · intro f v3 hS hT K hK
        simp only [Act.put, List.setIfInBounds_toArray, List.set_cons_succ, List.set_cons_zero] at hK
        go_simp
        exact hK.out _ _ (rfl) hS (only_refl _ _)
      refine AllTo.cons ?_ ?_
      · intro f v3 hS hT K hK
        have e0 := hT 4 _ rfl rfl
        dsimp only [isV] at e0
        simp only [Act.put, List.setIfInBounds_toArray, List.set_cons_succ, List.set_cons_zero, e0] at hK
        go_simp
        refine (draw_any 8 B g v3 hS.1 (Nat.le_trans hWB hS.2.size)).mono ?_
        rintro e w1 ⟨x, rfl, x0, x1, _, hs1, ho1⟩
        exact hK.out _ _ ⟨x, rfl, x0, by have := x1 (by omega); omega⟩ (hS.go hs1 ho1) ho1
      refine AllTo.cons ?_ ?_
      · intro f v3 hS hT K hK
        obtain ⟨ba, ea, na, ka⟩ := hT 3 _ rfl rfl
        obtain ⟨xi, ei, li, ui⟩ := hT 5 _ rfl rfl
        obtain ⟨k, rfl⟩ : ∃ k : Nat, xi = k := ⟨xi.toNat, by omega⟩
        have hkn : (k : Int) < 8 := by omega
        simp only [Act.put, List.setIfInBounds_toArray, List.set_cons_succ, List.set_cons_zero, ea, ei] at hK
        go_simp
        exact hK.out _ _ ⟨ba, k, rfl, by simp; omega, na, ka⟩ hS (only_refl _ _)
      refine AllTo.cons ?_ ?_
      · intro f v3 hS hT K hK
        obtain ⟨ba, ia, ea, ta, na, ka⟩ := hT 6 _ rfl rfl
        obtain ⟨s, hc, hsz⟩ := strs_at (n := 100) rfl ka ta
        simp only [Act.put, List.setIfInBounds_toArray, List.set_cons_succ, List.set_cons_zero, ea] at hK
        go_simp
        exact hK.out _ _ (⟨s, rfl, hsz⟩) hS (only_refl _ _)
      refine AllTo.cons ?_ ?_
      · intro f v3 hS hT K hK
        obtain ⟨sa, ea, za⟩ := hT 2 _ rfl rfl
        obtain ⟨sb, eb, zb⟩ := hT 7 _ rfl rfl
        have hcc : ¬ 9223372036854775807 < sa.size + sb.size := by omega
        simp only [Act.put, List.setIfInBounds_toArray, List.set_cons_succ, List.set_cons_zero, ea, eb] at hK
        go_simp
        exact hK.out _ _ (⟨_, rfl, by rw [ByteArray.size_append]; omega⟩) hS (only_refl _ _)
      refine AllTo.cons ?_ ?_
      · intro f v3 hS hT K hK
        simp only [Act.put, List.setIfInBounds_toArray, List.set_cons_succ, List.set_cons_zero] at hK
        go_simp
        exact hK.out _ _ (rfl) hS (only_refl _ _)
      refine AllTo.cons ?_ ?_
      · intro f v3 hS hT K hK
        simp only [Act.put, List.setIfInBounds_toArray, List.set_cons_succ, List.set_cons_zero] at hK
        go_simp
        exact hK.out _ _ (rfl) hS (only_refl _ _)
      refine AllTo.cons ?_ ?_
      · intro f v3 hS hT K hK
        have ea := hT 9 _ rfl rfl
        dsimp only [isV] at ea
        have ei := hT 10 _ rfl rfl
        dsimp only [isV] at ei
        have hk0 : (0 : Int) ≤ (k : Int) := by omega
        have hkn : (k : Int) ≤ (t.size : Int) := by omega
        simp only [Act.put, List.setIfInBounds_toArray, List.set_cons_succ, List.set_cons_zero, ea, ei] at hK
        go_simp
        exact hK.out _ _ (⟨_, rfl, by simp only [ByteArray.size_extract]; omega⟩) hS (only_refl _ _)
      refine AllTo.cons ?_ ?_
      · intro f v3 hS hT K hK
        obtain ⟨sa, ea, za⟩ := hT 8 _ rfl rfl
        obtain ⟨sb, eb, zb⟩ := hT 11 _ rfl rfl
        have hcc : ¬ 9223372036854775807 < sa.size + sb.size := by omega
        simp only [Act.put, List.setIfInBounds_toArray, List.set_cons_succ, List.set_cons_zero, ea, eb] at hK
        go_simp
        exact hK.out _ _ (⟨_, rfl, by rw [ByteArray.size_append]; omega⟩) hS (only_refl _ _)
      exact AllTo.nil
    · intro f v3 hS hT K hK
      skip
      have S3 := Lib.hid hS.1
      have N3 := Lib.hid (only_trans N2.out hS.2)
      have szq3 := hS.2.size
      clear hS S2 N2
      obtain ⟨s, es, zs⟩ := hT 12 _ rfl
      go_simp
      refine hK.out _ _ ?_
      clear hT hK K es
      go_wp2_with fail
      go_ret
      exact ⟨s, rfl, by omega, S3.out, N3.out⟩
  · by_cases hlt : k < t.size
    · have hyes : (k : Int) < (t.size : Int) := by omega
      go_upto_region 9 with (fail)
      have hWB : B ≤ w2.heap.size := by omega
      have hgW : g < w2.heap.size := by omega
      have hS0 : SrcOnly w2 B g w2.drew := SrcOnly.drew ⟨S2.out, only_refl _ _⟩
      refine' wp_region_slots (SrcOnly w2 B g) (fun w w' => Only w w' g) [isV (.string t), isV (.int .i64 (k : Int)), isStr 1000, isV (.string t), isV (.int .i64 (k : Int)), isV (.int .i64 ((k : Int) + 1)), isStr 1000, isStr (1000 + 1000)] mixed (by kernel_rfl) (by kernel_rfl) hS0 ?_ _ _ ?_ ?_ ?_
      · exact AllStable.cons (stable_V _ _) (AllStable.cons (stable_V _ _) (AllStable.cons (stable_Str _ _) (AllStable.cons (stable_V _ _) (AllStable.cons (stable_V _ _) (AllStable.cons (stable_V _ _) (AllStable.cons (stable_Str _ _) (AllStable.cons (stable_Str _ _) (AllStable.nil))))))))
      rotate_left 2
      · intro f; simp only [lay, List.setIfInBounds_toArray, List.set_cons_succ, List.set_cons_zero, Nat.reduceAdd]; exact rfl
      · refine AllTo.cons ?_ ?_
        · intro f v3 hS hT K hK
          simp only [Act.put, List.setIfInBounds_toArray, List.set_cons_succ, List.set_cons_zero] at hK
          go_simp
          exact hK.out _ _ (rfl) hS (only_refl _ _)
        refine AllTo.cons ?_ ?_
        · intro f v3 hS hT K hK
          simp only [Act.put, List.setIfInBounds_toArray, List.set_cons_succ, List.set_cons_zero] at hK
          go_simp
          exact hK.out _ _ (rfl) hS (only_refl _ _)
        refine AllTo.cons ?_ ?_
        · intro f v3 hS hT K hK
          have ea := hT 0 _ rfl rfl
          dsimp only [isV] at ea
          have ei := hT 1 _ rfl rfl
          dsimp only [isV] at ei
          have hk0 : (0 : Int) ≤ (k : Int) := by omega
          have hkn : (k : Int) ≤ (t.size : Int) := by omega
          simp only [Act.put, List.setIfInBounds_toArray, List.set_cons_succ, List.set_cons_zero, ea, ei] at hK
          go_simp
          exact hK.out _ _ (⟨_, rfl, by simp only [ByteArray.size_extract]; omega⟩) hS (only_refl _ _)
        refine AllTo.cons ?_ ?_
        · intro f v3 hS hT K hK
          simp only [Act.put, List.setIfInBounds_toArray, List.set_cons_succ, List.set_cons_zero] at hK
          go_simp
          exact hK.out _ _ (rfl) hS (only_refl _ _)
        refine AllTo.cons ?_ ?_
        · intro f v3 hS hT K hK
          simp only [Act.put, List.setIfInBounds_toArray, List.set_cons_succ, List.set_cons_zero] at hK
          go_simp
          exact hK.out _ _ (rfl) hS (only_refl _ _)
        refine AllTo.cons ?_ ?_
        · intro f v3 hS hT K hK
          have ea := hT 4 _ rfl rfl
          dsimp only [isV] at ea
          have hw : IntKind.i64.wrap ((k : Int) + 1) = (k : Int) + 1 := IntWalk.i64_in _ (by omega)
          simp only [Act.put, List.setIfInBounds_toArray, List.set_cons_succ, List.set_cons_zero, ea] at hK
          go_simp
          exact hK.out _ _ (rfl) hS (only_refl _ _)
        refine AllTo.cons ?_ ?_
        · intro f v3 hS hT K hK
          have ea := hT 3 _ rfl rfl
          dsimp only [isV] at ea
          have ei := hT 5 _ rfl rfl
          dsimp only [isV] at ei
          have hk0 : (0 : Int) ≤ ((k : Int) + 1) := by omega
          have hkn : ((k : Int) + 1) ≤ (t.size : Int) := by omega
          simp only [Act.put, List.setIfInBounds_toArray, List.set_cons_succ, List.set_cons_zero, ea, ei] at hK
          go_simp
          exact hK.out _ _ (⟨_, rfl, by simp only [ByteArray.size_extract]; omega⟩) hS (only_refl _ _)
        refine AllTo.cons ?_ ?_
        · intro f v3 hS hT K hK
          obtain ⟨sa, ea, za⟩ := hT 2 _ rfl rfl
          obtain ⟨sb, eb, zb⟩ := hT 6 _ rfl rfl
          have hcc : ¬ 9223372036854775807 < sa.size + sb.size := by omega
          simp only [Act.put, List.setIfInBounds_toArray, List.set_cons_succ, List.set_cons_zero, ea, eb] at hK
          go_simp
          exact hK.out _ _ (⟨_, rfl, by rw [ByteArray.size_append]; omega⟩) hS (only_refl _ _)
        exact AllTo.nil
      · intro f v3 hS hT K hK
        skip
        have S3 := Lib.hid hS.1
        have N3 := Lib.hid (only_trans N2.out hS.2)
        have szq3 := hS.2.size
        clear hS S2 N2
        obtain ⟨s, es, zs⟩ := hT 7 _ rfl
        go_simp
        refine hK.out _ _ ?_
        clear hT hK K es
        go_wp2_with fail
        go_ret
        exact ⟨s, rfl, by omega, S3.out, N3.out⟩
    · have hno : ¬ (k : Int) < (t.size : Int) := by omega
      go_wp2_with fail
      go_ret
      exact ⟨t, rfl, by omega, S2.out, N2.out⟩
  · skip
    have e0 : (y == 0) = false := by simp; omega
    have e1 : (y == 1) = false := by simp; omega
    have e2 : (y == 2) = false := by simp; omega
    go_wp2_with fail
    go_ret
    exact ⟨t, rfl, by omega, S2.out, N2.out⟩
end Go.Proofs.YtnbpbidflacoiaaDoor
