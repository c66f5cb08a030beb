/- A number of at least 0 in decimal: l01Dec of the reference. -/
import Derived.Test.YtnbpbidflacoiaaDoorRows
import Derived.Test.YtnbpbidflacoiaaDoorL0
import Derived.Test.YtnbpbidflacoiaaDoorM0
import Derived.WalkKit
import Derived.ProofKit
import Derived.OpenShut
import Derived.BigQuiet
import Derived.Outline
import Derived.WalkSpells
import Derived.WalkLawsBesides
import Derived.Deep.DeepCutAuto
import Derived.Test.YtnbpbidflacoiaaDoorRB
import Derived.Test.YtnbpbidflacoiaaDoorT0
import Derived.Test.YtnbpbidflacoiaaDoorDN1
import Derived.IntWalk
namespace Go.Proofs.YtnbpbidflacoiaaDoor
open Go.ChangeShapes Go.WideShapes Go.ChangeAt Go.RowKit

theorem digit_conv (W : World) (g j : Nat) (h : W.cell? ⟨g, 0, none⟩ = some (.int .u8 (48 + (j : Int) % 10))) : (convert 22 9 (.slice (some ⟨g, 0, none⟩) 1 1)).run Tryd.prog W = .ok (.string ⟨#[digB j]⟩) W := by
  have h := run_convert_bytes_back (P := Tryd.prog) W 22 9 5 ⟨g, 0, none⟩ 1 [digB j] Tryd.underlying22 Tryd.underlying5 Tryd.underlying9 (fun i hi => by
    obtain rfl : i = 0 := by simp at hi; omega
    have e : ((digB j).toNat : Int) = 48 + (j : Int) % 10 := by
      rw [digB, UInt8.toNat_ofNat', Nat.mod_eq_of_lt (by omega)]; omega
    simp only [List.getElem_cons_zero, e]
    rw [add_lit0]; exact h)
  simpa using h
theorem decN_one {i : Nat} (h : i < 10) : decN i = ⟨#[digB i]⟩ := by
  rw [decN, Lib.decDigits_one h, digB, Nat.mod_eq_of_lt h]
theorem decN_more {i : Nat} (h : ¬ i < 10) : decN i = decN (i / 10) ++ ⟨#[digB i]⟩ := by
  rw [decN, decN, Lib.decDigits, dif_neg h, digB]
  apply ByteArray.ext
  rw [ByteArray.data_append]
  simp
set_option maxRecDepth 100000 in
set_option maxHeartbeats 1000000 in
theorem specDec_any (i : Nat) : i ≤ 9223372036854775807 → ∀ w : World,
    Calls Tryd.prog 79 #[.int .i64 i] w fun e w' => e = .returned (.string (decN i)) ∧ Below w.heap.size w w' := by
  induction i using Nat.strongRecOn with
  | _ i ih =>
    intro hi w
    by_cases h1 : i < 10
    · rw [decN_one h1]
      have hcv := digit_conv (w.alloc (.cells #[.int .u8 (48 + (i : Int) % 10)] 5)) w.heap.size i (by rw [(Blk.new w 5 #[.int .u8 (48 + (i : Int) % 10)]).cell 0]; rfl)
      have e2 : (i : Int) % 10 = i := by omega
      rw [e2] at hcv
      have w1 : IntKind.i64.wrap (48 + (i : Int)) = 48 + (i : Int) := IntWalk.i64_in _ (by omega)
      clear ih
      go_enter Tryd.func79, Tryd.ntmps79
      go_wp2_with fail
      go_ret
      exact ⟨rfl, (Below.refl _ _).alloc (Nat.le_refl _) _⟩
    · have HM := Lib.hid (decN_more h1)
      have mixed : Tryd.prog.follows Departure.mixedOrders = true := by kernel_rfl
      have HC := Lib.hid (show ∀ w : World, Calls Tryd.prog 79 #[.int .i64 ((i : Int) / 10)] w fun e w' => e = .returned (.string (decN (i / 10))) ∧ Below w.heap.size w w' from by have h := ih (i / 10) (by omega) (by omega); rwa [show ((i / 10 : Nat) : Int) = (i : Int) / 10 by omega] at h)
      clear ih
      have e1 : (i : Int).tmod 10 = (i : Int) % 10 := Int.tmod_eq_emod_of_nonneg (by omega)
      have e2 : (i : Int).tdiv 10 = (i : Int) / 10 := Int.tdiv_eq_ediv_of_nonneg (by omega)
      have e3 : IntKind.i64.wrap ((i : Int) / 10) = (i : Int) / 10 := IntWalk.i64_in _ (by omega)
      have e4 : IntKind.i64.wrap (48 + (i : Int) % 10) = 48 + (i : Int) % 10 := IntWalk.i64_in _ (by omega)
      have e5 : IntKind.u8.wrap (48 + (i : Int) % 10) = 48 + (i : Int) % 10 := by rw [IntKind.wrap]; simp [IntKind.bits]; omega
      have e6 : IntKind.i64.wrap ((i : Int) % 10) = (i : Int) % 10 := IntWalk.i64_in _ (by omega)
      have n1 : ¬ (i : Int) < 10 := by omega
      have hsz : ¬ 9223372036854775807 < (decN (i / 10)).size + 1 := by
        have h3 := decN_size (i / 10)
        have h4 := nDigits_le 19 (i / 10) (by have : (10 : Nat) ^ 20 = 100000000000000000000 := by decide
                                              omega)
        have h5 : (⟨#[digB i]⟩ : ByteArray).size = 1 := rfl
        omega
      generalize hD : decN (i / 10) = D at HC hsz HM
      go_enter Tryd.func79, Tryd.ntmps79
      go_upto_region 3 with (fail)
      refine' wp_region_slots (OverW w) KeepW [isV (.int .i64 i), isV (.int .i64 ((i : Int) / 10)), isV (.string D), isV (.int .i64 i), isV (.int .i64 ((i : Int) % 10)), isV (.int .i64 (48 + (i : Int) % 10)), isV (.int .u8 (48 + (i : Int) % 10)), isNewRow w 5 #[.int .u8 (48 + (i : Int) % 10)], isV (.string ⟨#[digB i]⟩), isV (.string (D ++ ⟨#[digB i]⟩))] mixed (by kernel_rfl) (by kernel_rfl) (OverW.drew (Below.refl _ _)) ?_ _ _ ?_ ?_ ?_
      · exact AllStable.cons (keep_V _) (AllStable.cons (keep_V _) (AllStable.cons (keep_V _) (AllStable.cons (keep_V _) (AllStable.cons (keep_V _) (AllStable.cons (keep_V _) (AllStable.cons (keep_V _) (AllStable.cons (keep_row _ _ _) (AllStable.cons (keep_V _) (AllStable.cons (keep_V _) (AllStable.nil))))))))))
      rotate_left 2
      · intro f; simp only [lay, List.setIfInBounds_toArray, List.set_cons_succ, List.set_cons_zero, Nat.reduceAdd]; exact rfl
      · refine AllTo.cons ?_ ?_
        · intro f v hS hT K hK
          simp only [Act.put, List.setIfInBounds_toArray, List.set_cons_succ, List.set_cons_zero] at hK
          go_simp
          exact hK.out _ _ rfl hS (keep_refl _)
        refine AllTo.cons ?_ ?_
        · intro f v hS hT K hK
          have ea := hT 0 _ rfl rfl
          dsimp only [isV] at ea
          simp only [Act.put, List.setIfInBounds_toArray, List.set_cons_succ, List.set_cons_zero, ea] at hK
          go_simp
          exact hK.out _ _ rfl hS (keep_refl _)
        refine AllTo.cons ?_ ?_
        · intro f v hS hT K hK
          have ea := hT 1 _ rfl rfl
          dsimp only [isV] at ea
          simp only [Act.put, List.setIfInBounds_toArray, List.set_cons_succ, List.set_cons_zero, ea] at hK
          go_simp
          refine (HC.out v).mono ?_
          rintro e w1 ⟨rfl, b1⟩
          exact hK.out _ _ rfl (hS.go b1) b1
        refine AllTo.cons ?_ ?_
        · intro f v hS hT K hK
          simp only [Act.put, List.setIfInBounds_toArray, List.set_cons_succ, List.set_cons_zero] at hK
          go_simp
          exact hK.out _ _ rfl hS (keep_refl _)
        refine AllTo.cons ?_ ?_
        · intro f v hS hT K hK
          have ea := hT 3 _ rfl rfl
          dsimp only [isV] at ea
          simp only [Act.put, List.setIfInBounds_toArray, List.set_cons_succ, List.set_cons_zero, ea] at hK
          go_simp
          exact hK.out _ _ rfl hS (keep_refl _)
        refine AllTo.cons ?_ ?_
        · intro f v hS hT K hK
          have ea := hT 4 _ rfl rfl
          dsimp only [isV] at ea
          simp only [Act.put, List.setIfInBounds_toArray, List.set_cons_succ, List.set_cons_zero, ea] at hK
          go_simp
          exact hK.out _ _ rfl hS (keep_refl _)
        refine AllTo.cons ?_ ?_
        · intro f v hS hT K hK
          have ea := hT 5 _ rfl rfl
          dsimp only [isV] at ea
          simp only [Act.put, List.setIfInBounds_toArray, List.set_cons_succ, List.set_cons_zero, ea] at hK
          go_simp
          exact hK.out _ _ rfl hS (keep_refl _)
        refine AllTo.cons ?_ ?_
        · intro f v hS hT K hK
          have ea := hT 6 _ rfl rfl
          dsimp only [isV] at ea
          simp only [Act.put, List.setIfInBounds_toArray, List.set_cons_succ, List.set_cons_zero, ea] at hK
          go_simp
          exact hK.out _ _ ⟨v.heap.size, rfl, hS.size, Blk.new _ _ _⟩ (hS.new _) (keep_new _ _)
        refine AllTo.cons ?_ ?_
        · intro f v hS hT K hK
          obtain ⟨b, ea, hb, hk⟩ := hT 7 _ rfl rfl
          have hcv := digit_conv v b i (by rw [hk.cell 0]; rfl)
          simp only [Act.put, List.setIfInBounds_toArray, List.set_cons_succ, List.set_cons_zero, ea] at hK
          go_simp
          exact hK.out _ _ rfl hS (keep_refl _)
        refine AllTo.cons ?_ ?_
        · intro f v hS hT K hK
          have ea := hT 2 _ rfl rfl
          have eb := hT 8 _ rfl rfl
          dsimp only [isV] at ea eb
          simp only [Act.put, List.setIfInBounds_toArray, List.set_cons_succ, List.set_cons_zero, ea, eb] at hK
          go_simp
          exact hK.out _ _ rfl hS (keep_refl _)
        exact AllTo.nil
      · intro f v hS hT K hK
        have ea := hT 9 _ rfl
        dsimp only [isV] at ea
        go_simp
        refine hK.out _ _ ?_
        clear hT hK K ea
        go_wp2_with fail
        go_ret
        exact ⟨by rw [HM.out]; rfl, hS⟩
end Go.Proofs.YtnbpbidflacoiaaDoor
