/- Words joined by blanks: l01Words of the reference, with what it returns. -/
import Derived.Test.YteeonojcihcfiaaDoorRows
import Derived.Test.YteeonojcihcfiaaDoorK9GA
import Derived.WalkKit
import Derived.ProofKit
import Derived.OpenShut
import Derived.BigQuiet
import Derived.Outline
import Derived.WalkSpells
import Derived.WalkLawsBesides
import Derived.Deep.DeepCutAuto
import Derived.Test.YteeonojcihcfiaaDoorK9DN4
namespace Go.Proofs.YteeonojcihcfiaaDoor
open Go.ChangeShapes Go.WideShapes Go.ChangeAt Go.RowKit

theorem joinL_snoc (c : UInt8) : ∀ (L : List (List UInt8)) (a : List UInt8), L ≠ [] → joinL c (L ++ [a]) = joinL c L ++ c :: a
  | [], _, h => absurd rfl h
  | [x], a, _ => rfl
  | x :: y :: r, a, _ => by
    rw [List.cons_append, joinL_cons _ _ _ (by simp), joinL_snoc c (y :: r) a (by simp), joinL_cons c x (y :: r) (by simp), List.append_assoc]
    rfl
theorem joinB_one (s : ByteArray) : joinB [s] = s := ba_list rfl
theorem joinB_nil : joinB [] = ⟨#[]⟩ := rfl
theorem joinB_snoc {L : List ByteArray} (h : L ≠ []) (s : ByteArray) : joinB (L ++ [s]) = joinB L ++ ⟨#[32]⟩ ++ s := by
  apply ba_list
  show joinL 32 ((L ++ [s]).map fun p => p.data.toList) = _
  rw [List.map_append, List.map_cons, List.map_nil, joinL_snoc _ _ _ (by simpa using h)]
  simp [joinB, ByteArray.data_append]
theorem joinB_zero (s : ByteArray) : (⟨#[]⟩ : ByteArray) ++ s = joinB [s] := by
  rw [joinB_one]
  apply ba_list
  simp [ByteArray.data_append]
theorem joinB_size (L : List ByteArray) (h : ∀ s ∈ L, s.size ≤ 300) : (joinB L).size ≤ L.length * 301 := by
  have key : ∀ M : List (List UInt8), (∀ a ∈ M, a.length ≤ 300) → (joinL 32 M).length ≤ M.length * 301 := by
    intro M
    induction M with
    | nil => intro _; simp [joinL]
    | cons a r ih =>
      intro hm
      cases r with
      | nil => have := hm a (by simp); simp [joinL]; omega
      | cons b t =>
        have h1 := hm a (by simp)
        have h2 := ih (fun x hx => hm x (by simp [hx]))
        rw [joinL, List.length_append, List.length_cons, List.length_cons]
        omega
  have := key (L.map fun p => p.data.toList) (by
    intro a ha
    rw [List.mem_map] at ha
    obtain ⟨p, hp, rfl⟩ := ha
    have := h p hp
    rwa [Lib.size_eq] at this)
  rw [List.length_map] at this
  exact this
theorem txC_at (L : List ByteArray) (k : Nat) (h : k < L.length) : (txC L)[k]? = some (.string L[k]) := by simp [txC, h]
set_option maxRecDepth 100000 in
theorem specWords_any (L : List ByteArray) (hL : ∀ s ∈ L, s.size ≤ 300) (hl : L.length ≤ 100) (A : Option Addr) (c : Nat) (w : World) (hr : Reads w w.heap.size 1 A L.length (txC L)) :
    Calls Tryd.prog 39 #[.slice A L.length c] w fun e w' => e = .returned (.string (joinB L)) ∧ Below w.heap.size w w' := by
  have HR := Lib.hid hr; have HL := Lib.hid hL; clear hr hL
  go_enter Tryd.func39, Tryd.ntmps39
  go_wp2_with fail
  go_loopw [3, 4] (fun v3 v4 wr => ∃ (s : ByteArray) (k : Nat), k ≤ L.length ∧ s.size ≤ k * 301 ∧ Hid (joinB (L.take k) = s) ∧ v3 = .string s ∧ Hid (Below w.heap.size w wr) ∧ v4 = .int .i64 (k : Int)) (fun _ i _ => L.length - (intOf i).toNat)
  case atStart => exact ⟨⟨#[]⟩, 0, by omega, Nat.le_refl _, rfl, rfl, Below.refl _ _, rfl⟩
  case round =>
    obtain ⟨s, k, hk, hsz, HJ, rfl, BW, rfl⟩ := hrel
    by_cases hlt : k < L.length
    · obtain ⟨ab, ao, rfl, hadb, hcell⟩ := (HR.out.below BW.out).2 (by omega)
      have c0 := hcell _ _ (txC_at L k hlt)
      have htz := HL.out _ (List.getElem_mem hlt)
      have HT := Lib.hid (List.take_succ_eq_append_getElem hlt)
      clear hcell
      generalize L[k] = t at c0 htz HT
      by_cases hpos : 0 < k
      · have hp1 : (0 : Int) < (k : Int) := by omega
        have HN := Lib.hid (show joinB (L.take (k + 1)) = s ++ ⟨#[32]⟩ ++ t by
          rw [HT.out, joinB_snoc (fun e => by have h0 : (L.take k).length = k := (by rw [List.length_take]; omega); rw [e] at h0; have h1 : (0 : Nat) = k := h0; omega), HJ.out])
        clear HT HJ
        go_wp2_with fail
        go_roundw
        case rel => exact ⟨_, k + 1, by omega, by rw [ByteArray.size_append, ByteArray.size_append, show (ByteArray.mk #[32]).size = 1 from rfl]; omega, HN.out, rfl, BW.out, by go_num⟩
        case measure => simp [intOf]; omega
      · have hp1 : ¬ (0 : Int) < (k : Int) := by omega
        have HN := Lib.hid (show joinB (L.take (k + 1)) = s ++ t by
          have hk0 : k = 0 := by omega
          have h1 := HJ.out
          have h2 := HT.out
          rw [hk0] at h1 h2 ⊢
          rw [List.take_zero, joinB_nil] at h1
          rw [h2, List.take_zero, List.nil_append, ← h1, joinB_zero])
        clear HT HJ
        go_wp2_with fail
        go_roundw
        case rel => exact ⟨_, k + 1, by omega, by rw [ByteArray.size_append]; omega, HN.out, rfl, BW.out, by go_num⟩
        case measure => simp [intOf]; omega
    · obtain rfl : k = L.length := by omega
      have HN := HJ.out
      rw [List.take_length] at HN
      go_wp2_with fail
      go_ret
      exact ⟨by rw [HN]; rfl, BW.out⟩
end Go.Proofs.YteeonojcihcfiaaDoor
