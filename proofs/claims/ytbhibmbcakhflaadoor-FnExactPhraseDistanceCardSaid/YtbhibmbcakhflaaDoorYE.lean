/- PhraseDistance of both. -/
import Derived.Test.YtbhibmbcakhflaaDoorRows
import Derived.Test.YtbhibmbcakhflaaDoorL0
import Derived.Test.YtbhibmbcakhflaaDoorM0
import Derived.WalkKit
import Derived.ProofKit
import Derived.OpenShut
import Derived.BigQuiet
import Derived.Outline
import Derived.WalkSpells
import Derived.WalkLawsBesides
import Derived.Deep.DeepCutAuto
import Derived.Test.YtbhibmbcakhflaaDoorYD
namespace Go.Proofs.YtbhibmbcakhflaaDoor
open Go.ChangeShapes Go.WideShapes Go.ChangeAt Go.RowKit Go.Sort

def pdC (a b : ByteArray) : Int := if (phrB a && phrB b) = true then 0 else 1
def pdR (a b : ByteArray) : Int := if (phrB a && phrB b) = true then pdV a b else 0
theorem all_take_p (L : List ByteArray) (p : ByteArray → Bool) (k : Nat) (h : k < L.length) : (L.take (k + 1)).all p = ((L.take k).all p && p L[k]) := all_take_w L p k h
set_option maxRecDepth 100000 in
theorem arePhr_any (L : List ByteArray) (hm : L.length ≤ 9223372036854775807) (hL : ∀ p ∈ L, p.size ≤ 1048576) (A : Option Addr) (c : Nat) (w : World) (hr : Reads w w.heap.size 1 A L.length (txC L)) :
    Calls Tryd.prog 8 #[.slice A L.length c] w fun e w' => e = .returned (.bool (L.all phrB)) ∧ Below w.heap.size w w' := by
  have HR := Lib.hid hr; clear hr
  have HL := Lib.hid hL; clear hL
  go_enter Tryd.func8, Tryd.ntmps8
  go_wp2_with fail
  go_loopw [7] (fun v7 wr => ∃ k : Nat, k ≤ L.length ∧ Hid ((L.take k).all phrB = true) ∧ Hid (Below w.heap.size w wr) ∧ v7 = .int .i64 k) (fun i _ => L.length - (intOf i).toNat)
  case atStart => exact ⟨0, by omega, by simp [Hid], Below.refl _ _, rfl⟩
  case round =>
    obtain ⟨k, hk, HA, BW, rfl⟩ := hrel
    by_cases hlt : k < L.length
    · obtain ⟨ab, ao, rfl, hadb, hcell⟩ := (HR.out.below BW.out).2 (by omega)
      have c0 := hcell _ _ (txC_get L k hlt)
      clear hcell
      have HT := Lib.hid (all_take_w L phrB k hlt)
      have HW := Lib.hid (implPhr_any L[k] (by have := HL.out _ (List.getElem_mem hlt); omega) wr)
      have HF : Hid (phrB L[k] = false → L.all phrB = false) := fun h => by
        have h1 := HT.out
        rw [h, Bool.and_false] at h1
        rw [← List.take_append_drop (k + 1) L, List.all_append, h1, Bool.false_and]
      generalize L[k] = a at c0 HT HW HF
      cases hb : phrB a
      · have HX := Lib.hid (HF.out hb)
        rw [hb] at HW
        clear hb
        go_wp2_with fail
        refine HW.out.mono ?_; rintro e w1 ⟨rfl, b1⟩
        go_wp2_with fail
        go_ret
        exact ⟨ret_bool HX.out.symm, BW.out.trans (b1.mono BW.out.size)⟩
      · have HX := Lib.hid (show (L.take (k + 1)).all phrB = true by rw [HT.out, HA.out, hb]; rfl)
        rw [hb] at HW
        clear hb
        go_wp2_with fail
        refine HW.out.mono ?_; rintro e w1 ⟨rfl, b1⟩
        go_wp2_with fail
        go_roundw
        case rel => exact ⟨k + 1, by omega, HX.out, BW.out.trans (b1.mono BW.out.size), by go_num⟩
        case measure => simp [intOf]; omega
    · obtain rfl : k = L.length := by omega
      have HX := Lib.hid (show L.all phrB = true by have := HA.out; rwa [List.take_length] at this)
      go_wp2_with fail
      go_ret
      exact ⟨ret_bool HX.out.symm, BW.out⟩
set_option maxRecDepth 100000 in
theorem specPdT_any (a b : ByteArray) (ha : a.size ≤ 1048576) (hb : b.size ≤ 1048576) (w : World) :
    Calls Tryd.prog 4 #[.string a, .string b] w fun e w' => e = .returned (.tuple #[.int .i64 (pdR a b), .int .i64 (pdC a b)]) ∧ Below w.heap.size w w' := by
  have H1 := Lib.hid (specPhr_any a (by omega))
  have H2 := Lib.hid (specPhr_any b (by omega))
  have H3 := Lib.hid (specPd_any a b ha hb)
  have HR := Lib.hid (show pdR a b = if (phrB a && phrB b) = true then pdV a b else 0 from rfl)
  have HC := Lib.hid (show pdC a b = if (phrB a && phrB b) = true then 0 else 1 from rfl)
  generalize pdR a b = r at HR ⊢
  generalize pdC a b = c at HC ⊢
  generalize phrB a = q1 at *
  generalize phrB b = q2 at *
  cases q1 <;> cases q2
  all_goals
    have B1 := Lib.hid (Below.refl w.heap.size w)
    first | (have H4 := Lib.hid (H3.out rfl rfl)) | skip
    clear H3
    go_enter Tryd.func4, Tryd.ntmps4
    go_wp2_with (first | (go_at_call 6; ((with_reducible refine (H1.out _).mono ?_); rintro e wn ⟨rfl, bn⟩; (have B1 := Lib.hid (B1.out.trans (bn.mono B1.out.size))); clear bn)) | (go_at_call 6; ((with_reducible refine (H2.out _).mono ?_); rintro e wn ⟨rfl, bn⟩; (have B1 := Lib.hid (B1.out.trans (bn.mono B1.out.size))); clear bn)) | (go_at_call 7; refine (H4.out _).mono ?_; rintro e wn ⟨rfl, bn⟩; (have B1 := Lib.hid (B1.out.trans (bn.mono B1.out.size))); clear bn) | fail)
    go_ret2
    exact ⟨ret_int2 (by rw [HR.out]; rfl) (by rw [HC.out]; rfl), B1.out⟩
theorem implPdT_any (a b : ByteArray) (ha : a.size ≤ 1048576) (hb : b.size ≤ 1048576) (w : World) :
    Calls Tryd.prog 5 #[.string a, .string b] w fun e w' => e = .returned (.tuple #[.int .i64 (pdR a b), .int .i64 (pdC a b)]) ∧ Below w.heap.size w w' := by
  have H1 := Lib.hid (fun A c w hr => arePhr_any [a, b] (by simp) (by simp; omega) A c w hr)
  have H3 := Lib.hid (fun (h : [a, b].all phrB = true) => implPd_any a b ha hb (by simp at h; exact h.1) (by simp at h; exact h.2))
  have HR := Lib.hid (show pdR a b = if [a, b].all phrB = true then pdV a b else 0 by unfold pdR; simp)
  have HC := Lib.hid (show pdC a b = if [a, b].all phrB = true then 0 else 1 by unfold pdC; simp)
  have KN := Lib.hid (blks_one w 9 #[.string a, .string b])
  generalize pdR a b = r at HR ⊢
  generalize pdC a b = c at HC ⊢
  generalize [a, b].all phrB = q at *
  cases q
  all_goals
    first | (have H4 := Lib.hid (H3.out rfl)) | skip
    clear H3
    go_enter Tryd.func5, Tryd.ntmps5
    go_wp2_with fail
    generalize hW : w.alloc (.cells #[.string a, .string b] 9) = W
    obtain ⟨b2, bw, _⟩ := KN.out W hW.symm
    clear hW
    refine (H1.out _ _ W (blk_rd (L := [.string a, .string b]) b2 rfl)).mono ?_; rintro e w1 ⟨rfl, bn⟩
    have B1 := Lib.hid (bw.trans (bn.mono bw.size))
    clear b2 bw bn
    go_wp2_with (first | (go_at_call 9; refine (H4.out _).mono ?_; rintro e wn ⟨rfl, bn⟩; (have B1 := Lib.hid (B1.out.trans (bn.mono B1.out.size))); clear bn) | fail)
    go_ret2
    exact ⟨ret_int2 (by rw [HR.out]; rfl) (by rw [HC.out]; rfl), B1.out⟩
end Go.Proofs.YtbhibmbcakhflaaDoor
