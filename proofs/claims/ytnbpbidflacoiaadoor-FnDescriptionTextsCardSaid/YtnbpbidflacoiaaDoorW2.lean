/- IsWord, of the reference and of the program. -/
import Derived.Test.YtnbpbidflacoiaaDoorRows
import Derived.Test.YtnbpbidflacoiaaDoorL0
import Derived.Test.YtnbpbidflacoiaaDoorM0
import Derived.WalkKit
import Derived.ProofKit
import Derived.OpenShut
import Derived.BigQuiet
import Derived.Outline
import Derived.WalkSpells
import Derived.WalkLawsBesides
import Derived.Deep.DeepCutAuto
import Derived.Test.YtnbpbidflacoiaaDoorA1
import Derived.Test.YtnbpbidflacoiaaDoorW0
import Derived.Test.YtnbpbidflacoiaaDoorW1
import Derived.Lib.Hide
namespace Go.Proofs.YtnbpbidflacoiaaDoor
open Go.ChangeShapes Go.WideShapes Go.ChangeAt Go.RowKit Go.Shelf

def smallB (c : UInt8) : Bool := decide (97 ≤ c.toNat) && decide (c.toNat ≤ 122)
def smalls (s : ByteArray) : Bool := s.data.toList.all smallB
def wordB (s : ByteArray) : Bool := smalls s && inB s.size 1 16
theorem specIn_any (x lo hi : Int) (w : World) : Calls Tryd.prog 75 #[.int .i64 x, .int .i64 lo, .int .i64 hi] w fun e w' => e = .returned (.bool (inB x lo hi)) ∧ w = w' := by
  go_enter Tryd.func75, Tryd.ntmps75
  go_upto_region 9999 with ((with_reducible refine at_list ?_); (first | (refine gl_t _ (by exact rfl) (by exact rfl) (by exact rfl) (by exact rfl) (by intro hc hv K hK; (first | (refine lmove (by exact rfl) (by exact rfl) (by first | exact gs hc | exact gs hg | exact gs (by simp [hc]) | exact gs (by simp [hc, hg]) | exact rfl) ?_; exact hK) | (refine lwpick_and (by exact rfl) (by exact rfl) (by first | exact rfl | exact gs hc | exact gs hg | exact gs (by simp [hc]) | exact gs (by simp [hc, hg])) (by intro hb; first | exact rfl | exact gs hb | exact gs hc | exact gs hg | exact gs (by simp [hb, hc]) | exact gs (by simp [hb, hc, hg])) ?_; exact hK) | (refine lwpick_or (by exact rfl) (by exact rfl) (by first | exact rfl | exact gs hc | exact gs hg | exact gs (by simp [hc]) | exact gs (by simp [hc, hg])) (by intro hb; first | exact rfl | exact gs hb | exact gs hc | exact gs hg | exact gs (by simp [hb, hc]) | exact gs (by simp [hb, hc, hg])) ?_; exact hK) | (clear hc; (try clear hg); go_step; exact hK) | ((try have hc' := hc; simp at hc'); (try have hg' := hg; simp at hg'); go_step; exact hK))) ?_; (intro l' hl; simp only [List.set_cons_succ, List.set_cons_zero] at hl; subst hl)) | (refine gl_f _ (by exact rfl) (by exact rfl) (by exact rfl) (by exact rfl) (by intro hc hv K hK; (first | (refine lmove (by exact rfl) (by exact rfl) (by first | exact gs hc | exact gs hg | exact gs (by simp [hc]) | exact gs (by simp [hc, hg]) | exact rfl) ?_; exact hK) | (refine lwpick_and (by exact rfl) (by exact rfl) (by first | exact rfl | exact gs hc | exact gs hg | exact gs (by simp [hc]) | exact gs (by simp [hc, hg])) (by intro hb; first | exact rfl | exact gs hb | exact gs hc | exact gs hg | exact gs (by simp [hb, hc]) | exact gs (by simp [hb, hc, hg])) ?_; exact hK) | (refine lwpick_or (by exact rfl) (by exact rfl) (by first | exact rfl | exact gs hc | exact gs hg | exact gs (by simp [hc]) | exact gs (by simp [hc, hg])) (by intro hb; first | exact rfl | exact gs hb | exact gs hc | exact gs hg | exact gs (by simp [hb, hc]) | exact gs (by simp [hb, hc, hg])) ?_; exact hK) | (clear hc; (try clear hg); go_step; exact hK) | ((try have hc' := hc; simp at hc'); (try have hg' := hg; simp at hg'); go_step; exact hK))) ?_; (intro l' hl; simp only [List.set_cons_succ, List.set_cons_zero] at hl; subst hl)) | (refine gl_t2 _ (by exact rfl) (by exact rfl) (by exact rfl) (by exact rfl) (by intro hg hc hv hv2 K hK; (first | (refine lmove (by exact rfl) (by exact rfl) (by first | exact gs hc | exact gs hg | exact gs (by simp [hc]) | exact gs (by simp [hc, hg]) | exact rfl) ?_; exact hK) | (refine lwpick_and (by exact rfl) (by exact rfl) (by first | exact rfl | exact gs hc | exact gs hg | exact gs (by simp [hc]) | exact gs (by simp [hc, hg])) (by intro hb; first | exact rfl | exact gs hb | exact gs hc | exact gs hg | exact gs (by simp [hb, hc]) | exact gs (by simp [hb, hc, hg])) ?_; exact hK) | (refine lwpick_or (by exact rfl) (by exact rfl) (by first | exact rfl | exact gs hc | exact gs hg | exact gs (by simp [hc]) | exact gs (by simp [hc, hg])) (by intro hb; first | exact rfl | exact gs hb | exact gs hc | exact gs hg | exact gs (by simp [hb, hc]) | exact gs (by simp [hb, hc, hg])) ?_; exact hK) | (clear hc; (try clear hg); go_step; exact hK) | ((try have hc' := hc; simp at hc'); (try have hg' := hg; simp at hg'); go_step; exact hK))) ?_; (intro l' hl; simp only [List.set_cons_succ, List.set_cons_zero] at hl; subst hl)) | (refine gl_f2 _ (by exact rfl) (by exact rfl) (by exact rfl) (by exact rfl) (by intro hg hc hv hv2 K hK; (first | (refine lmove (by exact rfl) (by exact rfl) (by first | exact gs hc | exact gs hg | exact gs (by simp [hc]) | exact gs (by simp [hc, hg]) | exact rfl) ?_; exact hK) | (refine lwpick_and (by exact rfl) (by exact rfl) (by first | exact rfl | exact gs hc | exact gs hg | exact gs (by simp [hc]) | exact gs (by simp [hc, hg])) (by intro hb; first | exact rfl | exact gs hb | exact gs hc | exact gs hg | exact gs (by simp [hb, hc]) | exact gs (by simp [hb, hc, hg])) ?_; exact hK) | (refine lwpick_or (by exact rfl) (by exact rfl) (by first | exact rfl | exact gs hc | exact gs hg | exact gs (by simp [hc]) | exact gs (by simp [hc, hg])) (by intro hb; first | exact rfl | exact gs hb | exact gs hc | exact gs hg | exact gs (by simp [hb, hc]) | exact gs (by simp [hb, hc, hg])) ?_; exact hK) | (clear hc; (try clear hg); go_step; exact hK) | ((try have hc' := hc; simp at hc'); (try have hg' := hg; simp at hg'); go_step; exact hK))) ?_; (intro l' hl; simp only [List.set_cons_succ, List.set_cons_zero] at hl; subst hl)) | (refine lpick_and (by exact rfl) (by exact rfl) (by exact rfl) (by exact rfl) (by intro hb; first | exact rfl | exact gs hb) ?_; (intro l' hl; simp only [List.set_cons_succ, List.set_cons_zero] at hl; subst hl)) | (refine lpick_or (by exact rfl) (by exact rfl) (by exact rfl) (by exact rfl) (by intro hb; first | exact rfl | exact gs hb | exact gs (by simp [hb])) ?_; (intro l' hl; simp only [List.set_cons_succ, List.set_cons_zero] at hl; subst hl))))
  go_ret
  exact ⟨by simp [inB], rfl⟩

theorem all_take (l : List UInt8) (k : Nat) (h : k < l.length) : (l.take (k + 1)).all smallB = ((l.take k).all smallB && smallB l[k]) := by
  rw [List.take_succ_eq_append_getElem h, List.all_append]; simp
set_option maxRecDepth 100000 in
theorem specWord_any (s : ByteArray) (w : World) (hs : s.size ≤ 9223372036854775807) :
    Calls Tryd.prog 76 #[.string s] w fun e w' => e = .returned (.bool (wordB s)) ∧ w = w' := by
  go_enter Tryd.func76, Tryd.ntmps76
  go_wp2_with fail
  go_loop [3] (fun v3 => ∃ k : Nat, k ≤ s.size ∧ Hid ((s.data.toList.take k).all smallB = true) ∧ v3 = .int .i64 k) (fun i => s.size - (intOf i).toNat)
  case atStart => exact ⟨0, by omega, by simp [Hid], rfl⟩
  case round =>
    obtain ⟨k, hk, HA, rfl⟩ := hrel
    by_cases hlt : k < s.size
    · have hl : k < s.data.toList.length := by simpa using hlt
      have HT := Lib.hid (all_take s.data.toList k hl)
      have hnx : (s.data.toList)[k] = s[k] := by simp; rfl
      rw [hnx, HA.out, Bool.true_and] at HT
      clear hnx
      have HF : Hid (smallB s[k] = false → wordB s = false) := fun h => by
        rw [h] at HT
        have hf : s.data.toList.all smallB = false := by
          rw [← List.take_append_drop (k + 1) s.data.toList, List.all_append, HT.out, Bool.false_and]
        rw [wordB, smalls, hf, Bool.false_and]
      by_cases h1 : s[k].toNat < 97
      · have HW := Lib.hid (HF.out (by simp [smallB]; omega))
        go_wp2_with fail
        go_ret
        exact ⟨ret_bool HW.out.symm, rfl⟩
      · by_cases h2 : 122 < s[k].toNat
        · have HW := Lib.hid (HF.out (by simp [smallB]; omega))
          go_wp2_with fail
          go_ret
          exact ⟨ret_bool HW.out.symm, rfl⟩
        · have HW := Lib.hid (HT.out.trans (show smallB s[k] = true by simp [smallB]; omega))
          clear HT HF
          go_wp2_with fail
          go_round
          case rel => exact ⟨k + 1, by omega, HW, by go_num⟩
          case measure => simp [intOf]; omega
    · obtain rfl : k = s.size := by omega
      have HW := Lib.hid (show wordB s = inB s.size 1 16 by
        have := HA.out
        rw [List.take_of_length_le (by simp)] at this
        rw [wordB, smalls, this, Bool.true_and])
      go_wp2_with fail
      refine (specIn_any _ _ _ _).mono ?_; rintro e w' ⟨rfl, rfl⟩
      go_wp2_with fail
      go_ret
      exact ⟨ret_bool HW.out.symm, rfl⟩
theorem dropWhile_nil {p : UInt8 → Bool} : ∀ l : List UInt8, l.dropWhile p = [] ↔ ∀ c ∈ l, p c = true
  | [] => by simp
  | a :: l => by
    rw [List.dropWhile_cons]
    by_cases h : p a = true
    · rw [if_pos h, dropWhile_nil l]; simp [h]
    · rw [if_neg h]; simp [h]
theorem dropWhile_head {p : UInt8 → Bool} : ∀ (l r : List UInt8) (a : UInt8), l.dropWhile p = a :: r → p a = false
  | [], _, _, h => by simp at h
  | b :: l, r, a, h => by
    rw [List.dropWhile_cons] at h
    by_cases hb : p b = true
    · rw [if_pos hb] at h; exact dropWhile_head l r a h
    · rw [if_neg hb] at h
      injection h with h1 _
      subst h1; simpa using hb
theorem trim_nil (l cs : List UInt8) : Lib.trimS l cs = [] ↔ ∀ c ∈ l, cs.contains c = true := by
  unfold Lib.trimS Lib.trimLeftS
  rw [dropWhile_nil]
  unfold Lib.trimRightS
  constructor
  · intro h
    cases hd : l.reverse.dropWhile (cs.contains ·) with
    | nil => have := (dropWhile_nil l.reverse).1 hd; simpa using this
    | cons a r =>
      have h1 := dropWhile_head _ _ _ hd
      have h2 := h a (by rw [hd]; simp)
      rw [h1] at h2; cases h2
  · intro h
    have : l.reverse.dropWhile (cs.contains ·) = [] := (dropWhile_nil l.reverse).2 (by simpa using h)
    rw [this]; simp
def letters : List UInt8 := [97, 98, 99, 100, 101, 102, 103, 104, 105, 106, 107, 108, 109, 110, 111, 112, 113, 114, 115, 116, 117, 118, 119, 120, 121, 122]
theorem letters_small (c : UInt8) : letters.contains c = smallB c := by
  have h : ∀ n : Fin 256, letters.contains (UInt8.ofNat n.val) = smallB (UInt8.ofNat n.val) := by decide +kernel
  have := h ⟨c.toNat, c.toNat_lt⟩
  simpa using this
theorem trim_small (s : ByteArray) : ((⟨(Lib.trimS s.data.toList letters).toArray⟩ : ByteArray).toList == []) = smalls s := by
  unfold smalls
  rw [ByteArray.toList_eq, Bool.eq_iff_iff, beq_iff_eq, List.all_eq_true]
  simp only [letters_small, trim_nil]
set_option maxRecDepth 100000 in
theorem implSmall_any (s : ByteArray) (lo hi : Int) (w : World) (hs : s.size ≤ 9223372036854775807) :
    Calls Tryd.prog 98 #[.string s, .int .i64 lo, .int .i64 hi] w fun e w' => e = .returned (.bool (inB s.size lo hi && smalls s)) ∧ Below w.heap.size w w' := by
  cases hin : inB s.size lo hi
  · have HI := Lib.hid hin; clear hin
    go_enter Tryd.func98, Tryd.ntmps98
    go_wp2_with fail
    refine (within_any _ _ _ _).mono ?_; rw [HI.out]; rintro e w' ⟨rfl, rfl⟩
    go_wp2_with fail
    go_ret
    exact ⟨rfl, Below.refl _ _⟩
  · have HI := Lib.hid hin; clear hin
    have hcon := fun w => Any.strings_Trim_laid Tryd.lays160 (by kernel_rfl) s ⟨letters.toArray⟩ w hs (by decide) (ascii_of_all (by decide))
    have HC := Lib.hid (show ∀ w, Calls Tryd.prog 115 #[.string s, .string ⟨#[97, 98, 99, 100, 101, 102, 103, 104, 105, 106, 107, 108, 109, 110, 111, 112, 113, 114, 115, 116, 117, 118, 119, 120, 121, 122]⟩] w (fun e w' => e = .returned (.string ⟨(Lib.trimS s.data.toList letters).toArray⟩) ∧ Below w.heap.size w w') from hcon)
    clear hcon
    have HT := trim_small s
    generalize (⟨(Lib.trimS s.data.toList letters).toArray⟩ : ByteArray) = r at HC HT
    go_enter Tryd.func98, Tryd.ntmps98
    go_wp2_with fail
    refine (within_any _ _ _ _).mono ?_; rw [HI.out]; rintro e w' ⟨rfl, rfl⟩
    go_wp2_with fail
    refine (HC.out _).mono ?_; rintro e w1 ⟨rfl, b1⟩
    go_wp2_with fail
    go_ret
    exact ⟨rfl, b1⟩
set_option maxRecDepth 100000 in
theorem implWord_any (s : ByteArray) (w : World) (hs : s.size ≤ 9223372036854775807) :
    Calls Tryd.prog 73 #[.string s] w fun e w' => e = .returned (.bool (wordB s)) ∧ Below w.heap.size w w' := by
  go_enter Tryd.func73, Tryd.ntmps73
  go_wp2_with fail
  refine (implSmall_any s _ _ _ hs).mono ?_; rintro e w1 ⟨rfl, b1⟩
  go_wp2_with fail
  go_ret
  exact ⟨ret_bool (by rw [wordB, Bool.and_comm]), b1⟩
end Go.Proofs.YtnbpbidflacoiaaDoor
