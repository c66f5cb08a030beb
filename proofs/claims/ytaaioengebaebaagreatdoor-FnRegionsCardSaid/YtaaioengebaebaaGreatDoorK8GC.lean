/- IsWord, of the reference and of the program. The first index of a string in a list. Codes of places, of the reference: l26Word, l28Direction, l28Code. slices.Index and slices.Contains over strings. Codes of places, of the program: isOwnWord, isCode; units of both. Units of the reference; IsDescription of both. -/
import Derived.Test.YtaaioengebaebaaGreatDoorRows
import Derived.Test.YtaaioengebaebaaGreatDoorK8GA
import Derived.WalkKit
import Derived.ProofKit
import Derived.OpenShut
import Derived.BigQuiet
import Derived.Outline
import Derived.WalkSpells
import Derived.WalkLawsBesides
import Derived.Deep.DeepCutAuto
import Derived.Test.YtaaioengebaebaaGreatDoorW1
import Derived.Lib.Hide
import Derived.Test.YtaaioengebaebaaGreatDoorK8Q0
namespace Go.Proofs.YtaaioengebaebaaGreatDoor
open Go.ChangeShapes Go.WideShapes Go.ChangeAt Go.RowKit Go.Shelf

def smallB (c : UInt8) : Bool := decide (97 ≤ c.toNat) && decide (c.toNat ≤ 122)
def smalls (s : ByteArray) : Bool := s.data.toList.all smallB
def wordB (s : ByteArray) : Bool := smalls s && inB s.size 1 16
theorem specIn_any (x lo hi : Int) (w : World) : Calls Tryz.prog 100 #[.int .i64 x, .int .i64 lo, .int .i64 hi] w fun e w' => e = .returned (.bool (inB x lo hi)) ∧ w = w' := by
  go_enter Tryz.func100, Tryz.ntmps100
  go_upto_region 9999 with ((with_reducible refine at_list ?_); (first | (refine gl_t _ (by exact rfl) (by exact rfl) (by exact rfl) (by exact rfl) (by intro hc hv K hK; (first | (refine lmove (by exact rfl) (by exact rfl) (by first | exact gs hc | exact gs hg | exact gs (by simp [hc]) | exact gs (by simp [hc, hg]) | exact rfl) ?_; exact hK) | (refine lwpick_and (by exact rfl) (by exact rfl) (by first | exact rfl | exact gs hc | exact gs hg | exact gs (by simp [hc]) | exact gs (by simp [hc, hg])) (by intro hb; first | exact rfl | exact gs hb | exact gs hc | exact gs hg | exact gs (by simp [hb, hc]) | exact gs (by simp [hb, hc, hg])) ?_; exact hK) | (refine lwpick_or (by exact rfl) (by exact rfl) (by first | exact rfl | exact gs hc | exact gs hg | exact gs (by simp [hc]) | exact gs (by simp [hc, hg])) (by intro hb; first | exact rfl | exact gs hb | exact gs hc | exact gs hg | exact gs (by simp [hb, hc]) | exact gs (by simp [hb, hc, hg])) ?_; exact hK) | (clear hc; (try clear hg); go_step; exact hK) | ((try have hc' := hc; simp at hc'); (try have hg' := hg; simp at hg'); go_step; exact hK))) ?_; (intro l' hl; simp only [List.set_cons_succ, List.set_cons_zero] at hl; subst hl)) | (refine gl_f _ (by exact rfl) (by exact rfl) (by exact rfl) (by exact rfl) (by intro hc hv K hK; (first | (refine lmove (by exact rfl) (by exact rfl) (by first | exact gs hc | exact gs hg | exact gs (by simp [hc]) | exact gs (by simp [hc, hg]) | exact rfl) ?_; exact hK) | (refine lwpick_and (by exact rfl) (by exact rfl) (by first | exact rfl | exact gs hc | exact gs hg | exact gs (by simp [hc]) | exact gs (by simp [hc, hg])) (by intro hb; first | exact rfl | exact gs hb | exact gs hc | exact gs hg | exact gs (by simp [hb, hc]) | exact gs (by simp [hb, hc, hg])) ?_; exact hK) | (refine lwpick_or (by exact rfl) (by exact rfl) (by first | exact rfl | exact gs hc | exact gs hg | exact gs (by simp [hc]) | exact gs (by simp [hc, hg])) (by intro hb; first | exact rfl | exact gs hb | exact gs hc | exact gs hg | exact gs (by simp [hb, hc]) | exact gs (by simp [hb, hc, hg])) ?_; exact hK) | (clear hc; (try clear hg); go_step; exact hK) | ((try have hc' := hc; simp at hc'); (try have hg' := hg; simp at hg'); go_step; exact hK))) ?_; (intro l' hl; simp only [List.set_cons_succ, List.set_cons_zero] at hl; subst hl)) | (refine gl_t2 _ (by exact rfl) (by exact rfl) (by exact rfl) (by exact rfl) (by intro hg hc hv hv2 K hK; (first | (refine lmove (by exact rfl) (by exact rfl) (by first | exact gs hc | exact gs hg | exact gs (by simp [hc]) | exact gs (by simp [hc, hg]) | exact rfl) ?_; exact hK) | (refine lwpick_and (by exact rfl) (by exact rfl) (by first | exact rfl | exact gs hc | exact gs hg | exact gs (by simp [hc]) | exact gs (by simp [hc, hg])) (by intro hb; first | exact rfl | exact gs hb | exact gs hc | exact gs hg | exact gs (by simp [hb, hc]) | exact gs (by simp [hb, hc, hg])) ?_; exact hK) | (refine lwpick_or (by exact rfl) (by exact rfl) (by first | exact rfl | exact gs hc | exact gs hg | exact gs (by simp [hc]) | exact gs (by simp [hc, hg])) (by intro hb; first | exact rfl | exact gs hb | exact gs hc | exact gs hg | exact gs (by simp [hb, hc]) | exact gs (by simp [hb, hc, hg])) ?_; exact hK) | (clear hc; (try clear hg); go_step; exact hK) | ((try have hc' := hc; simp at hc'); (try have hg' := hg; simp at hg'); go_step; exact hK))) ?_; (intro l' hl; simp only [List.set_cons_succ, List.set_cons_zero] at hl; subst hl)) | (refine gl_f2 _ (by exact rfl) (by exact rfl) (by exact rfl) (by exact rfl) (by intro hg hc hv hv2 K hK; (first | (refine lmove (by exact rfl) (by exact rfl) (by first | exact gs hc | exact gs hg | exact gs (by simp [hc]) | exact gs (by simp [hc, hg]) | exact rfl) ?_; exact hK) | (refine lwpick_and (by exact rfl) (by exact rfl) (by first | exact rfl | exact gs hc | exact gs hg | exact gs (by simp [hc]) | exact gs (by simp [hc, hg])) (by intro hb; first | exact rfl | exact gs hb | exact gs hc | exact gs hg | exact gs (by simp [hb, hc]) | exact gs (by simp [hb, hc, hg])) ?_; exact hK) | (refine lwpick_or (by exact rfl) (by exact rfl) (by first | exact rfl | exact gs hc | exact gs hg | exact gs (by simp [hc]) | exact gs (by simp [hc, hg])) (by intro hb; first | exact rfl | exact gs hb | exact gs hc | exact gs hg | exact gs (by simp [hb, hc]) | exact gs (by simp [hb, hc, hg])) ?_; exact hK) | (clear hc; (try clear hg); go_step; exact hK) | ((try have hc' := hc; simp at hc'); (try have hg' := hg; simp at hg'); go_step; exact hK))) ?_; (intro l' hl; simp only [List.set_cons_succ, List.set_cons_zero] at hl; subst hl)) | (refine lpick_and (by exact rfl) (by exact rfl) (by exact rfl) (by exact rfl) (by intro hb; first | exact rfl | exact gs hb) ?_; (intro l' hl; simp only [List.set_cons_succ, List.set_cons_zero] at hl; subst hl)) | (refine lpick_or (by exact rfl) (by exact rfl) (by exact rfl) (by exact rfl) (by intro hb; first | exact rfl | exact gs hb | exact gs (by simp [hb])) ?_; (intro l' hl; simp only [List.set_cons_succ, List.set_cons_zero] at hl; subst hl))))
  go_ret
  exact ⟨by simp [inB], rfl⟩

theorem all_take (l : List UInt8) (k : Nat) (h : k < l.length) : (l.take (k + 1)).all smallB = ((l.take k).all smallB && smallB l[k]) := by
  rw [List.take_succ_eq_append_getElem h, List.all_append]; simp
set_option maxRecDepth 100000 in
theorem specWord_any (s : ByteArray) (w : World) (hs : s.size ≤ 9223372036854775807) :
    Calls Tryz.prog 103 #[.string s] w fun e w' => e = .returned (.bool (wordB s)) ∧ w = w' := by
  go_enter Tryz.func103, Tryz.ntmps103
  go_wp2_with fail
  go_loop [3] (fun v3 => ∃ k : Nat, k ≤ s.size ∧ Hid ((s.data.toList.take k).all smallB = true) ∧ v3 = .int .i64 k) (fun i => s.size - (intOf i).toNat)
  case atStart => exact ⟨0, by omega, by simp [Hid], rfl⟩
  case round =>
    obtain ⟨k, hk, HA, rfl⟩ := hrel
    by_cases hlt : k < s.size
    · have hl : k < s.data.toList.length := by simpa using hlt
      have HT := Lib.hid (all_take s.data.toList k hl)
      have hnx : (s.data.toList)[k] = s[k] := by simp; rfl
      rw [hnx, HA.out, Bool.true_and] at HT
      clear hnx
      have HF : Hid (smallB s[k] = false → wordB s = false) := fun h => by
        rw [h] at HT
        have hf : s.data.toList.all smallB = false := by
          rw [← List.take_append_drop (k + 1) s.data.toList, List.all_append, HT.out, Bool.false_and]
        rw [wordB, smalls, hf, Bool.false_and]
      by_cases h1 : s[k].toNat < 97
      · have HW := Lib.hid (HF.out (by simp [smallB]; omega))
        go_wp2_with fail
        go_ret
        exact ⟨ret_bool HW.out.symm, rfl⟩
      · by_cases h2 : 122 < s[k].toNat
        · have HW := Lib.hid (HF.out (by simp [smallB]; omega))
          go_wp2_with fail
          go_ret
          exact ⟨ret_bool HW.out.symm, rfl⟩
        · have HW := Lib.hid (HT.out.trans (show smallB s[k] = true by simp [smallB]; omega))
          clear HT HF
          go_wp2_with fail
          go_round
          case rel => exact ⟨k + 1, by omega, HW, by go_num⟩
          case measure => simp [intOf]; omega
    · obtain rfl : k = s.size := by omega
      have HW := Lib.hid (show wordB s = inB s.size 1 16 by
        have := HA.out
        rw [List.take_of_length_le (by simp)] at this
        rw [wordB, smalls, this, Bool.true_and])
      go_wp2_with fail
      refine (specIn_any _ _ _ _).mono ?_; rintro e w' ⟨rfl, rfl⟩
      go_wp2_with fail
      go_ret
      exact ⟨ret_bool HW.out.symm, rfl⟩
theorem dropWhile_nil {p : UInt8 → Bool} : ∀ l : List UInt8, l.dropWhile p = [] ↔ ∀ c ∈ l, p c = true
  | [] => by simp
  | a :: l => by
    rw [List.dropWhile_cons]
    by_cases h : p a = true
    · rw [if_pos h, dropWhile_nil l]; simp [h]
    · rw [if_neg h]; simp [h]
theorem dropWhile_head {p : UInt8 → Bool} : ∀ (l r : List UInt8) (a : UInt8), l.dropWhile p = a :: r → p a = false
  | [], _, _, h => by simp at h
  | b :: l, r, a, h => by
    rw [List.dropWhile_cons] at h
    by_cases hb : p b = true
    · rw [if_pos hb] at h; exact dropWhile_head l r a h
    · rw [if_neg hb] at h
      injection h with h1 _
      subst h1; simpa using hb
theorem trim_nil (l cs : List UInt8) : Lib.trimS l cs = [] ↔ ∀ c ∈ l, cs.contains c = true := by
  unfold Lib.trimS Lib.trimLeftS
  rw [dropWhile_nil]
  unfold Lib.trimRightS
  constructor
  · intro h
    cases hd : l.reverse.dropWhile (cs.contains ·) with
    | nil => have := (dropWhile_nil l.reverse).1 hd; simpa using this
    | cons a r =>
      have h1 := dropWhile_head _ _ _ hd
      have h2 := h a (by rw [hd]; simp)
      rw [h1] at h2; cases h2
  · intro h
    have : l.reverse.dropWhile (cs.contains ·) = [] := (dropWhile_nil l.reverse).2 (by simpa using h)
    rw [this]; simp
def letters : List UInt8 := [97, 98, 99, 100, 101, 102, 103, 104, 105, 106, 107, 108, 109, 110, 111, 112, 113, 114, 115, 116, 117, 118, 119, 120, 121, 122]
theorem letters_small (c : UInt8) : letters.contains c = smallB c := by
  have h : ∀ n : Fin 256, letters.contains (UInt8.ofNat n.val) = smallB (UInt8.ofNat n.val) := by decide +kernel
  have := h ⟨c.toNat, c.toNat_lt⟩
  simpa using this
theorem trim_small (s : ByteArray) : ((⟨(Lib.trimS s.data.toList letters).toArray⟩ : ByteArray).toList == []) = smalls s := by
  unfold smalls
  rw [ByteArray.toList_eq, Bool.eq_iff_iff, beq_iff_eq, List.all_eq_true]
  simp only [letters_small, trim_nil]
set_option maxRecDepth 100000 in
theorem implSmall_any (s : ByteArray) (lo hi : Int) (w : World) (hs : s.size ≤ 9223372036854775807) :
    Calls Tryz.prog 120 #[.string s, .int .i64 lo, .int .i64 hi] w fun e w' => e = .returned (.bool (inB s.size lo hi && smalls s)) ∧ Below w.heap.size w w' := by
  cases hin : inB s.size lo hi
  · have HI := Lib.hid hin; clear hin
    go_enter Tryz.func120, Tryz.ntmps120
    go_wp2_with fail
    refine (within_any _ _ _ _).mono ?_; rw [HI.out]; rintro e w' ⟨rfl, rfl⟩
    go_wp2_with fail
    go_ret
    exact ⟨rfl, Below.refl _ _⟩
  · have HI := Lib.hid hin; clear hin
    have hcon := fun w => Any.strings_Trim_laid Tryz.lays160 (by kernel_rfl) s ⟨letters.toArray⟩ w hs (by decide) (ascii_of_all (by decide))
    have HC := Lib.hid (show ∀ w, Calls Tryz.prog 130 #[.string s, .string ⟨#[97, 98, 99, 100, 101, 102, 103, 104, 105, 106, 107, 108, 109, 110, 111, 112, 113, 114, 115, 116, 117, 118, 119, 120, 121, 122]⟩] w (fun e w' => e = .returned (.string ⟨(Lib.trimS s.data.toList letters).toArray⟩) ∧ Below w.heap.size w w') from hcon)
    clear hcon
    have HT := trim_small s
    generalize (⟨(Lib.trimS s.data.toList letters).toArray⟩ : ByteArray) = r at HC HT
    go_enter Tryz.func120, Tryz.ntmps120
    go_wp2_with fail
    refine (within_any _ _ _ _).mono ?_; rw [HI.out]; rintro e w' ⟨rfl, rfl⟩
    go_wp2_with fail
    refine (HC.out _).mono ?_; rintro e w1 ⟨rfl, b1⟩
    go_wp2_with fail
    go_ret
    exact ⟨rfl, b1⟩
set_option maxRecDepth 100000 in
theorem implWord_any (s : ByteArray) (w : World) (hs : s.size ≤ 9223372036854775807) :
    Calls Tryz.prog 101 #[.string s] w fun e w' => e = .returned (.bool (wordB s)) ∧ Below w.heap.size w w' := by
  go_enter Tryz.func101, Tryz.ntmps101
  go_wp2_with fail
  refine (implSmall_any s _ _ _ hs).mono ?_; rintro e w1 ⟨rfl, b1⟩
  go_wp2_with fail
  go_ret
  exact ⟨ret_bool (by rw [wordB, Bool.and_comm]), b1⟩
end Go.Proofs.YtaaioengebaebaaGreatDoor
namespace Go.Proofs.YtaaioengebaebaaGreatDoor
open Go.ChangeShapes Go.WideShapes Go.ChangeAt Go.RowKit

/-- The first index of a number; -1 if it is not there. -/
def ixS (x : ByteArray) : List ByteArray → Int
  | [] => -1
  | a :: r => if x = a then 0 else if ixS x r < 0 then -1 else ixS x r + 1
theorem ixS_ge (x : ByteArray) : ∀ L, -1 ≤ ixS x L
  | [] => by simp [ixS]
  | a :: r => by have := ixS_ge x r; rw [ixS]; split; omega; split <;> omega
theorem ixS_mem (x : ByteArray) : ∀ L, (0 ≤ ixS x L) ↔ x ∈ L
  | [] => by simp [ixS]
  | a :: r => by
    have := ixS_mem x r
    rw [ixS, List.mem_cons]
    by_cases h : x = a
    · simp [h]
    · rw [if_neg h]
      by_cases hx : x ∈ r
      · have h0 := this.2 hx
        rw [if_neg (by omega)]; simp [hx]; omega
      · have h0 : ¬ (0 ≤ ixS x r) := fun h => hx (this.1 h)
        rw [if_pos (by omega)]; simp [h, hx]
/-- What is left of the search. -/
def ixT (x : ByteArray) (L : List ByteArray) (k : Nat) : Int := if ixS x (L.drop k) < 0 then -1 else ixS x (L.drop k) + k
theorem ixT_zero (x : ByteArray) (L : List ByteArray) : ixT x L 0 = ixS x L := by
  have := ixS_ge x L
  unfold ixT; simp; omega
theorem ixT_hit {x : ByteArray} {L : List ByteArray} {k : Nat} (h : k < L.length) (e : x = L[k]) : ixT x L k = k := by
  unfold ixT; rw [List.drop_eq_getElem_cons h, ixS, if_pos e]; simp
theorem ixT_miss {x : ByteArray} {L : List ByteArray} {k : Nat} (h : k < L.length) (e : x ≠ L[k]) : ixT x L k = ixT x L (k + 1) := by
  unfold ixT; rw [List.drop_eq_getElem_cons h, ixS, if_neg e]
  have := ixS_ge x (L.drop (k + 1))
  by_cases h0 : ixS x (L.drop (k + 1)) < 0
  · simp [h0]
  · rw [if_neg h0, if_neg (by omega), if_neg h0]; push_cast; omega
theorem ixT_end {x : ByteArray} {L : List ByteArray} : ixT x L L.length = -1 := by unfold ixT; rw [List.drop_length]; rfl
theorem str_lit (s : ByteArray) (l : List UInt8) : (s.toList == l) = decide (s = ⟨l.toArray⟩) := by
  have := str_eq s ⟨l.toArray⟩
  rw [show (⟨l.toArray⟩ : ByteArray).toList = l by rw [ByteArray.toList_eq]] at this
  exact this
end Go.Proofs.YtaaioengebaebaaGreatDoor
namespace Go.Proofs.YtaaioengebaebaaGreatDoor
open Go.ChangeShapes Go.WideShapes Go.ChangeAt Go.RowKit

/-- The words of the directions. -/
def dirsL : List ByteArray := [⟨#[110, 111, 114, 116, 104]⟩, ⟨#[110, 111, 114, 116, 104, 101, 97, 115, 116]⟩, ⟨#[101, 97, 115, 116]⟩, ⟨#[115, 111, 117, 116, 104, 101, 97, 115, 116]⟩, ⟨#[115, 111, 117, 116, 104]⟩, ⟨#[115, 111, 117, 116, 104, 119, 101, 115, 116]⟩, ⟨#[119, 101, 115, 116]⟩, ⟨#[110, 111, 114, 116, 104, 119, 101, 115, 116]⟩]
theorem dirs_len : dirsL.length = 8 := rfl
/-- The words of descriptions. -/
def ownW : List ByteArray := [⟨#[97, 116]⟩, ⟨#[110, 101, 97, 114]⟩, ⟨#[111, 102]⟩, ⟨#[98, 101, 116, 119, 101, 101, 110]⟩, ⟨#[97, 110, 100]⟩, ⟨#[109, 105, 108, 101]⟩, ⟨#[109, 105, 108, 101, 115]⟩, ⟨#[108, 101, 97, 103, 117, 101]⟩, ⟨#[108, 101, 97, 103, 117, 101, 115]⟩]
def codeW (s : ByteArray) : Bool := !(decide (0 ≤ ixS s ownW)) && (wordB s && !(decide (0 ≤ ixS s dirsL)))
theorem word_any (k : Nat) (hk : k < 8) (w : World) :
    Calls Tryz.prog 122 #[.int .i64 k] w fun e w' => e = .returned (.string (dirsL[k]'(by rw [dirs_len]; exact hk))) ∧ Below w.heap.size w w' := by
  have hk8 : k = 0 ∨ k = 1 ∨ k = 2 ∨ k = 3 ∨ k = 4 ∨ k = 5 ∨ k = 6 ∨ k = 7 := by omega
  rcases hk8 with rfl | rfl | rfl | rfl | rfl | rfl | rfl | rfl
  all_goals
    go_enter Tryz.func122, Tryz.ntmps122
    go_wp2
    go_ret
    exact ⟨rfl, by (repeat (first | exact Below.refl _ _ | assumption | refine Below.drew ?_ | refine below_drewN' ?_ _ | refine Below.alloc ?_ (by (try simp); (try omega)) _ | refine Below.setCell ?_ (by (try simp); (try omega)) _))⟩
set_option maxRecDepth 100000 in
theorem direction_any (s : ByteArray) (hs : s.size ≤ 9223372036854775807) (w : World) :
    Calls Tryz.prog 104 #[.string s] w fun e w' => e = .returned (.int .i64 (ixS s dirsL)) ∧ Below w.heap.size w w' := by
  have H0 := Lib.hid (ixT_zero s dirsL)
  go_enter Tryz.func104, Tryz.ntmps104
  go_wp2_with fail
  go_loopw [3] (fun v3 wr => ∃ k : Nat, k ≤ 8 ∧ Hid (ixS s dirsL = ixT s dirsL k) ∧ Hid (Below w.heap.size w wr) ∧ v3 = .int .i64 k) (fun i _ => 8 - (intOf i).toNat)
  case atStart => exact ⟨0, by omega, H0.out.symm, Below.refl _ _, rfl⟩
  case round =>
    obtain ⟨k, hk, HK, BW, rfl⟩ := hrel
    by_cases hlt : k < 8
    · have hlt' : k < dirsL.length := hlt
      have WK := Lib.hid (word_any k hlt)
      have HF := Lib.hid (fun h => ixT_hit (x := s) hlt' h)
      have HN := Lib.hid (fun h => ixT_miss (x := s) hlt' h)
      generalize dirsL[k] = u at WK HF HN
      go_wp2_with fail
      refine (WK.out wr).mono ?_; rintro e w1 ⟨rfl, b1⟩
      have B1 := Lib.hid (BW.out.trans (b1.mono BW.out.size)); clear b1
      have e := str_eq u s
      by_cases hu : u = s
      · have HD := Lib.hid (HK.out.trans (HF.out hu.symm))
        rw [decide_eq_true hu] at e
        clear hu
        go_wp2_with fail
        go_ret
        exact ⟨ret_int HD.out.symm, B1.out⟩
      · have HD := Lib.hid (HK.out.trans (HN.out (fun h => hu h.symm)))
        rw [decide_eq_false hu] at e
        clear hu
        go_wp2_with fail
        go_roundw
        case rel => exact ⟨k + 1, by omega, HD.out, B1.out, by go_num⟩
        case measure => simp [intOf]; omega
    · obtain rfl : k = 8 := by omega
      have HX := Lib.hid (HK.out.trans (ixT_end (x := s) (L := dirsL)))
      go_wp2_with fail
      go_ret
      exact ⟨ret_int HX.out.symm, BW.out⟩
theorem code_own {s : ByteArray} (h : s ∈ ownW) : codeW s = false := by simp [codeW, (ixS_mem s ownW).2 h]
theorem code_not {s : ByteArray} (h : s ∉ ownW) : codeW s = (wordB s && !(decide (0 ≤ ixS s dirsL))) := by
  rw [codeW, decide_eq_false (fun h1 => h ((ixS_mem s ownW).1 h1))]; rfl
theorem nine : ∀ (b0 b1 b2 b3 b4 b5 b6 b7 b8 : Bool), (b0 = true) ∨ (b0 = false ∧ b1 = true) ∨ (b0 = false ∧ b1 = false ∧ b2 = true) ∨ (b0 = false ∧ b1 = false ∧ b2 = false ∧ b3 = true) ∨ (b0 = false ∧ b1 = false ∧ b2 = false ∧ b3 = false ∧ b4 = true) ∨ (b0 = false ∧ b1 = false ∧ b2 = false ∧ b3 = false ∧ b4 = false ∧ b5 = true) ∨ (b0 = false ∧ b1 = false ∧ b2 = false ∧ b3 = false ∧ b4 = false ∧ b5 = false ∧ b6 = true) ∨ (b0 = false ∧ b1 = false ∧ b2 = false ∧ b3 = false ∧ b4 = false ∧ b5 = false ∧ b6 = false ∧ b7 = true) ∨ (b0 = false ∧ b1 = false ∧ b2 = false ∧ b3 = false ∧ b4 = false ∧ b5 = false ∧ b6 = false ∧ b7 = false ∧ b8 = true) ∨ (b0 = false ∧ b1 = false ∧ b2 = false ∧ b3 = false ∧ b4 = false ∧ b5 = false ∧ b6 = false ∧ b7 = false ∧ b8 = false) := by
  intro b0 b1 b2 b3 b4 b5 b6 b7 b8
  cases b0 <;> simp
  cases b1 <;> simp
  cases b2 <;> simp
  cases b3 <;> simp
  cases b4 <;> simp
  cases b5 <;> simp
  cases b6 <;> simp
  cases b7 <;> simp
set_option maxRecDepth 100000 in
set_option maxHeartbeats 1000000 in
theorem specCodeW_any (s : ByteArray) (hs : s.size ≤ 9223372036854775807) (w : World) :
    Calls Tryz.prog 75 #[.string s] w fun e w' => e = .returned (.bool (codeW s)) ∧ Below w.heap.size w w' := by
  have HWd := Lib.hid (specWord_any s w hs)
  have HDr := Lib.hid (direction_any s hs w)
  have HO := Lib.hid (fun h => code_own (s := s) h)
  have HNo := Lib.hid (fun h => code_not (s := s) h)
  generalize codeW s = cw at HO HNo
  generalize ixS s dirsL = ix at HNo HDr
  have e0 := str_lit s [97, 116]
  have e1 := str_lit s [110, 101, 97, 114]
  have e2 := str_lit s [111, 102]
  have e3 := str_lit s [98, 101, 116, 119, 101, 101, 110]
  have e4 := str_lit s [97, 110, 100]
  have e5 := str_lit s [109, 105, 108, 101]
  have e6 := str_lit s [109, 105, 108, 101, 115]
  have e7 := str_lit s [108, 101, 97, 103, 117, 101]
  have e8 := str_lit s [108, 101, 97, 103, 117, 101, 115]
  have HMO := Lib.hid (show s ∈ ownW ↔ (s.toList == [97, 116]) = true ∨ (s.toList == [110, 101, 97, 114]) = true ∨ (s.toList == [111, 102]) = true ∨ (s.toList == [98, 101, 116, 119, 101, 101, 110]) = true ∨ (s.toList == [97, 110, 100]) = true ∨ (s.toList == [109, 105, 108, 101]) = true ∨ (s.toList == [109, 105, 108, 101, 115]) = true ∨ (s.toList == [108, 101, 97, 103, 117, 101]) = true ∨ (s.toList == [108, 101, 97, 103, 117, 101, 115]) = true by
    rw [e0, e1, e2, e3, e4, e5, e6, e7, e8]; simp only [ownW, List.mem_cons, List.not_mem_nil, or_false, decide_eq_true_eq])
  clear e0 e1 e2 e3 e4 e5 e6 e7 e8
  rcases nine (s.toList == [97, 116]) (s.toList == [110, 101, 97, 114]) (s.toList == [111, 102]) (s.toList == [98, 101, 116, 119, 101, 101, 110]) (s.toList == [97, 110, 100]) (s.toList == [109, 105, 108, 101]) (s.toList == [109, 105, 108, 101, 115]) (s.toList == [108, 101, 97, 103, 117, 101]) (s.toList == [108, 101, 97, 103, 117, 101, 115]) with h0 | ⟨h0, h1⟩ | ⟨h0, h1, h2⟩ | ⟨h0, h1, h2, h3⟩ | ⟨h0, h1, h2, h3, h4⟩ | ⟨h0, h1, h2, h3, h4, h5⟩ | ⟨h0, h1, h2, h3, h4, h5, h6⟩ | ⟨h0, h1, h2, h3, h4, h5, h6, h7⟩ | ⟨h0, h1, h2, h3, h4, h5, h6, h7, h8⟩ | ⟨h0, h1, h2, h3, h4, h5, h6, h7, h8⟩
  · have HX := Lib.hid (HO.out (HMO.out.2 (.inl h0)))
    go_enter Tryz.func75, Tryz.ntmps75
    go_wp2_with fail
    go_ret
    exact ⟨ret_bool HX.out.symm, Below.refl _ _⟩
  · have HX := Lib.hid (HO.out (HMO.out.2 (.inr (.inl h1))))
    go_enter Tryz.func75, Tryz.ntmps75
    go_wp2_with fail
    go_ret
    exact ⟨ret_bool HX.out.symm, Below.refl _ _⟩
  · have HX := Lib.hid (HO.out (HMO.out.2 (.inr (.inr (.inl h2)))))
    go_enter Tryz.func75, Tryz.ntmps75
    go_wp2_with fail
    go_ret
    exact ⟨ret_bool HX.out.symm, Below.refl _ _⟩
  · have HX := Lib.hid (HO.out (HMO.out.2 (.inr (.inr (.inr (.inl h3))))))
    go_enter Tryz.func75, Tryz.ntmps75
    go_wp2_with fail
    go_ret
    exact ⟨ret_bool HX.out.symm, Below.refl _ _⟩
  · have HX := Lib.hid (HO.out (HMO.out.2 (.inr (.inr (.inr (.inr (.inl h4)))))))
    go_enter Tryz.func75, Tryz.ntmps75
    go_wp2_with fail
    go_ret
    exact ⟨ret_bool HX.out.symm, Below.refl _ _⟩
  · have HX := Lib.hid (HO.out (HMO.out.2 (.inr (.inr (.inr (.inr (.inr (.inl h5))))))))
    go_enter Tryz.func75, Tryz.ntmps75
    go_wp2_with fail
    go_ret
    exact ⟨ret_bool HX.out.symm, Below.refl _ _⟩
  · have HX := Lib.hid (HO.out (HMO.out.2 (.inr (.inr (.inr (.inr (.inr (.inr (.inl h6)))))))))
    go_enter Tryz.func75, Tryz.ntmps75
    go_wp2_with fail
    go_ret
    exact ⟨ret_bool HX.out.symm, Below.refl _ _⟩
  · have HX := Lib.hid (HO.out (HMO.out.2 (.inr (.inr (.inr (.inr (.inr (.inr (.inr (.inl h7))))))))))
    go_enter Tryz.func75, Tryz.ntmps75
    go_wp2_with fail
    go_ret
    exact ⟨ret_bool HX.out.symm, Below.refl _ _⟩
  · have HX := Lib.hid (HO.out (HMO.out.2 (.inr (.inr (.inr (.inr (.inr (.inr (.inr (.inr (h8)))))))))))
    go_enter Tryz.func75, Tryz.ntmps75
    go_wp2_with fail
    go_ret
    exact ⟨ret_bool HX.out.symm, Below.refl _ _⟩
  · have HX := Lib.hid (HNo.out (fun hm => by have := HMO.out.1 hm; simp only [h0, h1, h2, h3, h4, h5, h6, h7, h8, Bool.false_eq_true, or_self] at this))
    cases hw : wordB s
    all_goals
      have HW := Lib.hid hw; clear hw
      rw [HW.out] at HX HWd
      by_cases hi : ix < 0
    all_goals
      go_enter Tryz.func75, Tryz.ntmps75
      go_wp2_with fail
      refine HWd.out.mono ?_; rintro e w' ⟨rfl, rfl⟩
      go_wp2_with fail
    · go_ret
      exact ⟨ret_bool (by rw [HX.out]; rfl), Below.refl _ _⟩
    · go_ret
      exact ⟨ret_bool (by rw [HX.out]; rfl), Below.refl _ _⟩
    · refine HDr.out.mono ?_; rintro e w1 ⟨rfl, b1⟩
      go_wp2_with fail
      go_ret
      exact ⟨ret_bool (by rw [HX.out]; simp [hi]), b1⟩
    · refine HDr.out.mono ?_; rintro e w1 ⟨rfl, b1⟩
      go_wp2_with fail
      go_ret
      exact ⟨ret_bool (by rw [HX.out]; simp [hi]), b1⟩
end Go.Proofs.YtaaioengebaebaaGreatDoor
namespace Go.Proofs.YtaaioengebaebaaGreatDoor
open Go.ChangeShapes Go.WideShapes Go.ChangeAt Go.RowKit

set_option maxRecDepth 100000 in
theorem indexS_any (L : List ByteArray) (x : ByteArray) (hm : L.length ≤ 9223372036854775807) (A : Option Addr) (c : Nat) (w : World) (hr : Reads w w.heap.size 1 A L.length (txC L)) :
    Calls Tryz.prog 131 #[.slice A L.length c, .string x] w fun e w' => e = .returned (.int .i64 (ixS x L)) ∧ w = w' := by
  have HR := Lib.hid hr; clear hr
  have H0 := Lib.hid (ixT_zero x L)
  go_enter Tryz.func131, Tryz.ntmps131
  go_wp2_with fail
  go_loop [8] (fun v8 => ∃ k : Nat, k ≤ L.length ∧ Hid (ixS x L = ixT x L k) ∧ v8 = .int .i64 k) (fun i => L.length - (intOf i).toNat)
  case atStart => exact ⟨0, by omega, H0.out.symm, rfl⟩
  case round =>
    obtain ⟨k, hk, HK, rfl⟩ := hrel
    by_cases hlt : k < L.length
    · obtain ⟨ab, ao, rfl, hadb, hcell⟩ := HR.out.2 (by omega)
      have c0 := hcell _ _ (txC_get L k hlt)
      clear hcell
      by_cases he : x = L[k]
      · have HX := Lib.hid (HK.out.trans (ixT_hit hlt he))
        have hc := str_eq x L[k]
        rw [decide_eq_true he] at hc
        clear he
        generalize L[k] = a at c0 hc
        go_wp2_with fail
        go_ret
        exact ⟨ret_int HX.out.symm, rfl⟩
      · have HX := Lib.hid (HK.out.trans (ixT_miss hlt he))
        have hc := str_eq x L[k]
        rw [decide_eq_false he] at hc
        clear he
        generalize L[k] = a at c0 hc
        go_wp2_with fail
        go_round
        case rel => exact ⟨k + 1, by omega, HX.out, by go_num⟩
        case measure => simp [intOf]; omega
    · obtain rfl : k = L.length := by omega
      have HX := Lib.hid (HK.out.trans ixT_end)
      go_wp2_with fail
      go_ret
      exact ⟨ret_int HX.out.symm, rfl⟩
theorem containsS_any (L : List ByteArray) (x : ByteArray) (hm : L.length ≤ 9223372036854775807) (A : Option Addr) (c : Nat) (w : World) (hr : Reads w w.heap.size 1 A L.length (txC L)) :
    Calls Tryz.prog 121 #[.slice A L.length c, .string x] w fun e w' => e = .returned (.bool (decide (0 ≤ ixS x L))) ∧ w = w' := by
  have HC := Lib.hid (indexS_any L x hm A c w hr)
  generalize ixS x L = i at HC ⊢
  go_enter Tryz.func121, Tryz.ntmps121
  go_wp2_with fail
  refine HC.out.mono ?_; rintro e w' ⟨rfl, rfl⟩
  go_wp2_with fail
  go_ret
  exact ⟨rfl, rfl⟩
end Go.Proofs.YtaaioengebaebaaGreatDoor
namespace Go.Proofs.YtaaioengebaebaaGreatDoor
open Go.ChangeShapes Go.WideShapes Go.ChangeAt Go.RowKit

/-- The table of the directions lies in memory. -/
def Dirs (w : World) : Prop := Reads w w.heap.size 1 (some ⟨0, 0, none⟩) 8 (txC dirsL)
theorem Dirs.below {w w' : World} (h : Dirs w) (hb : Below w.heap.size w w') : Dirs w' := (Reads.below h hb).more hb.size
theorem own_reads (w : World) (t : TypeId) : Reads (w.alloc (.cells (txC ownW).toArray t)) (w.alloc (.cells (txC ownW).toArray t)).heap.size 1 (some ⟨w.heap.size, 0, none⟩) 9 (txC ownW) :=
  ⟨rfl, fun _ => ⟨w.heap.size, 0, rfl, by simp, fun j u hu => by
    rw [Nat.zero_add, (Blk.new w t (txC ownW).toArray).cell]; simpa using hu⟩⟩
set_option maxRecDepth 100000 in
theorem ownWord_any (s : ByteArray) (w : World) (hd : Dirs w) :
    Calls Tryz.prog 102 #[.string s] w fun e w' => e = .returned (.bool (decide (0 ≤ ixS s ownW) || decide (0 ≤ ixS s dirsL))) ∧ Below w.heap.size w w' := by
  have HC1 := Lib.hid (containsS_any ownW s (by decide) (some ⟨w.heap.size, 0, none⟩) 9 (w.alloc (.cells (txC ownW).toArray 9)) (own_reads w _))
  have BA := (Below.refl w.heap.size w).alloc (Nat.le_refl _) (.cells (txC ownW).toArray 9)
  have HC2 := Lib.hid (fun W (hb : Below w.heap.size w W) => containsS_any dirsL s (by decide) (some ⟨0, 0, none⟩) 8 W (hd.below hb))
  have HB := Lib.hid BA; clear BA
  cases h1 : decide (0 ≤ ixS s ownW)
  all_goals
    have H1 := Lib.hid h1; clear h1
    rw [H1.out] at HC1
    go_enter Tryz.func102, Tryz.ntmps102
    go_wp2_with fail
    refine HC1.out.mono ?_; rintro e w' ⟨rfl, rfl⟩
    go_wp2_with fail
  · refine (HC2.out _ HB.out).mono ?_; rintro e w' ⟨rfl, rfl⟩
    go_wp2_with fail
    go_ret
    exact ⟨ret_bool (by simp), HB.out⟩
  · go_ret
    exact ⟨ret_bool (by simp), HB.out⟩
theorem implCodeW_any (s : ByteArray) (hs : s.size ≤ 9223372036854775807) (w : World) (hd : Dirs w) :
    Calls Tryz.prog 73 #[.string s] w fun e w' => e = .returned (.bool (codeW s)) ∧ Below w.heap.size w w' := by
  have HW := Lib.hid (implWord_any s w hs)
  have HD := Lib.hid hd; clear hd
  have HX := Lib.hid (show codeW s = (wordB s && !(decide (0 ≤ ixS s ownW) || decide (0 ≤ ixS s dirsL))) by unfold codeW; cases wordB s <;> cases decide (0 ≤ ixS s ownW) <;> rfl)
  generalize codeW s = cw at HX
  cases hw : wordB s
  all_goals
    rw [hw] at HX HW
    clear hw
    go_enter Tryz.func73, Tryz.ntmps73
    go_wp2_with fail
    refine HW.out.mono ?_; rintro e w1 ⟨rfl, b1⟩
    have B1 := Lib.hid b1; clear b1
    go_wp2_with fail
  · go_ret
    exact ⟨ret_bool (by rw [HX.out]; rfl), B1.out⟩
  · refine (ownWord_any s w1 (HD.out.below B1.out)).mono ?_; rintro e w2 ⟨rfl, b2⟩
    go_wp2_with fail
    go_ret
    exact ⟨ret_bool (by rw [HX.out]; simp), B1.out.trans (b2.mono B1.out.size)⟩

/-- The length of a unit for a count; 0 if it is none. -/
def unitD (u : ByteArray) (c : Int) : Int := if c = 1 then (if u = ⟨#[109, 105, 108, 101]⟩ then 4 else if u = ⟨#[108, 101, 97, 103, 117, 101]⟩ then 12 else 0) else (if u = ⟨#[109, 105, 108, 101, 115]⟩ then 4 else if u = ⟨#[108, 101, 97, 103, 117, 101, 115]⟩ then 12 else 0)
set_option maxRecDepth 100000 in
theorem isUnit_any (u : ByteArray) (c : Int) (w : World) :
    Calls Tryz.prog 113 #[.string u, .int .i64 c] w fun e w' => e = .returned (.bool (decide (0 < unitD u c))) ∧ w = w' := by
  have e1 := str_lit u [109, 105, 108, 101]
  have e2 := str_lit u [108, 101, 97, 103, 117, 101]
  have e3 := str_lit u [109, 105, 108, 101, 115]
  have e4 := str_lit u [108, 101, 97, 103, 117, 101, 115]
  by_cases hc : c = 1
  · have HU := Lib.hid (show unitD u c = if u = ⟨#[109, 105, 108, 101]⟩ then 4 else if u = ⟨#[108, 101, 97, 103, 117, 101]⟩ then 12 else 0 by rw [unitD, if_pos hc])
    by_cases h1 : u = ⟨#[109, 105, 108, 101]⟩
    · rw [if_pos h1] at HU
      rw [decide_eq_true h1] at e1
      clear h1 e2 e3 e4
      go_enter Tryz.func113, Tryz.ntmps113
      go_wp2_with fail
      go_ret
      exact ⟨ret_bool (by rw [HU.out]; rfl), rfl⟩
    · rw [if_neg h1] at HU
      rw [decide_eq_false h1] at e1
      by_cases h2 : u = ⟨#[108, 101, 97, 103, 117, 101]⟩
      · rw [if_pos h2] at HU
        rw [decide_eq_true h2] at e2
        clear h1 h2 e3 e4
        go_enter Tryz.func113, Tryz.ntmps113
        go_wp2_with fail
        go_ret
        exact ⟨ret_bool (by rw [HU.out]; rfl), rfl⟩
      · rw [if_neg h2] at HU
        rw [decide_eq_false h2] at e2
        clear h1 h2 e3 e4
        go_enter Tryz.func113, Tryz.ntmps113
        go_wp2_with fail
        go_ret
        exact ⟨ret_bool (by rw [HU.out]; rfl), rfl⟩
  · have HU := Lib.hid (show unitD u c = if u = ⟨#[109, 105, 108, 101, 115]⟩ then 4 else if u = ⟨#[108, 101, 97, 103, 117, 101, 115]⟩ then 12 else 0 by rw [unitD, if_neg hc])
    by_cases h1 : u = ⟨#[109, 105, 108, 101, 115]⟩
    · rw [if_pos h1] at HU
      rw [decide_eq_true h1] at e3
      clear h1 e2 e1 e4
      go_enter Tryz.func113, Tryz.ntmps113
      go_wp2_with fail
      go_ret
      exact ⟨ret_bool (by rw [HU.out]; rfl), rfl⟩
    · rw [if_neg h1] at HU
      rw [decide_eq_false h1] at e3
      by_cases h2 : u = ⟨#[108, 101, 97, 103, 117, 101, 115]⟩
      · rw [if_pos h2] at HU
        rw [decide_eq_true h2] at e4
        clear h1 h2 e1 e2
        go_enter Tryz.func113, Tryz.ntmps113
        go_wp2_with fail
        go_ret
        exact ⟨ret_bool (by rw [HU.out]; rfl), rfl⟩
      · rw [if_neg h2] at HU
        rw [decide_eq_false h2] at e4
        clear h1 h2 e1 e2
        go_enter Tryz.func113, Tryz.ntmps113
        go_wp2_with fail
        go_ret
        exact ⟨ret_bool (by rw [HU.out]; rfl), rfl⟩
end Go.Proofs.YtaaioengebaebaaGreatDoor
namespace Go.Proofs.YtaaioengebaebaaGreatDoor
open Go.ChangeShapes Go.WideShapes Go.ChangeAt Go.RowKit

theorem unit1 (u : ByteArray) : unitD u 1 = if u = ⟨#[109, 105, 108, 101]⟩ then 4 else if u = ⟨#[108, 101, 97, 103, 117, 101]⟩ then 12 else 0 := by simp [unitD]
theorem unitN {u : ByteArray} {c : Int} (hc : c ≠ 1) : unitD u c = if u = ⟨#[109, 105, 108, 101, 115]⟩ then 4 else if u = ⟨#[108, 101, 97, 103, 117, 101, 115]⟩ then 12 else 0 := by rw [unitD, if_neg hc]
theorem last_list (u : ByteArray) (h : u.size - 1 < u.size) : u.toList = (u.extract 0 (u.size - 1)).toList ++ [u[u.size - 1]] := by
  have hl : u.data.toList.length = u.size := rfl
  have e1 : u.toList = u.data.toList := ByteArray.toList_eq u
  have e2 : (u.extract 0 (u.size - 1)).toList = u.data.toList.take (u.size - 1) := by
    rw [ByteArray.toList_eq, ByteArray.data_extract]
    simp [List.dropLast_eq_take]
  rw [e1, e2]
  have e3 := List.take_append_drop (u.size - 1) u.data.toList
  rw [List.drop_eq_getElem_cons (by omega), List.drop_eq_nil_of_le (by omega)] at e3
  exact e3.symm
theorem last_eq (u : ByteArray) (h : u.size - 1 < u.size) (l : List UInt8) : (u = ⟨(l ++ [115]).toArray⟩) ↔ ((u.extract 0 (u.size - 1)).toList == l) = true ∧ ((u[u.size - 1].toNat : Int) != 115) = false := by
  have e := last_list u h
  have e0 : (⟨(l ++ [115]).toArray⟩ : ByteArray).toList = l ++ [115] := by rw [ByteArray.toList_eq]
  constructor
  · intro hu
    have e' := ((congrArg ByteArray.toList hu).trans e0).symm.trans e
    have := List.append_inj' e' rfl
    refine ⟨by simp [← this.1], ?_⟩
    have h2 := this.2
    simp only [List.cons.injEq, and_true] at h2
    rw [← h2]; rfl
  · rintro ⟨h1, h2⟩
    apply str_inj
    rw [e, e0]
    have h3 : u[u.size - 1].toNat = 115 := by simp at h2; omega
    have h4 : u[u.size - 1] = 115 := UInt8.toNat.inj h3
    rw [h4, show (u.extract 0 (u.size - 1)).toList = l by simpa using h1]
theorem unit_last {u : ByteArray} {c : Int} (hc : c ≠ 1) (h : u.size - 1 < u.size) : unitD u c = if ((u[u.size - 1].toNat : Int) != 115) = true then 0 else if ((u.extract 0 (u.size - 1)).toList == [109, 105, 108, 101]) = true then 4 else if ((u.extract 0 (u.size - 1)).toList == [108, 101, 97, 103, 117, 101]) = true then 12 else 0 := by
  have a1 := last_eq u h [109, 105, 108, 101]
  have a2 := last_eq u h [108, 101, 97, 103, 117, 101]
  simp only [List.cons_append, List.nil_append] at a1 a2
  rw [unitN hc]
  simp only [a1, a2]
  cases ((u[u.size - 1].toNat : Int) != 115) <;> simp
set_option maxRecDepth 100000 in
theorem specUnit_any (u : ByteArray) (hu : u.size ≤ 9223372036854775807) (c : Int) (w : World) :
    Calls Tryz.prog 108 #[.string u, .int .i64 c] w fun e w' => e = .returned (.int .i64 (unitD u c)) ∧ w = w' := by
  by_cases hc : c = 1
  · subst hc
    have e1 := str_lit u [109, 105, 108, 101]
    have e2 := str_lit u [108, 101, 97, 103, 117, 101]
    have HU := Lib.hid (unit1 u)
    by_cases h1 : u = ⟨#[109, 105, 108, 101]⟩
    · rw [if_pos h1] at HU
      rw [decide_eq_true h1] at e1
      clear h1 e2
      go_enter Tryz.func108, Tryz.ntmps108
      go_wp2_with fail
      go_ret
      exact ⟨ret_int (by rw [HU.out]), rfl⟩
    · rw [if_neg h1] at HU
      rw [decide_eq_false h1] at e1
      by_cases h2 : u = ⟨#[108, 101, 97, 103, 117, 101]⟩
      · rw [if_pos h2] at HU
        rw [decide_eq_true h2] at e2
        clear h1 h2
        go_enter Tryz.func108, Tryz.ntmps108
        go_wp2_with fail
        go_ret
        exact ⟨ret_int (by rw [HU.out]), rfl⟩
      · rw [if_neg h2] at HU
        rw [decide_eq_false h2] at e2
        clear h1 h2
        go_enter Tryz.func108, Tryz.ntmps108
        go_wp2_with fail
        go_ret
        exact ⟨ret_int (by rw [HU.out]), rfl⟩
  · have HU := Lib.hid (unitN (u := u) hc)
    have hc1 : (c != 1) = true := by simpa using hc
    by_cases h0 : u.size = 0
    · have HU2 := Lib.hid (show unitD u c = 0 by
        rw [HU.out, if_neg (fun h => by rw [h] at h0; cases h0), if_neg (fun h => by rw [h] at h0; cases h0)])
      go_enter Tryz.func108, Tryz.ntmps108
      go_wp2_with fail
      go_ret
      exact ⟨ret_int (by rw [HU2.out]), rfl⟩
    · have hi : u.size - 1 < u.size := by omega
      have HL := Lib.hid (unit_last hc hi)
      go_enter Tryz.func108, Tryz.ntmps108
      go_wp2_with fail
      all_goals
        go_ret
        exact ⟨ret_int (by rw [HL.out]; (repeat' split) <;> first | rfl | simp_all), rfl⟩
end Go.Proofs.YtaaioengebaebaaGreatDoor
