/- Marks of texts: markText; slices of strings: comparing, marking, asking. -/
import Derived.Test.YthlpclnfnfbeiaaDoorRows
import Derived.Test.YthlpclnfnfbeiaaDoorL0
import Derived.Test.YthlpclnfnfbeiaaDoorM0
import Derived.WalkKit
import Derived.ProofKit
import Derived.OpenShut
import Derived.BigQuiet
import Derived.Outline
import Derived.WalkSpells
import Derived.WalkLawsBesides
import Derived.Deep.DeepCutAuto
import Derived.Test.YthlpclnfnfbeiaaDoorM1
import Derived.Test.YthlpclnfnfbeiaaDoorW0
import Derived.Lib.Hide
import Derived.Lib.QuietBelow
import Derived.Deep.QuietTactic
import Derived.IntWalk
import Derived.Laws.IdiomStrings
namespace Go.Proofs.YthlpclnfnfbeiaaDoor
open Go.ChangeShapes Go.WideShapes Go.ChangeAt Go.RowKit Go.Sort

/-- The last digit. -/
def digB (j : Nat) : UInt8 := UInt8.ofNat (48 + j % 10)
theorem ba_cons (c : UInt8) (l : List UInt8) : (⟨#[c]⟩ : ByteArray) ++ ⟨l.toArray⟩ = ⟨(c :: l).toArray⟩ := by
  apply ByteArray.ext
  rw [ByteArray.data_append]
  simp
/-- The digits of k ahead of l. -/
def mGo : Nat → Nat → List UInt8 → List UInt8
  | 0, _, l => l
  | f + 1, k, l => if k = 0 then l else mGo f (k / 10) (digB k :: l)
def mT (k : Nat) : ByteArray := ⟨(109 :: mGo (k + 1) k []).toArray⟩
theorem mGo_step {f k : Nat} {l : List UInt8} (hk : 0 < k) (hf : k ≤ f) : ∃ f', f = f' + 1 ∧ k / 10 ≤ f' ∧ mGo (f + 1) k l = mGo (f' + 1) (k / 10) (digB k :: l) := by
  obtain ⟨f', rfl⟩ : ∃ f', f = f' + 1 := ⟨f - 1, by omega⟩
  refine ⟨f', rfl, by omega, ?_⟩
  rw [mGo, if_neg (by omega)]
theorem digit_string (w : World) (j : Nat) : (convert 62 9 (.slice (some ⟨w.heap.size, 0, none⟩) 1 1)).run Tryd.prog (w.alloc (.cells #[.int .u8 (48 + (j : Int) % 10)] 5)) = .ok (.string ⟨#[digB j]⟩) (w.alloc (.cells #[.int .u8 (48 + (j : Int) % 10)] 5)) := by
  have h := run_convert_bytes_back (P := Tryd.prog) (w.alloc (.cells #[.int .u8 (48 + (j : Int) % 10)] 5)) 62 9 5 ⟨w.heap.size, 0, none⟩ 1 [digB j] Tryd.underlying62 Tryd.underlying5 Tryd.underlying9 (fun i hi => by
    obtain rfl : i = 0 := by simp at hi; omega
    have hc : (w.alloc (.cells #[.int .u8 (48 + (j : Int) % 10)] 5)).cell? ⟨w.heap.size, 0, none⟩ = some (.int .u8 (48 + (j : Int) % 10)) := by rw [(Blk.new w 5 #[.int .u8 (48 + (j : Int) % 10)]).cell 0]; rfl
    have e : ((digB j).toNat : Int) = 48 + (j : Int) % 10 := by
      rw [digB, UInt8.toNat_ofNat', Nat.mod_eq_of_lt (by omega)]; omega
    simp only [List.getElem_cons_zero, e]
    rw [add_lit0]; exact hc)
  simpa using h
set_option maxRecDepth 100000 in
set_option maxHeartbeats 1000000 in
theorem markText_any (k : Nat) (h1 : 1 ≤ k) (h2 : k ≤ 1099511627776) (w : World) :
    Calls Tryd.prog 28 #[.int .i64 k] w fun e w' => e = .returned (.string (mT k)) ∧ Below w.heap.size w w' := by
  go_enter Tryd.func28, Tryd.ntmps28
  go_wp2_with fail
  go_loopw [0, 3] (fun v0 v3 wr => ∃ (f j : Nat) (l : List UInt8), j ≤ f ∧ j ≤ 1099511627776 ∧ l.length + j ≤ k ∧ Hid (mGo (k + 1) k [] = mGo (f + 1) j l) ∧ v0 = .int .i64 j ∧ v3 = .string ⟨l.toArray⟩ ∧ Hid (Below w.heap.size w wr)) (fun i _ _ => (intOf i).toNat)
  case atStart => exact ⟨k, k, [], by omega, by omega, by simp, rfl, rfl, rfl, Below.refl _ _⟩
  case round =>
    obtain ⟨f, j, l, hf, hj, hlen, HM, rfl, rfl, BW⟩ := hrel
    by_cases hpos : 0 < j
    · obtain ⟨f', _, hf', hs⟩ := mGo_step (l := l) hpos hf
      have HS := Lib.hid (HM.out.trans hs); clear hs
      have e1 : (j : Int).tmod 10 = (j : Int) % 10 := Int.tmod_eq_emod_of_nonneg (by omega)
      have hb := BW.out.size
      have hcv := digit_string wr j
      have hlj : l.length < k := by omega
      have HB := Lib.hid (ba_cons (digB j) l)
      go_wp2_with fail
      go_roundw
      case rel => exact ⟨_, j / 10, digB j :: l, hf', by omega, by simp; omega, HS, by go_num, by rw [HB.out], BW.out.alloc hb _⟩
      case measure => simp [intOf]; omega
    · obtain rfl : j = 0 := by omega
      have HE := Lib.hid (show mT k = ⟨(109 :: l).toArray⟩ by rw [mT, HM.out]; rfl)
      go_wp2_with fail
      go_ret
      exact ⟨by rw [HE.out, ← ba_cons]; rfl, BW.out⟩

theorem grown_of_below {a w : World} (h : Below a.heap.size a w) (row : Option Nat) : a.grownBy w row := ⟨h.os, h.tape, h.output, h.size, fun i hi _ => h.block i hi⟩
/-- Texts as cells. -/
def txC (xs : List ByteArray) : List Value := xs.map Value.string
theorem txC_len (xs : List ByteArray) : (txC xs).length = xs.length * 1 := by simp [txC]
theorem txC_get (xs : List ByteArray) (k : Nat) (h : k < xs.length) : (txC xs)[k]? = some (.string xs[k]) := by simp [txC, h]
theorem txC_one (xs : List ByteArray) : ∀ u ∈ txC xs, u.oneCell' = true := by
  intro u hu
  simp only [txC, List.mem_map] at hu
  obtain ⟨s, _, rfl⟩ := hu
  rfl
theorem txC_set (ys zs : List ByteArray) (x a : ByteArray) : (txC (ys ++ x :: zs)).set ys.length (.string a) = txC (ys ++ a :: zs) := by simp [txC]
/-- The marks from k on. -/
def marksT (k : Nat) : Nat → List ByteArray
  | 0 => []
  | n + 1 => marksT k n ++ [mT (k + n)]
theorem marksT_len (k n : Nat) : (marksT k n).length = n := by
  induction n with
  | zero => rfl
  | succ n ih => simp [marksT, ih]
theorem marksT_get (k n j : Nat) (h : j < n) : (marksT k n)[j]? = some (mT (k + j)) := by
  induction n with
  | zero => omega
  | succ n ih =>
    by_cases hj : j = n
    · subst hj
      rw [marksT, List.getElem?_append_right (by rw [marksT_len]; exact Nat.le_refl _)]
      simp [marksT_len]
    · rw [marksT, List.getElem?_append_left (by rw [marksT_len]; omega)]
      exact ih (by omega)
end Go.Proofs.YthlpclnfnfbeiaaDoor
