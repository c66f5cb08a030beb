/- subset: the indices whose bits a number has. -/
import Derived.Test.YtihhpmhigmegjaaDoorRows
import Derived.Test.YtihhpmhigmegjaaDoorL0
import Derived.Test.YtihhpmhigmegjaaDoorM0
import Derived.WalkKit
import Derived.ProofKit
import Derived.OpenShut
import Derived.BigQuiet
import Derived.Outline
import Derived.WalkSpells
import Derived.WalkLawsBesides
import Derived.Deep.DeepCutAuto
import Derived.Test.YtihhpmhigmegjaaDoorI0
namespace Go.Proofs.YtihhpmhigmegjaaDoor
open Go.ChangeShapes Go.WideShapes Go.ChangeAt Go.RowKit

/-- The numbers whose bits b has. -/
def bitsI (n b : Nat) : List Nat := (List.range n).filter fun i => b.testBit i
def ints (I : List Nat) : List Int := I.map Int.ofNat
theorem ints_len (I : List Nat) : (ints I).length = I.length := by simp [ints]
theorem ints_mem {I : List Nat} {i : Nat} : ((i : Int) ∈ ints I) ↔ i ∈ I := by
  simp only [ints, List.mem_map]
  constructor
  · rintro ⟨a, ha, e⟩
    have : a = i := Int.ofNat.inj e
    rwa [← this]
  · exact fun h => ⟨i, h, rfl⟩
theorem bits_len (n b : Nat) : (bitsI n b).length ≤ n := by
  have := List.length_filter_le (fun i => b.testBit i) (List.range n)
  simpa [bitsI] using this
theorem bits_yes {n b : Nat} (h : b.testBit n = true) : bitsI (n + 1) b = bitsI n b ++ [n] := by simp [bitsI, List.range_succ, h]
theorem bits_no {n b : Nat} (h : b.testBit n = false) : bitsI (n + 1) b = bitsI n b := by simp [bitsI, List.range_succ, h]
theorem bits_small {k n b : Nat} (hb : b < 2 ^ k) (hk : k ≤ n) : bitsI n b = bitsI k b := by
  obtain ⟨d, rfl⟩ : ∃ d, n = k + d := ⟨n - k, by omega⟩
  clear hk
  induction d with
  | zero => rfl
  | succ d ih =>
    rw [← Nat.add_assoc, bits_no, ih]
    exact Nat.testBit_lt_two_pow (Nat.lt_of_lt_of_le hb (Nat.pow_le_pow_right (by omega) (by omega)))
theorem and_one' (n : Int) : bits .and .i64 n 1 = n % 2 := by
  have h1 : (BitVec.ofInt 64 1).toNat = 2 ^ 1 - 1 := by decide
  have key : (BitVec.ofInt 64 n &&& BitVec.ofInt 64 1).toNat = (n % ((2 ^ 64 : Nat) : Int)).toNat % 2 ^ 1 := by
    rw [BitVec.toNat_and, BitVec.toNat_ofInt, h1, Nat.and_two_pow_sub_one_eq_mod]
  show IntKind.i64.wrap ((BitVec.ofInt 64 n &&& BitVec.ofInt 64 1).toNat : Nat) = n % 2
  rw [key, IntKind.wrap_i64]
  omega
theorem quo_nat (b k : Nat) : (b : Int) / 2 ^ k = ((b / 2 ^ k : Nat) : Int) := by simp
set_option maxRecDepth 100000 in
set_option maxHeartbeats 1000000 in
theorem subset_any (n b : Nat) (hb : b < 2 ^ n) (hn : n ≤ 60) (w : World) :
    Calls Tryd.prog 52 #[.int .i64 b] w fun e w' => ∃ v, e = .returned v ∧ w'.ownsRow w.heap.size 2 1 v (bitsI n b).length (inC (ints (bitsI n b))) ∧ Below w.heap.size w w' := by
  obtain ⟨i0, hi0, hz0, hz1, hz2⟩ := info_parts infoInt
  go_enter Tryd.func52, Tryd.ntmps52
  go_wp2_with fail
  go_loopw [3, 4] (fun v3 v4 wr => ∃ (k m : Nat) (B : Option Addr) (d : Nat), k ≤ n ∧ m ≤ k ∧ Hid ((bitsI k b).length = m) ∧ v3 = .slice B m d ∧ Hid (wr.ownsRow w.heap.size 2 1 (.slice B m d) m (inC (ints (bitsI k b)))) ∧ Hid (Below w.heap.size w wr) ∧ v4 = .int .i64 k) (fun _ i _ => n + 1 - (intOf i).toNat)
  case atStart => exact ⟨0, 0, none, 0, by omega, by omega, rfl, rfl, World.ownsRow_nil _ _ _ _, Below.refl _ _, rfl⟩
  case round =>
    obtain ⟨k, m, B, d, hk, hmk, HN, rfl, HO, BW, rfl⟩ := hrel
    have hq := quo_nat b k
    have hk64 : k ≤ 64 := by omega
    have hk63 : k ≤ 63 := by omega
    have hkm : min k 64 = k := by omega
    obtain ⟨q, hq2⟩ : ∃ q, b / 2 ^ k = q := ⟨_, rfl⟩
    rw [hq2] at hq
    have HQ := Lib.hid hq2; clear hq2
    by_cases hpos : 0 < q
    · have hlt : k < n := by
        rcases Nat.lt_or_ge k n with h | h
        · exact h
        · have := HQ.out
          rw [Nat.div_eq_of_lt (Nat.lt_of_lt_of_le hb (Nat.pow_le_pow_right (by omega) h))] at this
          omega
      have hbit : b.testBit k = decide (q % 2 = 1) := by rw [Nat.testBit_eq_decide_div_mod_eq, HQ.out]
      have hand := and_one' (q : Int)
      by_cases hodd : q % 2 = 1
      · have ho : ((q : Int) % 2 == 1) = true := by simp; omega
        have HB := Lib.hid (bits_yes (hbit.trans (decide_eq_true hodd)))
        clear hodd hbit
        go_wp2_with (at_builtin; refine wpList_append_any _ rfl (.tmp 16) (.tmp 18) _ rfl w.heap.size 2 i0 _ 1 8 Tryd.underlying68 hi0 hz0 hz1 hz2 rfl (by omega) (.slice B m d) m (inC (ints (bitsI k b))) rfl (HO.out.alloc _) _ (some ⟨wr.heap.size, 0, none⟩) 1 1 [.int .i64 k] rfl (new_in1 _ _ _) (by simp [Value.oneCell']) (by simp only [maxLen]; omega) (by omega) (by have := BW.out.size; simp; omega) ?_; intro v4 w4 hown4 hg4 hat4; obtain ⟨B4, d4, rfl, _⟩ := own_shape hown4)
        go_roundw
        case rel => exact ⟨k + 1, m + 1, B4, d4, by omega, by omega, by have := HN.out; rw [HB.out]; simp [Hid, this], rfl, by rw [HB.out]; simpa [ints, inC, Hid] using hown4, below_own (BW.out.alloc BW.out.size _) (HO.out.alloc _) hg4 (Nat.le_refl _) (by have := BW.out.size; simp; omega), by go_num⟩
        case measure => simp [intOf]; omega
      · have ho : ((q : Int) % 2 == 1) = false := by simp; omega
        have HB := Lib.hid (bits_no (hbit.trans (decide_eq_false hodd)))
        clear hodd hbit
        go_wp2_with fail
        go_roundw
        case rel => exact ⟨k + 1, m, B, d, by omega, by omega, by rw [HB.out]; exact HN.out, rfl, by rw [HB.out]; exact HO.out, BW.out, by go_num⟩
        case measure => simp [intOf]; omega
    · obtain rfl : q = 0 := by omega
      have HB := Lib.hid (show bitsI n b = bitsI k b from bits_small (by
        have h := HQ.out
        rcases Nat.div_eq_zero_iff.1 h with h | h
        · have := Nat.pow_pos (n := k) (show 0 < 2 by omega); omega
        · exact h) hk)
      have HN' := HN.out
      go_wp2_with fail
      go_ret
      exact ⟨_, rfl, by rw [HB.out, HN']; exact HO.out, BW.out⟩
end Go.Proofs.YtihhpmhigmegjaaDoor
