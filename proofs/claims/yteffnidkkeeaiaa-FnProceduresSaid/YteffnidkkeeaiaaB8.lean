/- NextSteps, of the program and of the reference. -/
import Derived.Test.YteffnidkkeeaiaaRows
import Derived.Test.YteffnidkkeeaiaaL0
import Derived.Test.YteffnidkkeeaiaaM0
import Derived.WalkKit
import Derived.ProofKit
import Derived.OpenShut
import Derived.BigQuiet
import Derived.Outline
import Derived.WalkSpells
import Derived.WalkLawsBesides
import Derived.Deep.DeepCutAuto
import Derived.Test.YteffnidkkeeaiaaB7
import Derived.Test.YteffnidkkeeaiaaC6
import Derived.Lib.Hide
namespace Go.Proofs.Yteffnidkkeeaiaa
open Go.ChangeShapes Go.WideShapes Go.ChangeAt Go.RowKit

theorem runI_app (xs : List Stp) (x : Stp) : ∀ (s : St) (k : Nat), runI s k (xs ++ [x]) = (runI s k xs).bind fun t => runI t (k + xs.length) [x] := by
  induction xs with
  | nil => intro s k; simp [runI]
  | cons y r ih =>
    intro s k
    simp only [List.cons_append, runI]
    split
    · rw [ih]; simp only [List.length_cons]; rw [show k + 1 + r.length = k + (r.length + 1) from by omega]
      simp [runI]
    · rfl
theorem next_law {xs : List Stp} (h : isProc xs = true) (x : Stp) (hx : inB x.2 0 7 = true) : isProc (xs ++ [x]) = allowB (runR xs) xs.length x := by
  rw [← isSome_law, runI_app, run_law, if_pos h]
  simp only [Option.bind_some, Nat.zero_add, runI, hx, Bool.true_and]
  cases allowB (runR xs) xs.length x <;> simp

/-- The kinds below k that are allowed next. -/
def nextTo (xs : List Stp) (day : Int) : Nat → List Int
  | 0 => []
  | k + 1 => nextTo xs day k ++ (if isProc (xs ++ [(day, (k : Int))]) = true then [(k : Int)] else [])
theorem nextTo_len (xs : List Stp) (day : Int) (k : Nat) : (nextTo xs day k).length ≤ k := by
  induction k with
  | zero => simp [nextTo]
  | succ k ih => simp only [nextTo, List.length_append]; split <;> simp <;> omega
def nextR (xs : List Stp) (day : Int) : List Int × Int := if codeB xs day = 0 then (nextTo xs day 8, 0) else ([], codeB xs day)
theorem infoInt : (Try.prog.info? 2).map (fun i => (i.zero, i.size, i.bytes)) = some (some (.int .i64 0), 1, 8) := by kernel_rfl
theorem new_reads1 (w : World) (t : TypeId) (a : Value) : Reads (w.alloc (.cells #[a] t)) (w.heap.size + 1) 1 (some ⟨w.heap.size, 0, none⟩) 1 [a] := by
  refine ⟨rfl, fun _ => ⟨_, 0, rfl, by omega, fun j u hu => ?_⟩⟩
  have := (Blk.new w t #[a]).cell j
  rw [Nat.zero_add, this]
  simpa using hu

set_option maxRecDepth 100000 in
set_option maxHeartbeats 2000000 in
theorem specNext_any (xs : List Stp) (day : Int) (A : Option Addr) (c : Nat) (w : World) (hr : Reads w w.heap.size 2 A xs.length (stC xs)) (hm : xs.length ≤ 9223372036854775807) :
    Calls Try.prog 35 #[.slice A xs.length c, .int .i64 day] w fun e w' => ∃ v, e = .returned (.tuple #[v, .int .i64 (nextR xs day).2]) ∧ w'.ownsRow w.heap.size 2 1 v (nextR xs day).1.length (iC (nextR xs day).1) ∧ Below w.heap.size w w' := by
  have HR := Lib.hid hr; clear hr
  obtain ⟨i0, hi0, hz0, hz1, hz2⟩ := info_parts infoInt
  by_cases hc : codeB xs day = 0
  · have hp : isProc xs = true := by
      unfold codeB at hc; split at hc
      · assumption
      · cases hc
    have hlen := isProc_len hp
    clear hp
    have HC := Lib.hid hc; clear hc
    have HN : Hid (nextR xs day = (nextTo xs day 8, 0)) := by unfold Hid; rw [nextR, if_pos HC.out]
    go_enter Try.func35, Try.ntmps35
    go_wp2_with fail
    refine (l25Code_any xs _ _ _ _ HR.out hm).mono ?_; rw [HC.out]; rintro e w1 ⟨rfl, b1⟩
    go_wp2_with fail
    go_loopw [7, 8] (fun v7 v8 wr => ∃ (k n : Nat) (B : Option Addr) (d : Nat), k ≤ 8 ∧ (nextTo xs day k).length = n ∧ v7 = .slice B n d ∧ wr.ownsRow w.heap.size 2 1 (.slice B n d) n (iC (nextTo xs day k)) ∧ Below w.heap.size w wr ∧ v8 = .int .i64 k) (fun _ i _ => 8 - (intOf i).toNat)
    case atStart => exact ⟨0, 0, _, _, by omega, rfl, rfl, World.ownsRow_made (e := 2) (size := 1) w1 #[] 0 b1.size (by decide) rfl, b1.alloc b1.size _, rfl⟩
    case round =>
      obtain ⟨k, n, B, d, hk, hn, rfl, hown, hb, rfl⟩ := hrel
      have HN' := Lib.hid hn; clear hn
      have HO := Lib.hid hown; clear hown
      by_cases hlt : k < 8
      · have hnl := nextTo_len xs day k
        rw [HN'.out] at hnl
        cases hp' : isProc (xs ++ [(day, (k : Int))])
        all_goals
          have HP := Lib.hid hp'; clear hp'
          have L2' := Lib.hid (show (xs ++ [(day, (k : Int))]).length = xs.length + 1 by simp)
          go_wp2_with fail
          refine (with_any xs A c day k wr ((HR.out.below hb).more hb.size) (by omega)).mono ?_; rintro e w2 ⟨v2, rfl, own2, b2⟩
          obtain ⟨A2, c2, rfl, _⟩ := own_shape own2
          have R2 := Lib.hid (Reads.of_own own2)
          have B2 := Lib.hid (hb.trans (b2.mono hb.size))
          have O2 := Lib.hid (own_below HO.out b2)
          clear own2 b2
          go_wp2_with fail
          refine (specIs_n (n := xs.length + 1) L2'.out.symm _ _ _ R2.out (by omega)).mono ?_; rw [HP.out]; rintro e w3 ⟨rfl, b3⟩
          have B3 := Lib.hid (B2.out.trans (b3.mono B2.out.size))
          have O3 := Lib.hid (own_below O2.out b3)
          clear b3
          go_wp2_with (at_builtin; refine wpList_append_any _ rfl (.tmp 26) (.tmp 28) _ rfl w.heap.size 2 i0 _ 1 8 Try.underlying54 hi0 hz0 hz1 hz2 rfl (by omega) (.slice B n d) n (iC (nextTo xs day k)) rfl (O3.out.alloc _) _ (some ⟨w3.heap.size, 0, none⟩) 1 1 [.int .i64 k] rfl (new_reads1 _ _ _) (by simp [Value.oneCell']) (by simp only [maxLen]; omega) (by omega) (by have := B3.out.size; simp; omega) ?_; intro v4 w4 hown4 hg4 hat4; obtain ⟨B4, d4, rfl, _⟩ := own_shape hown4)
          go_roundw
          case rel =>
            first
              | exact ⟨k + 1, n, B, d, by omega, by rw [nextTo, HP.out]; simpa using HN'.out, rfl, by rw [nextTo, HP.out]; simpa using O3.out, B3.out, by go_num⟩
              | exact ⟨k + 1, n + 1, B4, d4, by omega, by rw [nextTo, HP.out]; simpa using HN'.out, rfl, by rw [nextTo, HP.out]; simpa [iC] using hown4, below_own (B3.out.alloc B3.out.size _) (O3.out.alloc _) hg4 (Nat.le_refl _) (by have := B3.out.size; simp; omega), by go_num⟩
          case measure => simp [intOf]; omega
      · obtain rfl : k = 8 := by omega
        go_wp2_with fail
        go_ret2
        exact ⟨_, by rw [HN.out]; rfl, by rw [HN.out, HN'.out]; exact HO.out, hb⟩
  · have hne : (codeB xs day != 0) = true := by rw [bne_iff_ne]; exact hc
    have HC := Lib.hid hc; clear hc
    go_enter Try.func35, Try.ntmps35
    go_wp2_with fail
    refine (l25Code_any xs _ _ _ _ HR.out hm).mono ?_; rintro e w1 ⟨rfl, b1⟩
    go_wp2_with fail
    go_ret2
    refine ⟨_, by rw [nextR, if_neg HC.out]; rfl, ?_, b1⟩
    rw [nextR, if_neg HC.out]
    exact World.ownsRow_nil _ _ _ _

set_option maxRecDepth 100000 in
set_option maxHeartbeats 2000000 in
theorem implNext_any (xs : List Stp) (day : Int) (A : Option Addr) (c : Nat) (w : World) (hr : Reads w w.heap.size 2 A xs.length (stC xs)) (hm : xs.length ≤ 9223372036854775807) :
    Calls Try.prog 36 #[.slice A xs.length c, .int .i64 day] w fun e w' => ∃ v, e = .returned (.tuple #[v, .int .i64 (nextR xs day).2]) ∧ w'.ownsRow w.heap.size 2 1 v (nextR xs day).1.length (iC (nextR xs day).1) ∧ Below w.heap.size w w' := by
  have HR := Lib.hid hr; clear hr
  obtain ⟨i0, hi0, hz0, hz1, hz2⟩ := info_parts infoInt
  cases hp : isProc xs
  · have HP := Lib.hid hp; clear hp
    go_enter Try.func36, Try.ntmps36
    go_wp2_with fail
    refine (newFile_no HP.out _ _ _ HR.out hm).mono ?_; rintro e w1 ⟨rfl, b1⟩
    go_wp2_with fail
    go_ret2
    have hc : codeB xs day = 1 := by rw [codeB, HP.out]; rfl
    have ht : nextR xs day = ([], 1) := by rw [nextR, hc]; rfl
    refine ⟨_, by rw [ht]; rfl, ?_, b1⟩
    rw [ht]
    exact World.ownsRow_nil _ _ _ _
  · have hlen := isProc_len hp
    have HP := Lib.hid hp; clear hp
    cases hi : inB day 0 1000000000000
    · have HI := Lib.hid hi; clear hi
      go_enter Try.func36, Try.ntmps36
      go_wp2_with fail
      refine (newFile_yes HP.out _ _ _ HR.out hm).mono ?_; rintro e w1 ⟨g, B, d, rfl, hF, _, b1⟩
      clear hF
      go_wp2_with (go_at_call 67; refine (isDay_any _ _).mono ?_; rw [HI.out]; rintro e w' ⟨rfl, rfl⟩)
      go_ret2
      have hc : codeB xs day = 2 := by rw [codeB, HP.out, HI.out]; rfl
      have ht : nextR xs day = ([], 2) := by rw [nextR, hc]; rfl
      refine ⟨_, by rw [ht]; rfl, ?_, b1⟩
      rw [ht]
      exact World.ownsRow_nil _ _ _ _
    · have hc := Lib.hid (show codeB xs day = 0 by rw [codeB, HP.out, hi]; rfl)
      have HN : Hid (nextR xs day = (nextTo xs day 8, 0)) := by unfold Hid; rw [nextR, if_pos hc.out]
      have HI := Lib.hid hi; clear hi
      go_enter Try.func36, Try.ntmps36
      go_wp2_with fail
      refine (newFile_yes HP.out _ _ _ HR.out hm).mono ?_; rintro e w1 ⟨g, Bf, df, rfl, hF, hfit, b1⟩
      have HF := Lib.hid hF; clear hF
      go_wp2_with (go_at_call 67; refine (isDay_any _ _).mono ?_; rw [HI.out]; rintro e w' ⟨rfl, rfl⟩)
      go_loopw [8, 9] (fun v7 v8 wr => ∃ (k n : Nat) (B : Option Addr) (d : Nat), k ≤ 8 ∧ (nextTo xs day k).length = n ∧ v7 = .slice B n d ∧ wr.ownsRow w1.heap.size 2 1 (.slice B n d) n (iC (nextTo xs day k)) ∧ Below w1.heap.size w1 wr ∧ v8 = .int .i64 k) (fun _ i _ => 8 - (intOf i).toNat)
      case atStart => exact ⟨0, 0, none, 0, by omega, rfl, rfl, World.ownsRow_nil _ _ _ _, Below.refl _ _, rfl⟩
      case round =>
        obtain ⟨k, n, B, d, hk, hn, rfl, hown, hb, rfl⟩ := hrel
        have HN' := Lib.hid hn; clear hn
        have HO := Lib.hid hown; clear hown
        by_cases hlt : k < 8
        · have hnl := nextTo_len xs day k
          rw [HN'.out] at hnl
          have hal := next_law HP.out (day, (k : Int)) (by simp [inB]; omega)
          cases hp' : allowB (runR xs) xs.length (day, (k : Int))
          all_goals
            have HA := Lib.hid hp'
            have HP' := Lib.hid (hal.trans hp'); clear hal hp'
            go_wp2_with fail
            refine (allows_any _ hfit day k _ _ _ _ wr (HF.out.below hb).2.1).mono ?_; rw [HA.out]; rintro e w3 ⟨rfl, b3⟩
            have B3 := Lib.hid (hb.trans (b3.mono hb.size))
            have O3 := Lib.hid (own_below HO.out b3)
            clear b3
            go_wp2_with (at_builtin; refine wpList_append_any _ rfl (.tmp 31) (.tmp 33) _ rfl w1.heap.size 2 i0 _ 1 8 Try.underlying54 hi0 hz0 hz1 hz2 rfl (by omega) (.slice B n d) n (iC (nextTo xs day k)) rfl (O3.out.alloc _) _ (some ⟨w3.heap.size, 0, none⟩) 1 1 [.int .i64 k] rfl (new_reads1 _ _ _) (by simp [Value.oneCell']) (by simp only [maxLen]; omega) (by omega) (by have := B3.out.size; simp; omega) ?_; intro v4 w4 hown4 hg4 hat4; obtain ⟨B4, d4, rfl, _⟩ := own_shape hown4)
            go_roundw
            case rel =>
              first
                | exact ⟨k + 1, n, B, d, by omega, by rw [nextTo, HP'.out]; simpa using HN'.out, rfl, by rw [nextTo, HP'.out]; simpa using O3.out, B3.out, by go_num⟩
                | exact ⟨k + 1, n + 1, B4, d4, by omega, by rw [nextTo, HP'.out]; simpa using HN'.out, rfl, by rw [nextTo, HP'.out]; simpa [iC] using hown4, below_own (B3.out.alloc B3.out.size _) (O3.out.alloc _) hg4 (Nat.le_refl _) (by have := B3.out.size; simp; omega), by go_num⟩
            case measure => simp [intOf]; omega
        · obtain rfl : k = 8 := by omega
          go_wp2_with fail
          go_ret2
          exact ⟨_, by rw [HN.out]; rfl, by rw [HN.out, HN'.out]; exact own_mono HO.out b1.size, b1.trans (hb.mono b1.size)⟩
end Go.Proofs.Yteffnidkkeeaiaa
