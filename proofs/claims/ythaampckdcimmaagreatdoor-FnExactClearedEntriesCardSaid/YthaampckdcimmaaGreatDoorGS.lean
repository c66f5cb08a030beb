/- The order of precedence, of the program. -/
import Derived.Test.YthaampckdcimmaaGreatDoorRows
import Derived.Test.YthaampckdcimmaaGreatDoorL0
import Derived.Test.YthaampckdcimmaaGreatDoorM0
import Derived.WalkKit
import Derived.ProofKit
import Derived.OpenShut
import Derived.BigQuiet
import Derived.Outline
import Derived.WalkSpells
import Derived.WalkLawsBesides
import Derived.Deep.DeepCutAuto
import Derived.Test.YthaampckdcimmaaGreatDoorGR
namespace Go.Proofs.YthaampckdcimmaaGreatDoor
open Go.ChangeShapes Go.WideShapes Go.ChangeAt Go.RowKit Go.Sort

theorem lengthE (A : Option Addr) (n c : Nat) (_hn : n ≤ 9223372036854775807) (w : World) : Calls Tryz.prog 90 #[.slice A n c] w fun e w' => e = .returned (.int .i64 n) ∧ w = w' := by
  go_enter Tryz.func90, Tryz.ntmps90
  go_wp2
  go_ret
  exact ⟨rfl, rfl⟩
set_option maxRecDepth 100000 in
set_option maxHeartbeats 1000000 in
theorem insSort_nil (fv : Value) (w : World) : Calls Tryz.prog 125 #[.slice none 0 0, .int .i64 0, .int .i64 0, fv] w fun e w' => e = .returned (.tuple #[]) ∧ Below w.heap.size w w' := by
  go_enter Tryz.func125, Tryz.ntmps125
  go_wp2_with fail
  refine wp_loop_rounds 1 ?_; rw [rounds_succ]
  go_wp2_with fail
  go_end0
  exact ⟨rfl, Below.refl _ _⟩
set_option maxRecDepth 100000 in
set_option maxHeartbeats 1000000 in
theorem stable_any (v fv : Value) (n : Nat) (hn : n ≤ 12) (Q : World → World → Prop) (w : World)
    (h : Calls Tryz.prog 125 #[v, .int .i64 0, .int .i64 n, fv] w fun e w' => e = .returned (.tuple #[]) ∧ Q w w') :
    Calls Tryz.prog 109 #[v, .int .i64 n, fv] w fun e w' => e = .returned (.tuple #[]) ∧ Q w w' := by
  have H := Lib.hid h; clear h
  go_enter Tryz.func109, Tryz.ntmps109
  go_wp2_with fail
  refine wp_loop_rounds 1 ?_; rw [rounds_succ]
  go_wp2_with fail
  refine H.out.mono ?_; rintro e w' ⟨rfl, hq⟩
  have HQ := Lib.hid hq; clear hq
  go_wp2_with fail
  refine wp_loop_rounds 1 ?_; rw [rounds_succ]
  go_wp2_with fail
  go_end0
  exact ⟨rfl, HQ.out⟩
set_option maxRecDepth 100000 in
theorem sortStable_any (A : Option Addr) (n c : Nat) (fv : Value) (hn : n ≤ 12) (Q : World → World → Prop) (w : World)
    (h : Calls Tryz.prog 125 #[.slice A n c, .int .i64 0, .int .i64 n, fv] w fun e w' => e = .returned (.tuple #[]) ∧ Q w w') :
    Calls Tryz.prog 91 #[.slice A n c, fv] w fun e w' => e = .returned (.tuple #[]) ∧ Q w w' := by
  have H := Lib.hid (stable_any (.slice A n c) fv n hn Q w h); clear h
  go_enter Tryz.func91, Tryz.ntmps91
  go_wp2_with fail
  refine H.out.mono ?_; rintro e w' ⟨rfl, hq⟩
  have HQ := Lib.hid hq; clear hq
  go_wp2_with fail
  go_end0
  exact ⟨rfl, HQ.out⟩
set_option maxRecDepth 100000 in
set_option maxHeartbeats 2000000 in
theorem implOrd_any (xs : List Ent) (A : Option Addr) (c : Nat) (w : World) (h : HasEnt w xs A) (hm : xs.length ≤ 12) :
    Calls Tryz.prog 61 #[.slice A xs.length c] w fun e w' => ∃ v, e = .returned v ∧ w'.ownsRow w.heap.size 2 1 v (ordL (ltE xs) xs.length).length (inC (ordL (ltE xs) xs.length)) ∧ Below w.heap.size w w' := by
  have hmf : ∀ (fn : Fn) (first cap : Array Value) (w : World), (Instr.makeFunc fn first cap).run Tryz.prog w = .ok (.func fn first cap) w := fun _ _ _ _ => rfl
  obtain ⟨i0, hi0, hz0, hz1, hz2⟩ := info_parts infoInt
  have H := Lib.hid h; clear h
  have KN := Lib.hid (blks_one w 24 #[.slice A xs.length c])
  have HLn := Lib.hid (lengthE A xs.length c (by omega))
  have HIns := Lib.hid (fun hp gb t w0 w h hb hB g cap hO hg => insSort_any xs hm hp gb t A c w0 w h hb hB g cap hO hg)
  have HLl := Lib.hid (ordL_len (ltE xs) xs.length)
  have HL0 := Lib.hid (show ordL (ltE xs) 0 = [] from rfl)
  rw [HLl.out]
  go_enter Tryz.func61, Tryz.ntmps61
  go_upto_region 1 with (fail)
  generalize hW : w.alloc (.cells #[.slice A xs.length c] 24) = W
  obtain ⟨kb, bw, hsz⟩ := KN.out W hW.symm
  clear hW
  have KB := Lib.hid kb; have BW0 := Lib.hid bw; have LB := Lib.hid kb.lt; clear kb bw
  have b0 : W.cell? ⟨w.heap.size, 0, none⟩ = some (.slice A xs.length c) := by rw [KB.out.cell]; rfl
  go_wp2_with fail
  refine (HLn.out W).mono ?_; rintro e w' ⟨rfl, rfl⟩
  go_wp2_with fail
  go_loopw [3, 7] (fun v3 v7 wr => ∃ (k : Nat) (B : Option Addr) (d : Nat), k ≤ xs.length ∧ v3 = .slice B k d ∧ Hid (wr.ownsRow W.heap.size 2 1 (.slice B k d) k (inC (upL 0 k))) ∧ Hid (k = 0 → B = none ∧ d = 0) ∧ Hid (Below W.heap.size W wr) ∧ v7 = .int .i64 k) (fun _ i _ => xs.length - (intOf i).toNat)
  case atStart => exact ⟨0, none, 0, by omega, rfl, World.ownsRow_nil _ _ _ _, fun _ => ⟨rfl, rfl⟩, Below.refl _ _, rfl⟩
  case round =>
    obtain ⟨k, B, d, hk, rfl, HO, HZ, BW, rfl⟩ := hrel
    by_cases hlt : k < xs.length
    · have hl : (upL 0 k).length = k := upL_len 0 k
      have HUp := Lib.hid (upL_snoc k)
      go_wp2_with (at_builtin; refine wpList_append_any _ rfl (.tmp 10) (.tmp 12) _ rfl W.heap.size 2 i0 _ 1 8 Tryz.underlying31 hi0 hz0 hz1 hz2 rfl (by omega) (.slice B k d) k (inC (upL 0 k)) rfl (HO.out.alloc _) _ (some ⟨wr.heap.size, 0, none⟩) 1 1 [.int .i64 k] rfl (new_in1 _ _ _) (by simp [Value.oneCell']) (by simp only [maxLen]; omega) (by omega) (by have := BW.out.size; simp; omega) ?_; intro v4 w4 hown4 hg4 hat4; obtain ⟨B4, d4, rfl, _⟩ := own_shape hown4)
      go_roundw
      case rel => exact ⟨k + 1, B4, d4, by omega, rfl, by rw [HUp.out, inC_snoc]; exact hown4, fun h => by omega, below_own (BW.out.alloc BW.out.size _) (HO.out.alloc _) hg4 (Nat.le_refl _) (by have := BW.out.size; simp; omega), by go_num⟩
      case measure => simp [intOf]; omega
    · obtain rfl : k = xs.length := by omega
      rcases Nat.eq_zero_or_pos xs.length with hz | hp
      · obtain ⟨rfl, rfl⟩ := HZ.out hz
        have HS := Lib.hid (fun fv => sortStable_any none 0 0 fv (by omega) (fun w w' => Below w.heap.size w w') wr (insSort_nil fv wr))
        have HOo := Lib.hid (show ordL (ltE xs) xs.length = [] by rw [hz]; rfl)
        clear HO HIns HLn HLl H KB b0
        have Hz := Lib.hid hz
        rw [hz]
        clear hz
        go_wp2_with fail
        refine (HS.out _).mono ?_; rintro e w2 ⟨rfl, b2⟩
        go_wp2_with fail
        go_ret
        exact ⟨_, rfl, by rw [HOo.out, Hz.out]; exact World.ownsRow_nil _ _ _ _, BW0.out.trans ((BW.out.trans (b2.mono BW.out.size)).mono BW0.out.size)⟩
      · obtain ⟨g, cap, hv, hbg, hgl⟩ := HO.out.form hp
        simp only [Value.slice.injEq, true_and] at hv
        obtain ⟨rfl, rfl⟩ := hv
        have HS := Lib.hid (sortStable_any (some ⟨g, 0, none⟩) xs.length d (.func (.func 92) #[] #[.pointer (some ⟨w.heap.size, 0, none⟩)]) hm (fun w w' => w'.ownsRow W.heap.size 2 1 (.slice (some ⟨g, 0, none⟩) xs.length d) xs.length (inC (ordL (ltE xs) xs.length)) ∧ w.grownBy w' (some g)) wr (HIns.out hp w.heap.size _ W wr ((H.out.below BW0.out)) KB.out BW.out g d HO.out hbg))
        clear HIns b0
        go_wp2_with fail
        refine HS.out.mono ?_; rintro e w2 ⟨rfl, o2, g2⟩
        have O2 := Lib.hid o2; have G2 := Lib.hid g2; clear o2 g2
        go_wp2_with fail
        go_ret
        exact ⟨_, rfl, own_mono O2.out BW0.out.size, BW0.out.trans ((BW.out.grown G2.out BW.out.size (fun k hk => by injection hk with hk; omega)).mono BW0.out.size)⟩
end Go.Proofs.YthaampckdcimmaaGreatDoor
