/- The program's ShortestRest: a search by levels. -/
import Derived.Test.YteffnidkkeeaiaaRows
import Derived.Test.YteffnidkkeeaiaaL0
import Derived.Test.YteffnidkkeeaiaaM0
import Derived.WalkKit
import Derived.ProofKit
import Derived.OpenShut
import Derived.BigQuiet
import Derived.Outline
import Derived.WalkSpells
import Derived.WalkLawsBesides
import Derived.Deep.DeepCutAuto
import Derived.Test.YteffnidkkeeaiaaP5
import Derived.Test.YteffnidkkeeaiaaB6
import Derived.Deep.LoopGhost
namespace Go.Proofs.Yteffnidkkeeaiaa
open Go.ChangeShapes Go.WideShapes Go.ChangeAt Go.RowKit

def ptrC (gs : List Nat) : List Value := gs.map fun g => .pointer (some ⟨g, 0, none⟩)
theorem ptrC_get (gs : List Nat) (j : Nat) (h : j < gs.length) : (ptrC gs)[j]? = some (.pointer (some ⟨gs[j], 0, none⟩)) := by simp [ptrC, h]
def FileP (w : World) (g : Nat) (y : List Stp) : Prop := (∃ A c, File w g (runR y) y A y.length c) ∧ Fit (runR y) ∧ isProc y = true
def FilesP (w : World) (L : List (List Stp)) (gs : List Nat) : Prop := gs.length = L.length ∧ ∀ j (h1 : j < gs.length) (h2 : j < L.length), FileP w gs[j] L[j]
theorem FileP.below {w w' : World} {g : Nat} {y : List Stp} (h : FileP w g y) (hb : Below w.heap.size w w') : FileP w' g y := by
  obtain ⟨⟨A, c, hF⟩, h2⟩ := h
  exact ⟨⟨A, c, hF.below hb⟩, h2⟩
theorem FilesP.below {w w' : World} {L : List (List Stp)} {gs : List Nat} (h : FilesP w L gs) (hb : Below w.heap.size w w') : FilesP w' L gs :=
  ⟨h.1, fun j h1 h2 => (h.2 j h1 h2).below hb⟩
theorem own_types {w : World} {b1 b2 s1 s2 n1 n2 : Nat} {e1 e2 : TypeId} {v1 v2 : Value} {l1 l2 : List Value} (h1 : w.ownsRow b1 e1 s1 v1 n1 l1) (h2 : w.ownsRow b2 e2 s2 v2 n2 l2) (he : e1 ≠ e2) : v1.ownBlock = none ∨ v1.ownBlock ≠ v2.ownBlock := by
  rcases h1.2 with ⟨rfl, _⟩ | ⟨g, cap, cur, rfl, _, hg, _⟩
  · exact .inl rfl
  · rcases h2.2 with ⟨rfl, _⟩ | ⟨g', cap', cur', rfl, _, hg', _⟩
    · exact .inr (by simp [Value.ownBlock])
    · refine .inr fun h => ?_
      simp [Value.ownBlock] at h
      subst h
      rw [hg] at hg'
      simp at hg'
      exact he hg'.2
theorem FileP.row {w w' : World} {g : Nat} {y : List Stp} {base m : Nat} {v : Value} {ps : List Value} (h : FileP w g y) (hv : w.ownsRow base 82 1 v m ps) (hg : w.grownBy w' v.ownBlock) : FileP w' g y := by
  obtain ⟨⟨A, c, h1, h2, h3, h4, h5⟩, r⟩ := h
  have o := h5.kept hg (own_types h5 hv (by decide))
  refine ⟨⟨A, c, h1, h2.grown hg ?_, Reads.of_own o, h4, o⟩, r⟩
  rcases hv.2 with ⟨rfl, _⟩ | ⟨g', cap', cur', rfl, _, hg', _⟩
  · simp [Value.ownBlock]
  · simp only [Value.ownBlock, ne_eq, Option.some.injEq]
    rintro rfl
    have h2' := h2
    unfold Blk at h2'
    rw [hg'] at h2'
    simp at h2'
theorem FilesP.row {w w' : World} {L : List (List Stp)} {gs : List Nat} {base m : Nat} {v : Value} {ps : List Value} (h : FilesP w L gs) (hv : w.ownsRow base 82 1 v m ps) (hg : w.grownBy w' v.ownBlock) : FilesP w' L gs :=
  ⟨h.1, fun j h1 h2 => (h.2 j h1 h2).row hv hg⟩
theorem FilesP.snoc {w : World} {L : List (List Stp)} {gs : List Nat} {g : Nat} {y : List Stp} (h : FilesP w L gs) (hy : FileP w g y) : FilesP w (L ++ [y]) (gs ++ [g]) := by
  refine ⟨by simp [h.1], fun j h1 h2 => ?_⟩
  by_cases hj : j < gs.length
  · rw [List.getElem_append_left hj, List.getElem_append_left (by rw [← h.1]; exact hj)]
    exact h.2 j hj _
  · have e : j = gs.length := by simp at h1; omega
    subst e
    have e2 := h.1
    rw [List.getElem_append_right (by omega), List.getElem_append_right (by omega)]
    simpa [e2] using hy
/-- The files of the next level, as far as they are collected, in memory that is newer than wo. -/
def NextP (wo w : World) (M : List (List Stp)) (gs : List Nat) (A : Option Addr) (n c : Nat) : Prop :=
  n = M.length ∧ w.ownsRow wo.heap.size 82 1 (.slice A n c) n (ptrC gs) ∧ FilesP w M gs
theorem NextP.below {wo w w' : World} {M : List (List Stp)} {gs : List Nat} {A : Option Addr} {n c : Nat} (h : NextP wo w M gs A n c) (hb : Below w.heap.size w w') : NextP wo w' M gs A n c :=
  ⟨h.1, own_below h.2.1 hb, h.2.2.below hb⟩
theorem infoPtr : (Try.prog.info? 82).map (fun i => (i.zero, i.size, i.bytes)) = some (some (.pointer none), 1, 8) := by kernel_rfl

set_option maxRecDepth 100000 in
set_option maxHeartbeats 4000000 in
theorem implShort_any (xs : List Stp) (day o : Int) (A : Option Addr) (c : Nat) (w : World) (hr : Reads w w.heap.size 2 A xs.length (stC xs)) (hm : xs.length ≤ 9223372036854775807) :
    Calls Try.prog 41 #[.slice A xs.length c, .int .i64 day, .int .i64 o] w fun e w' => ∃ v, e = .returned (.tuple #[v, .int .i64 (shortR day o xs).2]) ∧ w'.ownsRow w.heap.size 50 2 v (shortR day o xs).1.length (stC (shortR day o xs).1) ∧ Below w.heap.size w w' := by
  have HR := Lib.hid hr; clear hr
  obtain ⟨i0, hi0, hz0, hz1, hz2⟩ := info_parts infoStep
  obtain ⟨j0, hj0, hy0, hy1, hy2⟩ := info_parts infoPtr
  cases hp : isProc xs
  · have hN : shortR day o xs = ([], 1) := by simp [shortR, codeB, hp]
    have HP := Lib.hid hp; clear hp
    rw [hN]
    clear hN
    go_enter Try.func41, Try.ntmps41
    go_wp2_with fail
    refine (newFile_no HP.out _ _ _ HR.out hm).mono ?_; rintro e w1 ⟨rfl, b1⟩
    go_wp2_with fail
    go_ret2
    exact ⟨_, rfl, World.ownsRow_nil _ _ _ _, b1⟩
  · have hlen := isProc_len hp
    by_cases hbad : inB day 0 1000000000000 = false ∨ ¬ (o = 1 ∨ o = -1)
    · have hN : shortR day o xs = ([], 2) := by
        unfold shortR codeB
        rcases hbad with h | h
        · simp [hp, h]
        · simp only [hp, if_true, if_neg h]
          split <;> simp_all
      have HP := Lib.hid hp; clear hp
      rw [hN]
      clear hN
      have HB := Lib.hid hbad; clear hbad
      cases hi : inB day 0 1000000000000
      · have HI := Lib.hid hi; clear hi
        go_enter Try.func41, Try.ntmps41
        go_wp2_with fail
        refine (newFile_yes HP.out _ _ _ HR.out hm).mono ?_; rintro e w1 ⟨g, B, d, rfl, hF, _, b1⟩
        clear hF
        go_wp2_with (go_at_call 67; refine (isDay_any _ _).mono ?_; rw [HI.out]; rintro e w' ⟨rfl, rfl⟩)
        go_ret2
        exact ⟨_, rfl, World.ownsRow_nil _ _ _ _, b1⟩
      · have HI := Lib.hid hi
        have ho := (HB.out.resolve_left (by simp [hi]))
        clear hi
        have h1 : (o != 1) = true := by rw [bne_iff_ne]; exact fun h => ho (.inl h)
        have h2 : (o != -1) = true := by rw [bne_iff_ne]; exact fun h => ho (.inr h)
        clear ho
        go_enter Try.func41, Try.ntmps41
        go_wp2_with fail
        refine (newFile_yes HP.out _ _ _ HR.out hm).mono ?_; rintro e w1 ⟨g, B, d, rfl, hF, _, b1⟩
        clear hF
        go_wp2_with (go_at_call 67; refine (isDay_any _ _).mono ?_; rw [HI.out]; rintro e w' ⟨rfl, rfl⟩)
        go_ret2
        exact ⟨_, rfl, World.ownsRow_nil _ _ _ _, b1⟩
    · have hi : inB day 0 1000000000000 = true := by
        cases h : inB day 0 1000000000000
        · exact absurd (.inl h) hbad
        · rfl
      have ho : o = 1 ∨ o = -1 := Classical.byContradiction fun h => hbad (.inr h)
      clear hbad
      have hd : 0 ≤ day ∧ day ≤ 1000000000000 := by simpa [inB] using hi
      have hoi : o ≤ 1 ∧ -1 ≤ o := by omega
      have hc : codeB xs day = 0 := by simp [codeB, hp, hi]
      have HIT := Lib.hid (fun n z h0 hz => short_hit (n := n) (z := z) hp hc hd.2 ho h0 hz)
      have HEND := Lib.hid (fun n h0 hz => short_end (n := n) hc ho h0 hz)
      have HP := Lib.hid hp
      have HI := Lib.hid hi
      clear hp hi hc
      obtain ⟨L0, code, hL⟩ : ∃ L code, shortR day o xs = (L, code) := ⟨_, _, rfl⟩
      rw [hL] at HIT HEND ⊢
      clear hL
      dsimp only
      have hcase : ((o != 1) = false) ∨ ((o != 1) = true ∧ (o != -1) = false) := by
        rcases ho with rfl | rfl
        · exact .inl rfl
        · exact .inr ⟨rfl, rfl⟩
      clear ho
      rcases hcase with h1 | ⟨h1, h2⟩
      all_goals
        go_enter Try.func41, Try.ntmps41
        go_wp2_with fail
        refine (newFile_yes HP.out _ _ _ HR.out hm).mono ?_; rintro e w1 ⟨g, B, d, rfl, hF, hfit, b1⟩
        have HF := Lib.hid hF
        have B1 := Lib.hid b1
        clear hF b1
        go_wp2_with (go_at_call 67; refine (isDay_any _ _).mono ?_; rw [HI.out]; rintro e w' ⟨rfl, rfl⟩)
        go_loopg [10] 13 (fun gk v10 wr => ∃ (n N : Nat) (L : List (List Stp)) (gs : List Nat) (A : Option Addr) (c : Nat), gk + n = 13 ∧ Hid (firstTo (fun m => restS day o m xs) n = none) ∧ Hid (L = levs day [xs] n ∧ N = L.length) ∧ v10 = .slice A N c ∧ N ≤ 68719476736 ∧ Hid (Reads wr wr.heap.size 1 A N (ptrC gs)) ∧ Hid (FilesP wr L gs) ∧ Hid (Below w.heap.size w wr))
        case atStart =>
          refine ⟨0, 1, [xs], [g], some ⟨w1.heap.size, 0, none⟩, 1, rfl, rfl, ⟨rfl, rfl⟩, rfl, by omega, ?_, ?_, ?_⟩
          · exact (new_reads1 _ _ _).more (by simp)
          · have hFP : FileP w1 g xs := ⟨⟨_, _, HF.out⟩, hfit, HP.out⟩
            refine ⟨rfl, fun j h1 h2 => ?_⟩
            obtain rfl : j = 0 := by simp at h1; omega
            exact hFP.below ((Below.refl _ _).alloc (Nat.le_refl _) _)
          · exact B1.out.alloc B1.out.size _
        case round =>
          obtain ⟨n, N, L, gs, A1, c1, hgk, HK, HL, rfl, hN, RL, FL, BW⟩ := hrel
          by_cases hpos : 0 < N
          · have hn12 : n ≤ 12 := by
              obtain ⟨e1, e2⟩ := HL.out
              subst e1 e2
              exact (levs_bound HP.out n).2 hpos
            obtain ⟨wo, hwo⟩ : ∃ wo : World, wo = wr := ⟨_, rfl⟩
            subst hwo
            go_wp2_with fail
            have hNm : N ≤ 9223372036854775807 := by omega
            go_loopw [11, 45] (fun v11 v45 wr => ∃ (j m : Nat) (gs2 : List Nat) (A2 : Option Addr) (c2 : Nat), j ≤ N ∧ Hid (∀ y ∈ L.take j, hit o y = false) ∧ v11 = .slice A2 m c2 ∧ m ≤ 8 * j ∧ Hid (NextP wo wr ((L.take j).flatMap (kids day)) gs2 A2 m c2) ∧ Hid (Below wo.heap.size wo wr) ∧ v45 = .int .i64 j) (fun _ i _ => N - (intOf i).toNat)
            case atStart =>
              exact ⟨0, 0, [], none, 0, by omega, by intro y hy; simp at hy, rfl, by omega, ⟨rfl, World.ownsRow_nil _ _ _ _, ⟨rfl, fun j h1 _ => absurd h1 (by simp)⟩⟩, Below.refl _ _, rfl⟩
            case round =>
              obtain ⟨j, m, gs2, A2, c2, hj, HNO, rfl, hm8, NX, BO, rfl⟩ := hrel
              obtain ⟨wp, hwp⟩ : ∃ wp : World, wp = wr := ⟨_, rfl⟩
              subst hwp
              by_cases hlt : j < N
              · have hjL : j < L.length := by have := HL.out.2; omega
                obtain ⟨y, hy⟩ : ∃ y, L[j] = y := ⟨_, rfl⟩
                have hjg : j < gs.length := by have := FL.out.1; omega
                obtain ⟨g, hg⟩ : ∃ g, gs[j] = g := ⟨_, rfl⟩
                have FY := Lib.hid (show FileP wp g y by have := FL.out.2 j hjg hjL; rw [hy, hg] at this; exact this.below BO.out)
                obtain ⟨ab, ao, rfl, hadb, hcell⟩ := (RL.out.below BO.out).2 (by omega)
                have p0 := hcell _ _ (ptrC_get gs j hjg)
                rw [hg] at p0
                clear hcell
                have HY := Lib.hid hy
                clear hy hg
                obtain ⟨⟨Ay, cy, hFy⟩, hfit', hpy⟩ := FY.out
                have HFy := Lib.hid hFy
                have HPY := Lib.hid hpy
                have hylen := isProc_len hpy
                have f0 := (file_cells hFy).1
                have f4 := (file_cells hFy).2.2.2.2.1
                have f5 := (file_cells hFy).2.2.2.2.2
                clear hFy hpy
                cases hh : hit o y
                · have hne : (outcomeS (runR y) == o) = false := by simpa [hit] using hh
                  have HNO2 := Lib.hid (take_no hjL HNO.out (by rw [HY.out]; exact hh))
                  clear hh
                  go_wp2_with (go_at_call 64; refine (outcome_any _ _ _ f0 f4).mono ?_; rintro e w' ⟨rfl, rfl⟩)
                  go_loopw [11, 14] (fun v11 v14 wr => ∃ (k m : Nat) (gs2 : List Nat) (A2 : Option Addr) (c2 : Nat), k ≤ 8 ∧ v11 = .slice A2 m c2 ∧ m ≤ 8 * j + k ∧ Hid (NextP wo wr ((L.take j).flatMap (kids day) ++ kidsTo day y k) gs2 A2 m c2) ∧ Hid (Below wo.heap.size wo wr) ∧ Hid (FileP wr g y) ∧ v14 = .int .i64 k) (fun _ i _ => 8 - (intOf i).toNat)
                  case atStart => exact ⟨0, m, gs2, A2, c2, by omega, rfl, by omega, by simpa [kidsTo] using NX, BO, FY, rfl⟩
                  case round =>
                    clear NX FY HFy BO f0 f4 f5 p0 hm8
                    obtain ⟨k, m, gs2, A2, c2, hk, rfl, hm8, NX, BO, FY, rfl⟩ := hrel
                    obtain ⟨wq, hwq⟩ : ∃ wq : World, wq = wr := ⟨_, rfl⟩
                    subst hwq
                    by_cases hlt8 : k < 8
                    · obtain ⟨⟨Ay, cy, hFy⟩, hfit', hpy⟩ := FY.out
                      have HFy := Lib.hid hFy
                      clear hFy hpy
                      go_wp2_with fail
                      refine (window_any (runR y) hfit' k g _ wq HFy.out.2.1).mono ?_
                      rintro e w3 ⟨rfl, nd, hw3⟩
                      have b3 : Below wq.heap.size wq w3 := by rw [hw3]; exact below_drewN' (Below.refl _ _) nd
                      clear hw3
                      have BO3 := Lib.hid (BO.out.trans (b3.mono BO.out.size))
                      have NX3 := Lib.hid (NX.out.below b3)
                      have FY3 := Lib.hid (FY.out.below b3)
                      have HF3 := Lib.hid (HFy.out.below b3)
                      clear b3 BO NX FY HFy
                      have hkid := show kid day y k = if allowB (runR y) y.length (max (max (winL (runR y) k) (runR y).last) day, (k : Int)) = true then some (y ++ [(max (max (winL (runR y) k) (runR y).last) day, (k : Int))]) else none from rfl
                      generalize max (winL (runR y) (k : Int)) (runR y).last = low at hkid ⊢
                      obtain ⟨D, hD, hDD⟩ : ∃ D, max low day = D ∧ (D = day ∧ low < day ∨ D = low ∧ ¬ low < day) := ⟨_, rfl, by omega⟩
                      rw [hD] at hkid
                      clear hD
                      rcases hDD with ⟨hDe, hlow⟩ | ⟨hDe, hlow⟩
                      all_goals
                        cases hal : allowB (runR y) y.length (D, (k : Int))
                        · have HKID := Lib.hid (show kid day y k = none by rw [hkid, hal]; rfl)
                          have HAL := Lib.hid hal
                          rw [hDe] at HAL
                          clear hDe
                          clear hkid hal
                          go_wp2_with fail
                          refine (allows_any (runR y) hfit' _ k g _ _ _ _ (HF3.out.2.1.alloc _)).mono ?_
                          rw [HAL.out]
                          rintro e w5 ⟨rfl, b5⟩
                          have b35 : Below w3.heap.size w3 w5 := ((Below.refl _ _).alloc (Nat.le_refl _) _).trans (b5.mono (by simp))
                          have BO5 := Lib.hid (BO3.out.trans (b35.mono BO3.out.size))
                          have NX5 := Lib.hid (NX3.out.below b35)
                          have FY5 := Lib.hid (FY3.out.below b35)
                          clear b5 b35
                          go_wp2_with fail
                          go_roundw
                          case rel => exact ⟨k + 1, m, gs2, A2, c2, by omega, rfl, by omega, by rw [kidsTo_succ, HKID.out]; simpa using NX5, BO5, FY5, by go_num⟩
                          case measure => simp [intOf]; omega
                        · have HKID := Lib.hid (show kid day y k = some (y ++ [(D, (k : Int))]) by rw [hkid, hal]; rfl)
                          have HAL := Lib.hid hal
                          rw [hDe] at HKID HAL; clear hDe
                          clear hkid hal
                          go_wp2_with fail
                          refine (allows_any (runR y) hfit' _ k g _ _ _ _ (HF3.out.2.1.alloc _)).mono ?_
                          rw [HAL.out]
                          rintro e w5 ⟨rfl, b5⟩
                          have SB5 := Lib.hid ((Blk.new w3 50 _).below b5 (by simp))
                          have b35 : Below w3.heap.size w3 w5 := ((Below.refl _ _).alloc (Nat.le_refl _) _).trans (b5.mono (by simp))
                          have BO5 := Lib.hid (BO3.out.trans (b35.mono BO3.out.size))
                          have NX5 := Lib.hid (NX3.out.below b35)
                          have FY5 := Lib.hid (FY3.out.below b35)
                          have HF5 := Lib.hid (HF3.out.below b35)
                          obtain ⟨q1, q2⟩ := bcell b5
                          clear b5 b35
                          go_wp2_with fail
                          refine (take_file (runR y) _ k g _ _ _ y w5 HF5.out (by omega)).mono ?_
                          rintro e w6 ⟨g', A', c', rfl, hF', _, b6⟩
                          have NF6 := Lib.hid (show FileP w6 g' _ from by
                            obtain ⟨r1, r2⟩ := runR_snoc FY5.out.2.2 (by simp [inB]; omega) HAL.out
                            refine ⟨⟨A', c', by rw [r2, List.length_append]; exact hF'⟩, ?_, r1⟩
                            rw [r2]
                            exact fit_take hfit' HAL.out)
                          have BO6 := Lib.hid (BO5.out.trans (b6.mono BO5.out.size))
                          have NX6 := Lib.hid (NX5.out.below b6)
                          have FY6 := Lib.hid (FY5.out.below b6)
                          have O6 := Lib.hid NX6.out.2.1
                          clear b6 hF' q1 q2
                          go_wp2_with (at_builtin; refine wpList_append_any _ rfl (.tmp 79) (.tmp 83) _ rfl wo.heap.size 82 j0 _ 1 8 Try.underlying97 hj0 hy0 hy1 hy2 rfl (by omega) (.slice A2 m c2) m (ptrC gs2) rfl (O6.out.alloc _) _ (some ⟨w6.heap.size, 0, none⟩) 1 1 [.pointer (some ⟨g', 0, none⟩)] rfl (new_reads1 _ _ _) (by simp [Value.oneCell']) (by simp only [maxLen]; omega) (by omega) (by have := BO6.out.size; simp; omega) ?_; intro v7 w7 hown7 hg7 hat7; obtain ⟨A7, c7, rfl, _⟩ := own_shape hown7)
                          go_roundw
                          case rel =>
                            have bA : Below w6.heap.size w6 (w6.alloc (.cells #[.pointer (some ⟨g', 0, none⟩)] 82)) := (Below.refl _ _).alloc (Nat.le_refl _) _
                            have OA := O6.out.alloc (.cells #[.pointer (some ⟨g', 0, none⟩)] 82)
                            refine ⟨k + 1, m + 1, gs2 ++ [g'], A7, c7, by omega, rfl, by omega, ⟨?_, ?_, ?_⟩, ?_, (FY6.out.below bA).row OA hg7, by go_num⟩
                            · rw [kidsTo_succ, HKID.out, ← List.append_assoc, List.length_append, ← NX6.out.1]; rfl
                            · simpa [ptrC] using hown7
                            · rw [kidsTo_succ, HKID.out, ← List.append_assoc]
                              exact ((NX6.out.2.2.below bA).row OA hg7).snoc ((NF6.out.below bA).row OA hg7)
                            · exact below_own (BO6.out.alloc BO6.out.size _) OA hg7 (Nat.le_refl _) (by have := BO6.out.size; simp; omega)
                          case measure => simp [intOf]; omega
                    · obtain rfl : k = 8 := by omega
                      go_wp2_with fail
                      go_roundw
                      case rel =>
                        refine ⟨j + 1, m, gs2, A2, c2, by omega, HNO2, rfl, by omega, ?_, BO, by go_num⟩
                        have hf := take_flat (day := day) hjL
                        rw [HY.out] at hf
                        rw [hf]
                        exact NX
                      case measure => simp [intOf]; omega
                · have heq : (outcomeS (runR y) == o) = true := by simpa [hit] using hh
                  have HH := Lib.hid (HIT.out n y HK.out (by rw [← HL.out.1, ← HY.out]; exact find_at L j hjL HNO.out (by rw [HY.out]; exact hh)))
                  clear hh
                  have ly : xs.length ≤ y.length := by
                    have hmem : y ∈ L := by rw [← HY.out]; exact List.getElem_mem hjL
                    rw [HL.out.1] at hmem
                    have := (levs_mem HP.out n y hmem).2
                    omega
                  have hcap : y.length ≤ cy := by
                    obtain ⟨A', c', he, hc'⟩ := own_shape HFy.out.2.2.2.2
                    injection he with _ _ he
                    omega
                  have RC := Lib.hid (cut_reads HFy.out.2.2.1 ly hcap)
                  have HCUT := fun W => run_cut 40 50 i0 2 Try.underlying40 hi0 hz1 Ay y.length cy xs.length ly W
                  have hA4 : cutA Ay cy xs.length 2 = none → cy - xs.length = 0 := by
                    unfold cutA
                    split
                    · omega
                    · intro h
                      have := HFy.out.2.2.2.1 (by simpa using h)
                      omega
                  have HA4 := Lib.hid hA4; clear hA4 hcap
                  generalize cutA Ay cy xs.length 2 = A4 at HCUT RC HA4
                  go_wp2_with (first | (go_at_call 64; refine (outcome_any _ _ _ f0 f4).mono ?_; rintro e w' ⟨rfl, rfl⟩) | (go_at_call 68; refine (cloneStep A4 (y.length - xs.length) (cy - xs.length) ((stC y).drop (xs.length * 2)) _ RC.out (fun u hu => stC_one y u (List.mem_of_mem_drop hu)) (by omega) HA4.out).mono ?_; rintro e w4 ⟨v4, rfl, own4, b4⟩) | fail)
                  go_ret2
                  have e := HH.out
                  simp only [Prod.mk.injEq] at e
                  obtain ⟨rfl, rfl⟩ := e
                  have BW4 : Below w.heap.size w wp := BW.out.trans (BO.out.mono BW.out.size)
                  refine ⟨v4, rfl, ?_, BW4.trans (b4.mono BW4.size)⟩
                  rw [stC_drop] at own4
                  simpa using own_mono own4 BW4.size
              · obtain rfl : j = N := by omega
                obtain ⟨e1, e2⟩ := HL.out
                have ht : L.take j = L := List.take_of_length_le (by omega)
                rw [ht] at HNO NX
                have hflat : L.flatMap (kids day) = levs day [xs] (n + 1) := by rw [levs_succ, e1]
                rw [hflat] at NX
                have HK2 := Lib.hid (first_next HK.out (by rw [← e1]; exact find_no HNO.out))
                have hmb := (levs_bound HP.out (day := day) (n + 1)).1
                rw [← NX.out.1] at hmb
                have RX := Lib.hid (Reads.of_own NX.out.2.1)
                clear e1 e2 ht hflat
                go_wp2_with fail
                go_roundg (gk - 1)
                case measure => omega
                case rel => exact ⟨n + 1, m, levs day [xs] (n + 1), gs2, A2, c2, by omega, HK2, ⟨rfl, NX.out.1⟩, rfl, hmb, RX, NX.out.2.2, BW.out.trans (BO.out.mono BW.out.size)⟩
          · have e := HL.out
            have HE := Lib.hid (HEND.out n HK.out (by rw [← e.1]; exact List.eq_nil_of_length_eq_zero (by omega)))
            clear e
            go_wp2_with fail
            go_ret2
            have e := HE.out
            simp only [Prod.mk.injEq] at e
            obtain ⟨rfl, rfl⟩ := e
            exact ⟨_, rfl, World.ownsRow_nil _ _ _ _, BW.out⟩
end Go.Proofs.Yteffnidkkeeaiaa
