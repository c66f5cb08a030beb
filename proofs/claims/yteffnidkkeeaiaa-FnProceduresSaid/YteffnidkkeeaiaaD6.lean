/- The law FnShortest returns true for every code: the walk of the law. -/
import Derived.Test.YteffnidkkeeaiaaRows
import Derived.Test.YteffnidkkeeaiaaL0
import Derived.Test.YteffnidkkeeaiaaM0
import Derived.WalkKit
import Derived.ProofKit
import Derived.OpenShut
import Derived.BigQuiet
import Derived.Outline
import Derived.WalkSpells
import Derived.WalkLawsBesides
import Derived.Deep.DeepCutAuto
import Derived.Test.YteffnidkkeeaiaaS3
import Derived.Test.YteffnidkkeeaiaaP6
import Derived.Test.YteffnidkkeeaiaaD5
import Derived.Test.YteffnidkkeeaiaaB6
import Derived.Deep.QuietTactic
namespace Go.Proofs.Yteffnidkkeeaiaa
open Go.ChangeShapes Go.WideShapes Go.ChangeAt Go.RowKit

theorem big_any (A : Option Addr) (n c : Nat) (hn : n ≤ 9223372036854775807) (w : World) :
    Calls Try.prog 42 #[.slice A n c] w fun e w' => e = .returned (.bool (decide ((4096 : Int) < n))) ∧ w = w' := by
  go_enter Try.func42, Try.ntmps42
  go_wp2
  go_ret
  exact ⟨rfl, rfl⟩
set_option maxRecDepth 100000 in
theorem like_same (L : List Stp) (n : Nat) (hl : L.length = n) (A A' : Option Addr) (c c' : Nat) (w : World) (hr : Reads w w.heap.size 2 A n (stC L)) (hr' : Reads w w.heap.size 2 A' n (stC L)) (hm : n ≤ 9223372036854775807) :
    Calls Try.prog 44 #[.slice A n c, .slice A' n c'] w fun e w' => e = .returned (.bool true) ∧ Below w.heap.size w w' := by
  have HL := Lib.hid hl; clear hl
  have HR := Lib.hid hr; clear hr
  have HR' := Lib.hid hr'; clear hr'
  go_enter Try.func44, Try.ntmps44
  go_wp2_with fail
  go_loopw [5] (fun v5 wr => ∃ k : Nat, k ≤ n ∧ Hid (Below w.heap.size w wr) ∧ v5 = .int .i64 k) (fun i _ => n - (intOf i).toNat)
  case atStart => exact ⟨0, by omega, Below.refl _ _, rfl⟩
  case round =>
    obtain ⟨k, hk, BW, rfl⟩ := hrel
    by_cases hlt : k < n
    · obtain ⟨ab, ao, rfl, hadb, hcell⟩ := (HR.out.below BW.out).2 (by omega)
      obtain ⟨ab', ao', rfl, hadb', hcell'⟩ := (HR'.out.below BW.out).2 (by omega)
      obtain ⟨e0, e1⟩ := stC_get L k (by rw [HL.out]; exact hlt)
      have c0 := hcell _ _ e0
      have c1 := hcell _ _ e1
      have d0 := hcell' _ _ e0
      have d1 := hcell' _ _ e1
      rw [← Nat.add_assoc] at c1 d1
      clear hcell hcell' e0 e1
      generalize L[k]'(by rw [HL.out]; exact hlt) = s at c0 c1 d0 d1
      have hk0 : (0 : Int) ≤ (k : Int) := by omega
      have hkn : (k : Int) < (n : Int) := by omega
      go_wp2_with fail
      go_quiet (fail)
      go_wp2_with fail
      go_roundw
      case rel => exact ⟨k + 1, by omega, below_drewN' BW.out nq, by go_num⟩
      case measure => simp [intOf]; omega
    · obtain rfl : k = n := by omega
      go_wp2_with fail
      go_ret
      exact ⟨rfl, BW.out⟩
theorem own_cap {w : World} {base : Nat} {e : TypeId} {size n c : Nat} {A : Option Addr} {xs : List Value} (h : w.ownsRow base e size (.slice A n c) n xs) : n ≤ c := by
  obtain ⟨A', c', h1, h2⟩ := own_shape h
  injection h1 with _ _ h1
  omega
theorem own_none {w : World} {base : Nat} {e : TypeId} {size n c : Nat} {A : Option Addr} {xs : List Value} (h : w.ownsRow base e size (.slice A n c) n xs) : A = none → c = 0 := by
  rintro rfl
  rcases h.2 with ⟨h1, _⟩ | ⟨g, cap, cur, h1, _⟩
  · injection h1
  · injection h1 with h1; cases h1

theorem takeImpl_n (ys zs : List Stp) (x : Stp) (h : takeR ys x = (zs, 0)) (N M : Nat) (hN : N = ys.length) (hM : M = zs.length) (A : Option Addr) (c : Nat) (w : World) (hr : Reads w w.heap.size 2 A N (stC ys)) (hm : N ≤ 9223372036854775807) (hA : A = none → c = 0) :
    Calls Try.prog 32 #[.slice A N c, .agg #[.int .i64 x.1, .int .i64 x.2]] w fun e w' => ∃ A2 c2, e = .returned (.tuple #[.slice A2 M c2, .int .i64 0]) ∧ w'.ownsRow w.heap.size 50 2 (.slice A2 M c2) M (stC zs) ∧ Below w.heap.size w w' := by
  subst hN hM
  refine (implTake_any ys x.1 x.2 A c w hr hm hA).mono ?_
  rintro e w' ⟨v, rfl, own, b⟩
  have e : takeR ys (x.1, x.2) = (zs, 0) := h
  rw [e] at own ⊢
  obtain ⟨A2, c2, rfl, _⟩ := own_shape own
  exact ⟨A2, c2, rfl, own, b⟩
theorem outcomeImpl_n (zs : List Stp) (N : Nat) (hN : N = zs.length) (hp : isProc zs = true) (o : Int) (ho : outcomeS (runR zs) = o) (A : Option Addr) (c : Nat) (w : World) (hr : Reads w w.heap.size 2 A N (stC zs)) (hm : N ≤ 9223372036854775807) :
    Calls Try.prog 29 #[.slice A N c] w fun e w' => e = .returned (.tuple #[.int .i64 o, .int .i64 0]) ∧ Below w.heap.size w w' := by
  subst hN
  refine (implOutcome_any zs A c w hr hm).mono ?_
  rintro e w' ⟨rfl, b⟩
  exact ⟨by rw [orBad, hp, ho]; rfl, b⟩

set_option maxRecDepth 100000 in
set_option maxHeartbeats 1000000 in
theorem lawShortest_any (A : Option Addr) (n c : Nat) (w : World) (hn : n ≤ 9223372036854775807) (h : n ≤ 4096 → Code8 w A n) :
    Calls Try.prog 11 #[.slice A n c] w fun e w' => e = .returned (.bool true) ∧ Below w.heap.size w w' := by
  have HC := Lib.hid h; clear h
  by_cases hb : (4096 : Int) < n
  · have hd : decide ((4096 : Int) < n) = true := by simpa using hb
    have HD := Lib.hid hd; clear hd hb
    go_enter Try.func11, Try.ntmps11
    go_wp2_with fail
    refine (big_any A n c hn w).mono ?_; rw [HD.out]; rintro e w' ⟨rfl, rfl⟩
    go_wp2_with fail
    go_ret
    exact ⟨rfl, Below.refl _ _⟩
  · have hd : decide ((4096 : Int) < n) = false := by simpa using hb
    have HD := Lib.hid hd; clear hd
    have hc := HC.out (by omega)
    have HC2 := Lib.hid hc; clear hc hb
    go_enter Try.func11, Try.ntmps11
    go_wp2_with fail
    refine (big_any A n c hn w).mono ?_; rw [HD.out]; rintro e w' ⟨rfl, rfl⟩
    go_wp2_with fail
    refine (drawShort_any A n c w HC2.out).mono ?_
    rintro e w1 ⟨xs, A1, c1, d, o, rfl, hq, own1, b1⟩
    have hcap := own_cap own1
    have hx13 := hq.1
    have W1 := Lib.hid own1
    have B1 := Lib.hid b1
    have hOK := Lib.hid (fun h => short_ok (day := d) (o := o) (xs := xs) h)
    have hL12 := shortR_len d o xs
    have I1 := Lib.hid (implShort_any xs d o A1 c1 w1 (Reads.of_own own1) (by omega))
    have S1 := Lib.hid (fun w hr => specShort_any xs d o A1 c1 w hr (by omega) hcap)
    clear own1 b1 hq
    generalize shortR d o xs = LC at I1 S1 hOK hL12
    obtain ⟨L, code⟩ := LC
    dsimp only at I1 S1 hOK hL12
    go_wp2_with fail
    refine I1.out.mono ?_
    rintro e w2 ⟨v2, rfl, own2, b2⟩
    obtain ⟨A2, c2, rfl, _⟩ := own_shape own2
    have B2 := Lib.hid (B1.out.trans (b2.mono B1.out.size))
    have W2 := Lib.hid (own_below W1.out b2)
    have V2 := Lib.hid own2
    clear b2 own2 I1
    go_wp2_with fail
    refine (S1.out w2 (Reads.of_own W2.out)).mono ?_
    rintro e w3 ⟨v3, rfl, own3, b3⟩
    obtain ⟨A3, c3, rfl, _⟩ := own_shape own3
    have B3 := Lib.hid (B2.out.trans (b3.mono B2.out.size))
    have W3 := Lib.hid (own_below W2.out b3)
    have V3 := Lib.hid (own_below V2.out b3)
    have U3 := Lib.hid own3
    clear b3 own3 S1
    go_wp2_with fail
    refine (like_same L L.length rfl A2 A3 c2 c3 w3 (Reads.of_own V3.out) (Reads.of_own U3.out) (by omega)).mono ?_
    rintro e w4 ⟨rfl, b4⟩
    have B4 := Lib.hid (B3.out.trans (b4.mono B3.out.size))
    have W4 := Lib.hid (own_below W3.out b4)
    have V4 := Lib.hid (own_below V3.out b4)
    clear b4 U3
    by_cases hcode : code = 0
    · obtain ⟨hp, hday, h5, hr1, hr2, hr3⟩ := hOK.out hcode
      subst hcode
      have HR := Lib.hid (show RestOk d o xs L from ⟨hr1, hr2, hr3⟩)
      have HO := Lib.hid hr1
      have HPall := Lib.hid hr2
      have HDay := Lib.hid hr3
      clear hp hday hr1 hr2 hr3 hOK
      obtain ⟨i0, hi0, hz0, hz1, hz2⟩ := info_parts infoStep
      go_wp2_with (at_builtin; refine wpList_append_any _ rfl (.tmp 49) (.tmp 50) _ rfl w.heap.size 50 i0 _ 2 16 Try.underlying40 hi0 hz0 hz1 hz2 rfl (by omega) (.slice (some ⟨w4.heap.size, 0, none⟩) 0 0) 0 [] rfl (World.ownsRow_made (e := 50) (size := 2) w4 #[] 0 B4.out.size (by decide) rfl) w4.heap.size A1 xs.length c1 (stC xs) rfl ((Reads.of_own W4.out).alloc (Nat.le_refl _) _) (stC_one xs) (by simp only [maxLen]; omega) (by omega) (by have := B4.out.size; simp; omega) ?_; intro v5 w5 hown5 hg5 hat5; obtain ⟨A5, c5, rfl, _⟩ := own_shape hown5)
      have B5 := Lib.hid (below_own ((Below.refl w4.heap.size w4).alloc (Nat.le_refl _) _) (World.ownsRow_made (e := 50) (size := 2) w4 #[] 0 (Nat.le_refl _) (by decide) rfl) hg5 (Nat.le_refl _) (by simp))
      have W5 := Lib.hid (show w5.ownsRow w.heap.size 50 2 (.slice A5 xs.length c5) xs.length (stC (xs ++ L.take 0)) by simpa using hown5)
      clear hown5 hg5 hat5
      go_loopw [10, 11] (fun v10 v11 wr => ∃ (k N : Nat) (A : Option Addr) (c : Nat), k ≤ L.length ∧ v10 = .slice A N c ∧ N ≤ 30 ∧ Hid (N = (xs ++ L.take k).length) ∧ Hid (wr.ownsRow w.heap.size 50 2 (.slice A N c) N (stC (xs ++ L.take k))) ∧ Hid (Below w4.heap.size w4 wr) ∧ v11 = .int .i64 k) (fun _ i _ => L.length - (intOf i).toNat)
      case atStart => exact ⟨0, xs.length, A5, c5, by omega, rfl, by omega, by simp [Hid], W5.out, B5.out, rfl⟩
      case round =>
        clear W5 B5
        obtain ⟨k, N, A, c, hk, rfl, hN30, HN, HW, BW, rfl⟩ := hrel
        by_cases hlt : k < L.length
        · obtain ⟨ab, ao, rfl, hadb, hcell⟩ := ((Reads.of_own V4.out).below BW.out).2 (by omega)
          obtain ⟨e0, e1⟩ := stC_get L k hlt
          have p0 := hcell _ _ e0
          have p1 := hcell _ _ e1
          rw [← Nat.add_assoc] at p1
          clear hcell e0 e1
          have HT := Lib.hid (rest_step HR.out hlt)
          have HD := HDay.out L[k] (List.getElem_mem hlt)
          generalize L[k] = s at p0 p1 HT HD
          have HM := Lib.hid (show N + 1 = (xs ++ L.take (k + 1)).length by
            have := HN.out
            simp only [List.length_append, List.length_take] at this ⊢
            omega)
          have hA := own_none HW.out
          have HA := Lib.hid hA; clear hA
          go_wp2_with fail
          refine (takeImpl_n _ _ s HT.out N (N + 1) HN.out HM.out A c wr (Reads.of_own HW.out) (by omega) HA.out).mono ?_
          rintro e w6 ⟨A6, c6, rfl, own6, b6⟩
          have B6 := Lib.hid (BW.out.trans (b6.mono BW.out.size))
          have zz := B4.out.size
          have zw := BW.out.size
          have W6 := Lib.hid (own_mono (base' := w.heap.size) own6 (by omega))
          have p0' := (b6.cell (p := ⟨ab, ao + k * 2, none⟩) (by dsimp only; omega)).trans p0
          clear b6 own6 p0 p1
          have hday : ¬ s.1 < d := by omega
          go_wp2_with fail
          go_roundw
          case rel => exact ⟨k + 1, N + 1, A6, c6, by omega, rfl, by have := HM.out; simp only [List.length_append, List.length_take] at this; omega, HM, W6, B6, by go_num⟩
          case measure => simp [intOf]; omega
        · obtain rfl : k = L.length := by omega
          have HP := Lib.hid (HPall.out L.length (Nat.le_refl _))
          have HO2 := Lib.hid (show outcomeS (runR (xs ++ L.take L.length)) = o by rw [List.take_length]; exact HO.out)
          go_wp2_with fail
          refine (outcomeImpl_n _ N HN.out HP.out o HO2.out A c wr (Reads.of_own HW.out) (by omega)).mono ?_
          rintro e w6 ⟨rfl, b6⟩
          have B6 := Lib.hid (BW.out.trans (b6.mono BW.out.size))
          clear b6
          have hoo : (o == o) = true := by simp
          have h5' : ((L.length : Int) ≤ 5) := by omega
          go_wp2_with fail
          go_ret
          exact ⟨ret_bool (by simp), B4.out.trans (B6.out.mono B4.out.size)⟩
    · have hne : (code != 0) = true := by rw [bne_iff_ne]; exact hcode
      clear hcode
      go_wp2_with fail
      go_ret
      exact ⟨rfl, B4.out⟩
end Go.Proofs.Yteffnidkkeeaiaa
