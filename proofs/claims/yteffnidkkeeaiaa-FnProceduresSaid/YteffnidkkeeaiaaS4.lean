/- Draws: DrawTakeStep, DrawOutcomeOf; the law's helpers likeInts, hasInt. -/
import Derived.Test.YteffnidkkeeaiaaRows
import Derived.Test.YteffnidkkeeaiaaL0
import Derived.Test.YteffnidkkeeaiaaM0
import Derived.WalkKit
import Derived.ProofKit
import Derived.OpenShut
import Derived.BigQuiet
import Derived.Outline
import Derived.WalkSpells
import Derived.WalkLawsBesides
import Derived.Deep.DeepCutAuto
import Derived.Test.YteffnidkkeeaiaaS3
import Derived.Deep.RegionWith
import Derived.Deep.QuietTactic
namespace Go.Proofs.Yteffnidkkeeaiaa
open Go.ChangeShapes Go.WideShapes Go.ChangeAt Go.RowKit

def DrawnS (w : World) (e : Ending) (w' : World) : Prop :=
  ∃ xs A c, e = .returned (.slice A xs.length c) ∧ SmallS xs ∧ w'.ownsRow w.heap.size 50 2 (.slice A xs.length c) xs.length (stC xs) ∧ Below w.heap.size w w'
set_option maxRecDepth 100000 in
theorem drawOut_any (A : Option Addr) (n c : Nat) (w : World) (h : Code8 w A n) :
    Calls Try.prog 47 #[.slice A n c] w (DrawnS w) := by
  have HC := Lib.hid h; clear h
  go_enter Try.func47, Try.ntmps47
  go_wp2_with fail
  refine (from_code A n c w HC.out).mono ?_
  rintro e w1 ⟨g, rfl, hs1, b1⟩
  have HB1 := Lib.hid b1
  have HS1 := Lib.hid hs1
  have z1 := b1.size
  have gb := hs1.base
  clear b1 hs1
  go_wp2_with fail
  refine (draw25_any w.heap.size g w1 HS1.out z1).mono ?_
  rintro e w2 ⟨xs, A2, c2, rfl, hq, own2, hs2, ho2⟩
  have HB2 := Lib.hid (HB1.out.trans (only_below ho2 gb z1))
  have HW2 := Lib.hid (own_mono (base' := w.heap.size) own2 z1)
  have HQ := Lib.hid hq
  clear hs2 ho2 own2 hq
  go_wp2_with fail
  go_ret
  exact ⟨xs, A2, c2, rfl, HQ.out, HW2.out, HB2.out⟩
theorem hasInt_any (L : List Int) (n : Nat) (hl : n = L.length) (x : Int) (A : Option Addr) (c : Nat) (w : World) (hr : Reads w w.heap.size 1 A n (iC L)) (hm : n ≤ 9223372036854775807) :
    Calls Try.prog 49 #[.slice A n c, .int .i64 x] w fun e w' => e = .returned (.bool (decide (x ∈ L))) ∧ w = w' := by
  have HL := Lib.hid hl; clear hl
  have HR := Lib.hid hr; clear hr
  go_enter Try.func49, Try.ntmps49
  go_wp2_with fail
  go_loop [5] (fun v5 => ∃ k : Nat, k ≤ n ∧ Hid (x ∉ L.take k) ∧ v5 = .int .i64 k) (fun i => n - (intOf i).toNat)
  case atStart => exact ⟨0, by omega, by simp [Hid], rfl⟩
  case round =>
    obtain ⟨k, hk, HX, rfl⟩ := hrel
    by_cases hlt : k < n
    · obtain ⟨ab, ao, rfl, hadb, hcell⟩ := HR.out.2 (by omega)
      have hkL : k < L.length := by rw [← HL.out]; exact hlt
      have c0 := hcell _ _ (iC_get L k hkL)
      clear hcell
      have HM := Lib.hid (List.getElem_mem hkL)
      have HT := Lib.hid (show L.take (k + 1) = L.take k ++ [L[k]] from List.take_succ_eq_append_getElem hkL)
      generalize L[k] = y at c0 HM HT
      by_cases hy : y = x
      · have HD := Lib.hid (show decide (x ∈ L) = true by rw [← hy]; exact decide_eq_true HM.out)
        have hy' : (y == x) = true := by simpa using hy
        clear hy
        go_wp2_with fail
        go_ret
        exact ⟨ret_bool HD.out.symm, rfl⟩
      · have HX2 := Lib.hid (show x ∉ L.take (k + 1) by
          rw [HT.out, List.mem_append]
          rintro (h | h)
          · exact HX.out h
          · simp at h; exact hy h.symm)
        have hy' : (y == x) = false := by simpa using hy
        clear hy
        go_wp2_with fail
        go_round
        case rel => exact ⟨k + 1, by omega, HX2, by go_num⟩
        case measure => simp [intOf]; omega
    · obtain rfl : k = n := by omega
      have HD := Lib.hid (show decide (x ∈ L) = false by
        have := HX.out
        rw [HL.out, List.take_length] at this
        exact decide_eq_false this)
      go_wp2_with fail
      go_ret
      exact ⟨ret_bool HD.out.symm, rfl⟩
set_option maxRecDepth 100000 in
theorem likeInts_same (L : List Int) (n : Nat) (hl : L.length = n) (A A' : Option Addr) (c c' : Nat) (w : World) (hr : Reads w w.heap.size 1 A n (iC L)) (hr' : Reads w w.heap.size 1 A' n (iC L)) (hm : n ≤ 9223372036854775807) :
    Calls Try.prog 48 #[.slice A n c, .slice A' n c'] w fun e w' => e = .returned (.bool true) ∧ Below w.heap.size w w' := by
  have HL := Lib.hid hl; clear hl
  have HR := Lib.hid hr; clear hr
  have HR' := Lib.hid hr'; clear hr'
  go_enter Try.func48, Try.ntmps48
  go_wp2_with fail
  go_loopw [5] (fun v5 wr => ∃ k : Nat, k ≤ n ∧ Hid (Below w.heap.size w wr) ∧ v5 = .int .i64 k) (fun i _ => n - (intOf i).toNat)
  case atStart => exact ⟨0, by omega, Below.refl _ _, rfl⟩
  case round =>
    obtain ⟨k, hk, BW, rfl⟩ := hrel
    by_cases hlt : k < n
    · obtain ⟨ab, ao, rfl, hadb, hcell⟩ := (HR.out.below BW.out).2 (by omega)
      obtain ⟨ab', ao', rfl, hadb', hcell'⟩ := (HR'.out.below BW.out).2 (by omega)
      have hkL : k < L.length := by rw [HL.out]; exact hlt
      have c0 := hcell _ _ (iC_get L k hkL)
      have d0 := hcell' _ _ (iC_get L k hkL)
      clear hcell hcell'
      generalize L[k] = s at c0 d0
      have hk0 : (0 : Int) ≤ (k : Int) := by omega
      have hkn : (k : Int) < (n : Int) := by omega
      go_wp2_with fail
      go_quiet (fail)
      go_wp2_with fail
      go_roundw
      case rel => exact ⟨k + 1, by omega, below_drewN' BW.out nq, by go_num⟩
      case measure => simp [intOf]; omega
    · obtain rfl : k = n := by omega
      go_wp2_with fail
      go_ret
      exact ⟨rfl, BW.out⟩
theorem pair_facts4 {W : World} {g : Nat} {t : TypeId} {a b : Value} (h : Blk W g t #[a, b]) :
    W.cell? ⟨g, 0, none⟩ = some a ∧ W.cell? ⟨g, 1, none⟩ = some b ∧ W.frozen? ⟨g, 0, none⟩ = false ∧ (∀ v, (W.setCell ⟨g, 0, none⟩ v).cell? ⟨g, 1, none⟩ = some b) ∧ (∀ v, (W.setCell ⟨g, 0, none⟩ v).frozen? ⟨g, 1, none⟩ = false) ∧
      (∀ u v, ((W.setCell ⟨g, 0, none⟩ u).setCell ⟨g, 1, none⟩ v).cell? ⟨g, 0, none⟩ = some u) ∧ (∀ u v, ((W.setCell ⟨g, 0, none⟩ u).setCell ⟨g, 1, none⟩ v).cell? ⟨g, 1, none⟩ = some v) :=
  ⟨by rw [h.cell]; rfl, by rw [h.cell]; rfl, h.frozen 0, fun v => by rw [(h.set_ 0 v).cell]; rfl, fun v => (h.set_ 0 v).frozen 1, fun u v => by rw [((h.set_ 0 u).set_ 1 v).cell]; rfl, fun u v => by rw [((h.set_ 0 u).set_ 1 v).cell]; rfl⟩
theorem own_set {w : World} {base : Nat} {e : TypeId} {size n g : Nat} {v : Value} {xs : List Value} (h : w.ownsRow base e size v n xs) (hg : g < base) (i : Nat) (u : Value) : (w.setCell ⟨g, i, none⟩ u).ownsRow base e size v n xs :=
  own_only h (only_set (only_refl w g) i u) hg
/-- Drawn steps and a drawn step. -/
def DrawnTake (w : World) (e : Ending) (w' : World) : Prop :=
  ∃ xs A c d k, e = .returned (.tuple #[.slice A xs.length c, .agg #[.int .i64 d, .int .i64 k]]) ∧ SmallS xs ∧ w'.ownsRow w.heap.size 50 2 (.slice A xs.length c) xs.length (stC xs) ∧ Below w.heap.size w w'
set_option maxRecDepth 100000 in
set_option maxHeartbeats 1000000 in
theorem drawTake_any (A : Option Addr) (n c : Nat) (w : World) (h : Code8 w A n) :
    Calls Try.prog 46 #[.slice A n c] w (DrawnTake w) := by
  have bA : Below w.heap.size w (w.alloc (.cells #[.int .i64 0, .int .i64 0] 50)) := (Below.refl _ _).alloc (Nat.le_refl _) _
  have SB0 := Lib.hid (Blk.new w 50 #[.int .i64 0, .int .i64 0])
  have HC := Lib.hid (h.below bA); clear h
  have BA := Lib.hid bA; clear bA
  go_enter Try.func46, Try.ntmps46
  go_upto_region 1 with (fail)
  generalize w.alloc (.cells #[.int .i64 0, .int .i64 0] 50) = w0 at HC BA SB0 ⊢
  go_wp2_with fail
  refine (from_code A n c w0 HC.out).mono ?_
  rintro e w1 ⟨g, rfl, hs1, b1⟩
  have HC1 := Lib.hid (HC.out.below b1)
  have HB1 := Lib.hid (BA.out.trans (b1.mono BA.out.size))
  have SB1 := Lib.hid (SB0.out.below b1 SB0.out.lt)
  have HS1 := Lib.hid hs1
  have z0 := BA.out.size
  have z1 := b1.size
  have gb := hs1.base
  have gl := hs1.lt
  have sl := SB0.out.lt
  clear b1 hs1
  go_wp2_with fail
  refine (drawNext_any A n c w1 HC1.out).mono ?_
  rintro e w2 ⟨xs, A2, c2, d, rfl, hq, own2, b2⟩
  have HS2 := Lib.hid (HS1.out.below b2)
  have HB2 := Lib.hid (HB1.out.trans (b2.mono HB1.out.size))
  have SB2 := Lib.hid (SB1.out.below b2 SB1.out.lt)
  have HW2 := Lib.hid own2
  have z2 := b2.size
  have HQ := Lib.hid hq
  have hx13 := hq.1
  clear b2 own2 hq
  have hN8 : (nextR xs d).1.length ≤ 8 := by
    unfold nextR; split
    · exact nextTo_len xs d 8
    · simp
  have SN := Lib.hid (specNext_any xs d A2 c2 w2 (Reads.of_own HW2.out) (by omega))
  generalize nextR xs d = LC at SN hN8
  obtain ⟨L, code⟩ := LC
  dsimp only at SN hN8
  go_wp2_with fail
  refine SN.out.mono ?_
  rintro e w3 ⟨v3, rfl, own3, b3⟩
  obtain ⟨A3, c3, rfl, _⟩ := own_shape own3
  have HS3 := Lib.hid (HS2.out.below b3)
  have HB3 := Lib.hid (HB2.out.trans (b3.mono HB2.out.size))
  have SB3 := Lib.hid (SB2.out.below b3 SB2.out.lt)
  have HW3 := Lib.hid (own_below HW2.out b3)
  have HL3 := Lib.hid own3
  have z3 := b3.size
  clear b3 own3 SN
  have sl' : w.heap.size < w1.heap.size := by omega
  by_cases hg : code = 0 ∧ 0 < L.length
  · obtain ⟨hg1, hg2⟩ := hg
    have e1 : (code == 0) = true := by simpa using hg1
    clear hg1
    go_wp2_with fail
    refine (draw_any 3 w0.heap.size g w3 HS3.out (by omega)).mono ?_
    rintro e w4 ⟨x, rfl, hx0, hx1, _, hs4, ho4⟩
    have HS4 := Lib.hid hs4
    have HB4 := Lib.hid (HB3.out.trans (only_below ho4 (by omega) (by omega)))
    have HW4 := Lib.hid (own_only HW3.out ho4 gl)
    have HL4 := Lib.hid (own_only HL3.out ho4 (by omega))
    have SB4 := Lib.hid (SB3.out.grown ho4 (by simp; omega))
    have z4 := ho4.size
    clear hs4 ho4 hx1
    by_cases hx : 0 < x
    · obtain ⟨ab, ao, rfl, hadb, _⟩ := (Reads.of_own HL4.out).2 (by omega)
      have HK : ∀ w5, Only w4 w5 g → ∀ k (hk : k < L.length), w5.cell? ⟨ab, ao + k, none⟩ = some (.int .i64 (L[k]'hk)) := by
        intro w5 ho k hk
        obtain ⟨ab', ao', hab, _, hcell⟩ := (Reads.of_own (own_only HL4.out ho (by omega))).2 (by omega)
        injection hab with hab
        injection hab with h1 h2
        subst h1 h2
        exact hcell _ _ (iC_get L k hk)
      have HKH := Lib.hid HK; clear HK
      have HS4d := Lib.hid (show Src w4.drew w0.heap.size g from HS4.out)
      have hB4 : w0.heap.size ≤ w4.drew.heap.size := show w0.heap.size ≤ w4.heap.size by omega
      go_upto_region 5 with (fail)
      go_region_with ((go_at_call 77; refine (draw_any L.length w0.heap.size g w4.drew HS4d.out hB4).mono ?_; rintro e w5 ⟨y, rfl, hy0, hy1, hy3, hs5, ho5⟩; obtain ⟨k, rfl⟩ : ∃ k : Nat, y = k := ⟨y.toNat, by omega⟩; have hk : k < L.length := (by omega); have ho5' : Only w4 w5 g := ⟨ho5.os, ho5.tape, ho5.output, ho5.size, ho5.block⟩; have p0 := HKH.out w5 ho5' k hk; have k5 := SB4.out.grown ho5' (by intro he; injection he with he; omega); obtain ⟨f1, f2, f3, f4, f5, f6, f7⟩ := pair_facts4 k5; have HO5 := Lib.hid ho5'; clear hs5 ho5 ho5' hy1 hy3 k5))
      all_goals
        have HW5 := Lib.hid (own_only HW4.out HO5.out gl)
        have z5 := HO5.out.size
        have HB5 := Lib.hid (HB4.out.trans (only_below HO5.out (by omega) (by omega)))
        generalize L[k] = y at f6 f7 ⊢
        go_wp2_with fail
        refine bodyPost_ret (v := .tuple #[.slice A2 xs.length c2, .agg #[.int .i64 d, .int .i64 y]]) (by simp [results, Try.results46, go_sem, f6, f7]) rfl ?_
        refine ⟨xs, A2, c2, d, y, rfl, HQ.out, ?_, (HB5.out.setCell (p := ⟨w.heap.size, 0, none⟩) (Nat.le_refl _) _).setCell (p := ⟨w.heap.size, 1, none⟩) (Nat.le_refl _) _⟩
        exact own_mono (base' := w.heap.size) (own_set (own_set HW5.out sl' _ _) sl' _ _) (by omega)
    · go_wp2_with fail
      refine (draw_any 10 w0.heap.size g w4 HS4.out (by omega)).mono ?_
      rintro e w5 ⟨y, rfl, hy0, hy1, _, hs5, ho5⟩
      have hy2 := hy1 (by omega)
      have HO5 := Lib.hid (HB4.out.trans (only_below ho5 (by omega) (by omega)))
      have HW5 := Lib.hid (own_only HW4.out ho5 gl)
      have k5 := SB4.out.grown ho5 (by simp; omega)
      obtain ⟨f1, f2, f3, f4, f5, f6, f7⟩ := pair_facts4 k5
      clear hs5 ho5 hy1 k5
      have z5 := HO5.out.size
      go_wp2_with fail
      refine bodyPost_ret (v := .tuple #[.slice A2 xs.length c2, .agg #[.int .i64 d, .int .i64 (y - 1)]]) (by simp [results, Try.results46, go_sem, f6, f7]) rfl ?_
      refine ⟨xs, A2, c2, d, y - 1, rfl, HQ.out, ?_, (HO5.out.setCell (p := ⟨w.heap.size, 0, none⟩) (Nat.le_refl _) _).setCell (p := ⟨w.heap.size, 1, none⟩) (Nat.le_refl _) _⟩
      exact own_mono (base' := w.heap.size) (own_set (own_set HW5.out sl' _ _) sl' _ _) (by omega)
  · have e1 : (code == 0 && decide ((0 : Int) < L.length)) = false := by
      rw [Bool.and_eq_false_iff]
      by_cases h : code = 0
      · right; exact decide_eq_false (by omega)
      · left; simpa using h
    have hor : ((code == 0) = true ∧ ¬ 0 < L.length) ∨ (code == 0) = false := by
      by_cases h : code = 0
      · left; exact ⟨by simpa using h, fun h' => hg ⟨h, h'⟩⟩
      · right; simpa using h
    clear e1 hg
    rcases hor with ⟨e1, e2⟩ | e1
    all_goals
      go_wp2_with fail
      refine (draw_any 10 w0.heap.size g w3 HS3.out (by omega)).mono ?_
      rintro e w5 ⟨y, rfl, hy0, hy1, _, hs5, ho5⟩
      have hy2 := hy1 (by omega)
      have HO5 := Lib.hid (HB3.out.trans (only_below ho5 (by omega) (by omega)))
      have HW5 := Lib.hid (own_only HW3.out ho5 gl)
      have k5 := SB3.out.grown ho5 (by simp; omega)
      obtain ⟨f1, f2, f3, f4, f5, f6, f7⟩ := pair_facts4 k5
      clear hs5 ho5 hy1 k5
      have z5 := HO5.out.size
      go_wp2_with fail
      refine bodyPost_ret (v := .tuple #[.slice A2 xs.length c2, .agg #[.int .i64 d, .int .i64 (y - 1)]]) (by simp [results, Try.results46, go_sem, f6, f7]) rfl ?_
      refine ⟨xs, A2, c2, d, y - 1, rfl, HQ.out, ?_, (HO5.out.setCell (p := ⟨w.heap.size, 0, none⟩) (Nat.le_refl _) _).setCell (p := ⟨w.heap.size, 1, none⟩) (Nat.le_refl _) _⟩
      exact own_mono (base' := w.heap.size) (own_set (own_set HW5.out sl' _ _) sl' _ _) (by omega)
end Go.Proofs.Yteffnidkkeeaiaa
