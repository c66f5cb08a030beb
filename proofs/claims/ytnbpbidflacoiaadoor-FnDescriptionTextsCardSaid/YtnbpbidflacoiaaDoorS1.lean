/- The source of draws: l01From, l01Next, l01Pick. -/
import Derived.Test.YtnbpbidflacoiaaDoorRows
import Derived.Test.YtnbpbidflacoiaaDoorL0
import Derived.Test.YtnbpbidflacoiaaDoorM0
import Derived.WalkKit
import Derived.ProofKit
import Derived.OpenShut
import Derived.BigQuiet
import Derived.Outline
import Derived.WalkSpells
import Derived.WalkLawsBesides
import Derived.Deep.DeepCutAuto
import Derived.Test.YtnbpbidflacoiaaDoorM1
import Derived.StillTailTactics
import Derived.Deep.QuietTactic
import Derived.Lib.Hide
import Derived.IntWalk
namespace Go.Proofs.YtnbpbidflacoiaaDoor
open Go.ChangeShapes Go.WideShapes Go.ChangeAt Go.RowKit

/-- Bytes as cells. -/
def byC (bs : List UInt8) : List Value := bs.map fun b => .int .u8 b.toNat
theorem byC_len (bs : List UInt8) : (byC bs).length = bs.length * 1 := by simp [byC]
theorem byC_get (bs : List UInt8) (k : Nat) (h : k < bs.length) : (byC bs)[k]? = some (.int .u8 bs[k].toNat) := by simp [byC, h]
/-- A source in block g, over a code that lies below block B. -/
def Src (w : World) (B g : Nat) : Prop := ∃ (bs : List UInt8) (A : Option Addr) (c q : Nat) (seed : Int), Reads w B 1 A bs.length (byC bs) ∧ bs.length ≤ 4096 ∧ q ≤ bs.length ∧ 0 ≤ seed ∧ seed < 2147483647 ∧ B ≤ g ∧ Blk w g 91 #[.slice A bs.length c, .int .i64 q, .int .i64 seed]
theorem Src.lt {w : World} {B g : Nat} (h : Src w B g) : g < w.heap.size := by
  obtain ⟨_, _, _, _, _, _, _, _, _, _, _, h⟩ := h
  exact h.lt
theorem Src.base {w : World} {B g : Nat} (h : Src w B g) : B ≤ g := by
  obtain ⟨_, _, _, _, _, _, _, _, _, _, h, _⟩ := h
  exact h
theorem Src.grown {w w' : World} {B g : Nat} (h : Src w B g) {row : Option Nat} (hg : w.grownBy w' row) (hr : row ≠ some g) (hB : ∀ k, row = some k → B ≤ k) : Src w' B g := by
  obtain ⟨bs, A, c, q, seed, h1, h2, h3, h4, h5, h6, h7⟩ := h
  exact ⟨bs, A, c, q, seed, h1.grown hg (by have := h7.lt; omega) hB, h2, h3, h4, h5, h6, h7.grown hg (fun e => hr e.symm)⟩
theorem Src.below {w w' : World} {B g : Nat} (h : Src w B g) (hb : Below w.heap.size w w') : Src w' B g := by
  obtain ⟨bs, A, c, q, seed, h1, h2, h3, h4, h5, h6, h7⟩ := h
  exact ⟨bs, A, c, q, seed, h1.keep (fun p hp => hb.cell (by have := h7.lt; omega)), h2, h3, h4, h5, h6, h7.below hb h7.lt⟩
theorem Src.alloc {w : World} {B g : Nat} (h : Src w B g) (o : Obj) : Src (w.alloc o) B g := h.below ((Below.refl _ _).alloc (Nat.le_refl _) o)
/-- Only block g has turned, and what is new. -/
abbrev Only (w w' : World) (g : Nat) : Prop := w.grownBy w' (some g)
theorem only_trans {a b c : World} {g : Nat} (h : Only a b g) (k : Only b c g) : Only a c g :=
  ⟨k.os.trans h.os, k.tape.trans h.tape, k.output.trans h.output, Nat.le_trans h.size k.size, fun i hi hn => (k.block i (Nat.lt_of_lt_of_le hi h.size) hn).trans (h.block i hi hn)⟩
theorem only_of_below {a w : World} {g : Nat} (h : Below a.heap.size a w) : Only a w g := ⟨h.os, h.tape, h.output, h.size, fun i hi _ => h.block i hi⟩
theorem only_refl (a : World) (g : Nat) : Only a a g := World.grownBy.refl a _
theorem only_set {a w : World} {g : Nat} (h : Only a w g) (i : Nat) (u : Value) : Only a (w.setCell ⟨g, i, none⟩ u) g :=
  ⟨h.os, h.tape, h.output, by simpa [World.setCell] using h.size, fun j hj hne => (Below.heap_setCell w ⟨g, i, none⟩ u j (by rintro rfl; exact hne rfl)).trans (h.block j hj hne)⟩
theorem only_drewN {a w : World} {g : Nat} (h : Only a w g) (n : Nat) : Only a (w.drewN n) g := ⟨h.os, h.tape, h.output, h.size, h.block⟩
theorem only_below {a w : World} {B g : Nat} (h : Only a w g) (hg : B ≤ g) (hB : B ≤ a.heap.size) : Below B a w :=
  ⟨h.os, h.tape, h.output, h.size, fun i hi => h.block i (Nat.lt_of_lt_of_le hi hB) (by intro e; injection e with e; omega)⟩
theorem three_cells {W : World} {g : Nat} {t : TypeId} {a b c : Value} (h : Blk W g t #[a, b, c]) :
    W.cell? ⟨g, 0, none⟩ = some a ∧ W.cell? ⟨g, 1, none⟩ = some b ∧ W.cell? ⟨g, 2, none⟩ = some c ∧ W.frozen? ⟨g, 1, none⟩ = false ∧ W.frozen? ⟨g, 2, none⟩ = false :=
  ⟨by rw [h.cell]; rfl, by rw [h.cell]; rfl, by rw [h.cell]; rfl, h.frozen 1, h.frozen 2⟩

set_option maxRecDepth 100000 in
set_option maxHeartbeats 2000000 in
theorem from_any (bs : List UInt8) (A : Option Addr) (c : Nat) (w : World) (hr : Reads w w.heap.size 1 A bs.length (byC bs)) (hn : bs.length ≤ 4096) :
    Calls Tryd.prog 41 #[.slice A bs.length c] w fun e w' => ∃ g, e = .returned (.pointer (some ⟨g, 0, none⟩)) ∧ Src w' w.heap.size g ∧ Below w.heap.size w w' := by
  have HR := Lib.hid hr; clear hr
  go_enter Tryd.func41, Tryd.ntmps41
  go_wp2_with fail
  go_loopw [4] (fun v4 wr => ∃ (k : Nat) (seed : Int), k ≤ bs.length ∧ 0 ≤ seed ∧ seed < 2147483647 ∧ Hid (Blk wr w.heap.size 91 #[.slice A bs.length c, .int .i64 0, .int .i64 seed]) ∧ Hid (Below w.heap.size w wr) ∧ v4 = .int .i64 k) (fun i _ => bs.length - (intOf i).toNat)
  case atStart => exact ⟨0, 51031, by omega, by omega, by omega, Blk.new _ _ _, (Below.refl _ _).alloc (Nat.le_refl _) _, rfl⟩
  case round =>
    obtain ⟨k, seed, hk, hs0, hs1, HB, BW, rfl⟩ := hrel
    by_cases hlt : k < bs.length ∧ k < 64
    · obtain ⟨hlt, h64⟩ := hlt
      obtain ⟨ab, ao, rfl, hadb, hcell⟩ := (HR.out.below BW.out).2 (by omega)
      have c0 := hcell _ _ (byC_get bs k hlt)
      clear hcell
      have hby : bs[k].toNat < 256 := bs[k].toNat_lt
      generalize bs[k].toNat = b at c0 hby
      obtain ⟨c1, c2, c3, c4, c5⟩ := three_cells HB.out
      have e1 : IntKind.i64.wrap (seed * 73) = seed * 73 := IntWalk.i64_in _ (by omega)
      have e2 : IntKind.i64.wrap (seed * 73 + b) = seed * 73 + b := IntWalk.i64_in _ (by omega)
      have e3 : (seed * 73 + (b : Int)).tmod 2147483647 = (seed * 73 + b) % 2147483647 := Int.tmod_eq_emod_of_nonneg (by omega)
      go_wp2_with fail
      go_still_tail 15, (by kernel_rfl)
      change wpList _ _ _ _ _ (World.drew _)
      go_wp2_with fail
      go_roundw
      case rel =>
        refine ⟨k + 1, (seed * 73 + b) % 2147483647, by omega, by omega, by omega, ?_, BW.out.drew.setCell (Nat.le_refl _) _, by go_num⟩
        refine Lib.hid ?_
        simpa [World.setCell_drew] using (HB.out.set_ 2 _).drew
      case measure => simp [intOf]; omega
    · go_wp2_with fail
      all_goals
        go_ret
        exact ⟨w.heap.size, rfl, ⟨bs, A, c, 0, seed, (HR.out.below BW.out), hn, by omega, hs0, hs1, Nat.le_refl _, HB.out⟩, BW.out⟩

/-- What l01Next answers. -/
def Drawn (w : World) (B g : Nat) (N : Int) (e : Ending) (w' : World) : Prop := ∃ x : Int, e = .returned (.int .i64 x) ∧ 0 ≤ x ∧ (1 < N → x < N) ∧ (N ≤ 1 → x = 0) ∧ Src w' B g ∧ Only w w' g

set_option maxRecDepth 100000 in
set_option maxHeartbeats 2000000 in
theorem draw_any (N : Int) (B g : Nat) (w : World) (hs : Src w B g) (hB : B ≤ w.heap.size) :
    Calls Tryd.prog 43 #[.pointer (some ⟨g, 0, none⟩), .int .i64 N] w (Drawn w B g N) := by
  by_cases hN : N ≤ 1
  · have HS := Lib.hid hs; clear hs
    go_enter Tryd.func43, Tryd.ntmps43
    go_wp2_with fail
    go_ret
    exact ⟨0, rfl, by omega, by omega, fun _ => rfl, HS.out, only_refl _ _⟩
  · obtain ⟨bs, A, c, q, seed, hr, hn, hq, h0, h1, hBg, hblk⟩ := hs
    obtain ⟨c1, c2, c3, c4, c5⟩ := three_cells hblk
    have HB := Lib.hid hblk; clear hblk
    have HR := Lib.hid hr; clear hr
    go_enter Tryd.func43, Tryd.ntmps43
    have e1 : IntKind.i64.wrap (seed * 48271) = seed * 48271 := IntWalk.i64_in _ (by omega)
    have e2 : IntKind.i64.wrap (seed * 48271 + 29) = seed * 48271 + 29 := IntWalk.i64_in _ (by omega)
    have e3 : (seed * 48271 + 29).tmod 2147483647 = (seed * 48271 + 29) % 2147483647 := Int.tmod_eq_emod_of_nonneg (by omega)
    go_upto_region 5 with (fail)
    have hx0 : 0 ≤ (seed * 48271 + 29) % 2147483647 ∧ (seed * 48271 + 29) % 2147483647 < 2147483647 := by omega
    have f1 : Blk (w.setCell ⟨g, 2, none⟩ (.int .i64 ((seed * 48271 + 29) % 2147483647))) g 91 #[.slice A bs.length c, .int .i64 q, .int .i64 ((seed * 48271 + 29) % 2147483647)] := by simpa using HB.out.set_ 2 (.int .i64 ((seed * 48271 + 29) % 2147483647))
    have f2 := only_set (only_refl w g) 2 (.int .i64 ((seed * 48271 + 29) % 2147483647))
    generalize w.setCell ⟨g, 2, none⟩ (.int .i64 ((seed * 48271 + 29) % 2147483647)) = W1 at f1 f2 ⊢
    generalize (seed * 48271 + 29) % 2147483647 = x0 at f1 hx0 ⊢
    have R1 := Lib.hid (HR.out.below (only_below f2 hBg hB))
    obtain ⟨d1, d2, d3, d4, d5⟩ := three_cells f1
    have F1 := Lib.hid f1; clear f1
    have F2 := Lib.hid f2; clear f2
    clear c1 c2 c3 c4 c5 e1 e2 e3
    by_cases hqn : q < bs.length
    · obtain ⟨ab, ao, rfl, hadb, hcell⟩ := R1.out.2 (by omega)
      clear hcell
      have hq0 : (0 : Int) ≤ (q : Int) := by omega
      have hqi : (q : Int) < (bs.length : Int) := by omega
      go_quiet (fail)
      have m1 := F1.out.drewN nq
      have m2 := only_drewN F2.out nq
      generalize W1.drewN nq = W1b at m1 m2 ⊢
      clear d1 d2 d3 d4 d5
      obtain ⟨d1, d2, d3, d4, d5⟩ := three_cells m1
      have M1 := Lib.hid m1; clear m1
      have M2 := Lib.hid m2; clear m2
      have p0 := ((HR.out.below (only_below M2.out hBg hB)).2 (by omega))
      obtain ⟨ab', ao', hab, _, hcell⟩ := p0
      injection hab with hab
      injection hab with hab1 hab2
      subst hab1 hab2
      have p0 := hcell _ _ (byC_get bs q hqn)
      clear hcell
      have hby : bs[q].toNat < 256 := bs[q].toNat_lt
      generalize bs[q].toNat = b at p0 hby
      go_upto_region 6 with (fail)
      have e1 : IntKind.i64.wrap (x0 / 31 + b) = x0 / 31 + b := IntWalk.i64_in _ (by omega)
      go_quiet (fail)
      have g1 := M1.out.drewN nq
      have g2 := only_drewN M2.out nq
      generalize W1b.drewN nq = W2 at g1 g2 ⊢
      clear d1 d2 d3 d4 d5 p0 F1 F2 R1 e1 M1 M2
      obtain ⟨d1, d2, d3, d4, d5⟩ := three_cells g1
      have G1 := Lib.hid g1; clear g1
      have G2 := Lib.hid g2; clear g2
      have hsum : 0 ≤ x0 / 31 + (b : Int) := by omega
      go_upto_region 8 with (fail)
      have k1 : Blk (W2.setCell ⟨g, 1, none⟩ (.int .i64 (q + 1))) g 91 #[.slice (some ⟨ab, ao, none⟩) bs.length c, .int .i64 ((q + 1 : Nat) : Int), .int .i64 x0] := by simpa using G1.out.set_ 1 (.int .i64 (q + 1))
      have k2 := only_set G2.out 1 (.int .i64 (q + 1))
      generalize W2.setCell ⟨g, 1, none⟩ (.int .i64 (q + 1)) = W3 at k1 k2 ⊢
      have R3 := Lib.hid (HR.out.below (only_below k2 hBg hB))
      obtain ⟨d1, d2, d3, d4, d5⟩ := three_cells k1
      obtain ⟨ab', ao', hab, _, hcell⟩ := R3.out.2 (by omega)
      have p0 := hcell _ _ (byC_get bs q hqn)
      injection hab with hab
      injection hab with hab1 hab2
      subst hab1 hab2
      clear hcell
      have hby : bs[q].toNat < 256 := bs[q].toNat_lt
      have K1 := Lib.hid k1; clear k1
      have K2 := Lib.hid k2; clear k2
      clear G1 G2 hqi
      generalize hbb : bs[q].toNat = b2 at p0 hby
      clear hbb
      have e2 : (x0 / 31 + (b : Int)).tmod N = (x0 / 31 + b) % N := Int.tmod_eq_emod_of_nonneg (by omega)
      have hm0 := Int.emod_nonneg (x0 / 31 + (b : Int)) (show N ≠ 0 by omega)
      have hm1 := Int.emod_lt_of_pos (x0 / 31 + (b : Int)) (show 0 < N by omega)
      have e3 : (b2 : Int).tmod N = (b2 : Int) % N := Int.tmod_eq_emod_of_nonneg (by omega)
      have hn0 := Int.emod_nonneg (b2 : Int) (show N ≠ 0 by omega)
      have hn1 := Int.emod_lt_of_pos (b2 : Int) (show 0 < N by omega)
      have SR : ∀ n, Src (W3.drewN n) B g := fun n => ⟨bs, some ⟨ab, ao, none⟩, c, q + 1, x0, R3.out, hn, by omega, by omega, by omega, hBg, K1.out.drewN n⟩
      have SQ := Lib.hid SR; clear SR
      have e4 : ((q : Int) + 1).tmod 2 = ((q : Int) + 1) % 2 := Int.tmod_eq_emod_of_nonneg (by omega)
      by_cases hc : N ≤ 256
      · by_cases hp : ((q : Int) + 1) % 2 = 0
        · have hp' : ((q : Int) + 1) % 2 == 0 := by simpa using hp
          have e5 : IntKind.i64.wrap ((q : Int) + 1 - 1) = (q : Int) := IntWalk.i64_in _ (by omega) |>.trans (by omega)
          have e6 : IntKind.i64.wrap (q : Int) = (q : Int) := IntWalk.i64_in _ (by omega)
          have hqi : (q : Int) < (bs.length : Int) := by omega
          clear hp
          go_upto_region 9 with (fail)
          clear hp' e4 e2 hm0 hm1
          go_quiet (fail)
          go_wp2_with fail
          go_ret
          exact ⟨_, rfl, hn0, fun _ => hn1, fun h => by omega, SQ.out nq, only_drewN K2.out nq⟩
        · have hp' : (((q : Int) + 1) % 2 == 0) = false := by simpa using hp
          clear hp
          go_wp2_with fail
          go_ret
          exact ⟨_, rfl, hm0, fun _ => hm1, fun h => by omega, SQ.out 0, K2.out⟩
      · go_wp2_with fail
        go_ret
        exact ⟨_, rfl, hm0, fun _ => hm1, fun h => by omega, SQ.out 0, K2.out⟩
    · have hqi : ¬ (q : Int) < (bs.length : Int) := by omega
      go_quiet (fail)
      have e2 : (x0 / 31).tmod N = (x0 / 31) % N := Int.tmod_eq_emod_of_nonneg (by omega)
      have hm0 := Int.emod_nonneg (x0 / 31) (show N ≠ 0 by omega)
      have hm1 := Int.emod_lt_of_pos (x0 / 31) (show 0 < N by omega)
      go_wp2_with fail
      go_ret
      exact ⟨_, rfl, hm0, fun _ => hm1, fun h => by omega, ⟨bs, A, c, q, x0, R1.out, hn, hq, hx0.1, hx0.2, hBg, F1.out.drewN nq⟩, only_drewN F2.out nq⟩
end Go.Proofs.YtnbpbidflacoiaaDoor
