/- The source of draws: l01From, l01Next, l01Pick. Draws: l01Pick. Merged: A region that draws its order, walked by what each operation leaves: each operation once, in whatever order. What the operations of a drawn region leave, in a draw of the reference: shapes that stay while the source alone turns. What the store of a struct of two to seven cells leaves, in a draw of the reference. Regions that draw their order and change nothing old: what their operations leave. A region that draws its order and ends in a row of operations, each of which waits for the one ahead: those are walked as a list. A row whose cells say a law: a shape of a slot. As XRT's rule, but the slots of the last operations keep what they hold: for regions that read a slot which their last operation assigns. The code of draws, and l01From on it. As XRX's rule, but what an operation leaves may speak of the slots that it waits for. Drawn regions in which one new box gets its value: what their operations leave. -/
import Derived.Test.YtaaioengebaebaaGreatDoorRows
import Derived.Test.YtaaioengebaebaaGreatDoorK8GA
import Derived.WalkKit
import Derived.ProofKit
import Derived.OpenShut
import Derived.BigQuiet
import Derived.Outline
import Derived.WalkSpells
import Derived.WalkLawsBesides
import Derived.Deep.DeepCutAuto
import Derived.StillTailTactics
import Derived.Deep.QuietTactic
import Derived.Lib.Hide
import Derived.IntWalk
import Derived.Deep.LoopGhost
import Derived.Deep.RegionHeld3
namespace Go.Proofs.YtaaioengebaebaaGreatDoor
open Go.ChangeShapes Go.WideShapes Go.ChangeAt Go.RowKit

/-- Bytes as cells. -/
def byC (bs : List UInt8) : List Value := bs.map fun b => .int .u8 b.toNat
theorem byC_len (bs : List UInt8) : (byC bs).length = bs.length * 1 := by simp [byC]
theorem byC_get (bs : List UInt8) (k : Nat) (h : k < bs.length) : (byC bs)[k]? = some (.int .u8 bs[k].toNat) := by simp [byC, h]
/-- A source in block g, over a code that lies below block B. -/
def Src (w : World) (B g : Nat) : Prop := ∃ (bs : List UInt8) (A : Option Addr) (c q : Nat) (seed : Int), Reads w B 1 A bs.length (byC bs) ∧ bs.length ≤ 4096 ∧ q ≤ bs.length ∧ 0 ≤ seed ∧ seed < 2147483647 ∧ B ≤ g ∧ Blk w g 118 #[.slice A bs.length c, .int .i64 q, .int .i64 seed]
theorem Src.lt {w : World} {B g : Nat} (h : Src w B g) : g < w.heap.size := by
  obtain ⟨_, _, _, _, _, _, _, _, _, _, _, h⟩ := h
  exact h.lt
theorem Src.base {w : World} {B g : Nat} (h : Src w B g) : B ≤ g := by
  obtain ⟨_, _, _, _, _, _, _, _, _, _, h, _⟩ := h
  exact h
theorem Src.grown {w w' : World} {B g : Nat} (h : Src w B g) {row : Option Nat} (hg : w.grownBy w' row) (hr : row ≠ some g) (hB : ∀ k, row = some k → B ≤ k) : Src w' B g := by
  obtain ⟨bs, A, c, q, seed, h1, h2, h3, h4, h5, h6, h7⟩ := h
  exact ⟨bs, A, c, q, seed, h1.grown hg (by have := h7.lt; omega) hB, h2, h3, h4, h5, h6, h7.grown hg (fun e => hr e.symm)⟩
theorem Src.below {w w' : World} {B g : Nat} (h : Src w B g) (hb : Below w.heap.size w w') : Src w' B g := by
  obtain ⟨bs, A, c, q, seed, h1, h2, h3, h4, h5, h6, h7⟩ := h
  exact ⟨bs, A, c, q, seed, h1.keep (fun p hp => hb.cell (by have := h7.lt; omega)), h2, h3, h4, h5, h6, h7.below hb h7.lt⟩
theorem Src.alloc {w : World} {B g : Nat} (h : Src w B g) (o : Obj) : Src (w.alloc o) B g := h.below ((Below.refl _ _).alloc (Nat.le_refl _) o)
/-- Only block g has turned, and what is new. -/
abbrev Only (w w' : World) (g : Nat) : Prop := w.grownBy w' (some g)
theorem only_trans {a b c : World} {g : Nat} (h : Only a b g) (k : Only b c g) : Only a c g :=
  ⟨k.os.trans h.os, k.tape.trans h.tape, k.output.trans h.output, Nat.le_trans h.size k.size, fun i hi hn => (k.block i (Nat.lt_of_lt_of_le hi h.size) hn).trans (h.block i hi hn)⟩
theorem only_of_below {a w : World} {g : Nat} (h : Below a.heap.size a w) : Only a w g := ⟨h.os, h.tape, h.output, h.size, fun i hi _ => h.block i hi⟩
theorem only_refl (a : World) (g : Nat) : Only a a g := World.grownBy.refl a _
theorem only_set {a w : World} {g : Nat} (h : Only a w g) (i : Nat) (u : Value) : Only a (w.setCell ⟨g, i, none⟩ u) g :=
  ⟨h.os, h.tape, h.output, by simpa [World.setCell] using h.size, fun j hj hne => (Below.heap_setCell w ⟨g, i, none⟩ u j (by rintro rfl; exact hne rfl)).trans (h.block j hj hne)⟩
theorem only_drewN {a w : World} {g : Nat} (h : Only a w g) (n : Nat) : Only a (w.drewN n) g := ⟨h.os, h.tape, h.output, h.size, h.block⟩
theorem only_below {a w : World} {B g : Nat} (h : Only a w g) (hg : B ≤ g) (hB : B ≤ a.heap.size) : Below B a w :=
  ⟨h.os, h.tape, h.output, h.size, fun i hi => h.block i (Nat.lt_of_lt_of_le hi hB) (by intro e; injection e with e; omega)⟩
theorem three_cells {W : World} {g : Nat} {t : TypeId} {a b c : Value} (h : Blk W g t #[a, b, c]) :
    W.cell? ⟨g, 0, none⟩ = some a ∧ W.cell? ⟨g, 1, none⟩ = some b ∧ W.cell? ⟨g, 2, none⟩ = some c ∧ W.frozen? ⟨g, 1, none⟩ = false ∧ W.frozen? ⟨g, 2, none⟩ = false :=
  ⟨by rw [h.cell]; rfl, by rw [h.cell]; rfl, by rw [h.cell]; rfl, h.frozen 1, h.frozen 2⟩

set_option maxRecDepth 100000 in
set_option maxHeartbeats 2000000 in
theorem from_any (bs : List UInt8) (A : Option Addr) (c : Nat) (w : World) (hr : Reads w w.heap.size 1 A bs.length (byC bs)) (hn : bs.length ≤ 4096) :
    Calls Tryz.prog 65 #[.slice A bs.length c] w fun e w' => ∃ g, e = .returned (.pointer (some ⟨g, 0, none⟩)) ∧ Src w' w.heap.size g ∧ Below w.heap.size w w' := by
  have HR := Lib.hid hr; clear hr
  go_enter Tryz.func65, Tryz.ntmps65
  go_wp2_with fail
  go_loopw [4] (fun v4 wr => ∃ (k : Nat) (seed : Int), k ≤ bs.length ∧ 0 ≤ seed ∧ seed < 2147483647 ∧ Hid (Blk wr w.heap.size 118 #[.slice A bs.length c, .int .i64 0, .int .i64 seed]) ∧ Hid (Below w.heap.size w wr) ∧ v4 = .int .i64 k) (fun i _ => bs.length - (intOf i).toNat)
  case atStart => exact ⟨0, 51031, by omega, by omega, by omega, Blk.new _ _ _, (Below.refl _ _).alloc (Nat.le_refl _) _, rfl⟩
  case round =>
    obtain ⟨k, seed, hk, hs0, hs1, HB, BW, rfl⟩ := hrel
    by_cases hlt : k < bs.length ∧ k < 64
    · obtain ⟨hlt, h64⟩ := hlt
      obtain ⟨ab, ao, rfl, hadb, hcell⟩ := (HR.out.below BW.out).2 (by omega)
      have c0 := hcell _ _ (byC_get bs k hlt)
      clear hcell
      have hby : bs[k].toNat < 256 := bs[k].toNat_lt
      generalize bs[k].toNat = b at c0 hby
      obtain ⟨c1, c2, c3, c4, c5⟩ := three_cells HB.out
      have e1 : IntKind.i64.wrap (seed * 73) = seed * 73 := IntWalk.i64_in _ (by omega)
      have e2 : IntKind.i64.wrap (seed * 73 + b) = seed * 73 + b := IntWalk.i64_in _ (by omega)
      have e3 : (seed * 73 + (b : Int)).tmod 2147483647 = (seed * 73 + b) % 2147483647 := Int.tmod_eq_emod_of_nonneg (by omega)
      go_wp2_with fail
      go_still_tail 15, (by kernel_rfl)
      change wpList _ _ _ _ _ (World.drew _)
      go_wp2_with fail
      go_roundw
      case rel =>
        refine ⟨k + 1, (seed * 73 + b) % 2147483647, by omega, by omega, by omega, ?_, BW.out.drew.setCell (Nat.le_refl _) _, by go_num⟩
        refine Lib.hid ?_
        simpa [World.setCell_drew] using (HB.out.set_ 2 _).drew
      case measure => simp [intOf]; omega
    · go_wp2_with fail
      all_goals
        go_ret
        exact ⟨w.heap.size, rfl, ⟨bs, A, c, 0, seed, (HR.out.below BW.out), hn, by omega, hs0, hs1, Nat.le_refl _, HB.out⟩, BW.out⟩

/-- What l01Next answers. -/
def Drawn (w : World) (B g : Nat) (N : Int) (e : Ending) (w' : World) : Prop := ∃ x : Int, e = .returned (.int .i64 x) ∧ 0 ≤ x ∧ (1 < N → x < N) ∧ (N ≤ 1 → x = 0) ∧ Src w' B g ∧ Only w w' g

set_option maxRecDepth 100000 in
set_option maxHeartbeats 2000000 in
theorem draw_any (N : Int) (B g : Nat) (w : World) (hs : Src w B g) (hB : B ≤ w.heap.size) :
    Calls Tryz.prog 93 #[.pointer (some ⟨g, 0, none⟩), .int .i64 N] w (Drawn w B g N) := by
  by_cases hN : N ≤ 1
  · have HS := Lib.hid hs; clear hs
    go_enter Tryz.func93, Tryz.ntmps93
    go_wp2_with fail
    go_ret
    exact ⟨0, rfl, by omega, by omega, fun _ => rfl, HS.out, only_refl _ _⟩
  · obtain ⟨bs, A, c, q, seed, hr, hn, hq, h0, h1, hBg, hblk⟩ := hs
    obtain ⟨c1, c2, c3, c4, c5⟩ := three_cells hblk
    have HB := Lib.hid hblk; clear hblk
    have HR := Lib.hid hr; clear hr
    go_enter Tryz.func93, Tryz.ntmps93
    have e1 : IntKind.i64.wrap (seed * 48271) = seed * 48271 := IntWalk.i64_in _ (by omega)
    have e2 : IntKind.i64.wrap (seed * 48271 + 29) = seed * 48271 + 29 := IntWalk.i64_in _ (by omega)
    have e3 : (seed * 48271 + 29).tmod 2147483647 = (seed * 48271 + 29) % 2147483647 := Int.tmod_eq_emod_of_nonneg (by omega)
    go_upto_region 5 with (fail)
    have hx0 : 0 ≤ (seed * 48271 + 29) % 2147483647 ∧ (seed * 48271 + 29) % 2147483647 < 2147483647 := by omega
    have f1 : Blk (w.setCell ⟨g, 2, none⟩ (.int .i64 ((seed * 48271 + 29) % 2147483647))) g 118 #[.slice A bs.length c, .int .i64 q, .int .i64 ((seed * 48271 + 29) % 2147483647)] := by simpa using HB.out.set_ 2 (.int .i64 ((seed * 48271 + 29) % 2147483647))
    have f2 := only_set (only_refl w g) 2 (.int .i64 ((seed * 48271 + 29) % 2147483647))
    generalize w.setCell ⟨g, 2, none⟩ (.int .i64 ((seed * 48271 + 29) % 2147483647)) = W1 at f1 f2 ⊢
    generalize (seed * 48271 + 29) % 2147483647 = x0 at f1 hx0 ⊢
    have R1 := Lib.hid (HR.out.below (only_below f2 hBg hB))
    obtain ⟨d1, d2, d3, d4, d5⟩ := three_cells f1
    have F1 := Lib.hid f1; clear f1
    have F2 := Lib.hid f2; clear f2
    clear c1 c2 c3 c4 c5 e1 e2 e3
    by_cases hqn : q < bs.length
    · obtain ⟨ab, ao, rfl, hadb, hcell⟩ := R1.out.2 (by omega)
      clear hcell
      have hq0 : (0 : Int) ≤ (q : Int) := by omega
      have hqi : (q : Int) < (bs.length : Int) := by omega
      go_quiet (fail)
      have m1 := F1.out.drewN nq
      have m2 := only_drewN F2.out nq
      generalize W1.drewN nq = W1b at m1 m2 ⊢
      clear d1 d2 d3 d4 d5
      obtain ⟨d1, d2, d3, d4, d5⟩ := three_cells m1
      have M1 := Lib.hid m1; clear m1
      have M2 := Lib.hid m2; clear m2
      have p0 := ((HR.out.below (only_below M2.out hBg hB)).2 (by omega))
      obtain ⟨ab', ao', hab, _, hcell⟩ := p0
      injection hab with hab
      injection hab with hab1 hab2
      subst hab1 hab2
      have p0 := hcell _ _ (byC_get bs q hqn)
      clear hcell
      have hby : bs[q].toNat < 256 := bs[q].toNat_lt
      generalize bs[q].toNat = b at p0 hby
      go_upto_region 6 with (fail)
      have e1 : IntKind.i64.wrap (x0 / 31 + b) = x0 / 31 + b := IntWalk.i64_in _ (by omega)
      go_quiet (fail)
      have g1 := M1.out.drewN nq
      have g2 := only_drewN M2.out nq
      generalize W1b.drewN nq = W2 at g1 g2 ⊢
      clear d1 d2 d3 d4 d5 p0 F1 F2 R1 e1 M1 M2
      obtain ⟨d1, d2, d3, d4, d5⟩ := three_cells g1
      have G1 := Lib.hid g1; clear g1
      have G2 := Lib.hid g2; clear g2
      have hsum : 0 ≤ x0 / 31 + (b : Int) := by omega
      go_upto_region 8 with (fail)
      have k1 : Blk (W2.setCell ⟨g, 1, none⟩ (.int .i64 (q + 1))) g 118 #[.slice (some ⟨ab, ao, none⟩) bs.length c, .int .i64 ((q + 1 : Nat) : Int), .int .i64 x0] := by simpa using G1.out.set_ 1 (.int .i64 (q + 1))
      have k2 := only_set G2.out 1 (.int .i64 (q + 1))
      generalize W2.setCell ⟨g, 1, none⟩ (.int .i64 (q + 1)) = W3 at k1 k2 ⊢
      have R3 := Lib.hid (HR.out.below (only_below k2 hBg hB))
      obtain ⟨d1, d2, d3, d4, d5⟩ := three_cells k1
      obtain ⟨ab', ao', hab, _, hcell⟩ := R3.out.2 (by omega)
      have p0 := hcell _ _ (byC_get bs q hqn)
      injection hab with hab
      injection hab with hab1 hab2
      subst hab1 hab2
      clear hcell
      have hby : bs[q].toNat < 256 := bs[q].toNat_lt
      have K1 := Lib.hid k1; clear k1
      have K2 := Lib.hid k2; clear k2
      clear G1 G2 hqi
      generalize hbb : bs[q].toNat = b2 at p0 hby
      clear hbb
      have e2 : (x0 / 31 + (b : Int)).tmod N = (x0 / 31 + b) % N := Int.tmod_eq_emod_of_nonneg (by omega)
      have hm0 := Int.emod_nonneg (x0 / 31 + (b : Int)) (show N ≠ 0 by omega)
      have hm1 := Int.emod_lt_of_pos (x0 / 31 + (b : Int)) (show 0 < N by omega)
      have e3 : (b2 : Int).tmod N = (b2 : Int) % N := Int.tmod_eq_emod_of_nonneg (by omega)
      have hn0 := Int.emod_nonneg (b2 : Int) (show N ≠ 0 by omega)
      have hn1 := Int.emod_lt_of_pos (b2 : Int) (show 0 < N by omega)
      have SR : ∀ n, Src (W3.drewN n) B g := fun n => ⟨bs, some ⟨ab, ao, none⟩, c, q + 1, x0, R3.out, hn, by omega, by omega, by omega, hBg, K1.out.drewN n⟩
      have SQ := Lib.hid SR; clear SR
      have e4 : ((q : Int) + 1).tmod 2 = ((q : Int) + 1) % 2 := Int.tmod_eq_emod_of_nonneg (by omega)
      by_cases hc : N ≤ 256
      · by_cases hp : ((q : Int) + 1) % 2 = 0
        · have hp' : ((q : Int) + 1) % 2 == 0 := by simpa using hp
          have e5 : IntKind.i64.wrap ((q : Int) + 1 - 1) = (q : Int) := IntWalk.i64_in _ (by omega) |>.trans (by omega)
          have e6 : IntKind.i64.wrap (q : Int) = (q : Int) := IntWalk.i64_in _ (by omega)
          have hqi : (q : Int) < (bs.length : Int) := by omega
          clear hp
          go_upto_region 9 with (fail)
          clear hp' e4 e2 hm0 hm1
          go_quiet (fail)
          go_wp2_with fail
          go_ret
          exact ⟨_, rfl, hn0, fun _ => hn1, fun h => by omega, SQ.out nq, only_drewN K2.out nq⟩
        · have hp' : (((q : Int) + 1) % 2 == 0) = false := by simpa using hp
          clear hp
          go_wp2_with fail
          go_ret
          exact ⟨_, rfl, hm0, fun _ => hm1, fun h => by omega, SQ.out 0, K2.out⟩
      · go_wp2_with fail
        go_ret
        exact ⟨_, rfl, hm0, fun _ => hm1, fun h => by omega, SQ.out 0, K2.out⟩
    · have hqi : ¬ (q : Int) < (bs.length : Int) := by omega
      go_quiet (fail)
      have e2 : (x0 / 31).tmod N = (x0 / 31) % N := Int.tmod_eq_emod_of_nonneg (by omega)
      have hm0 := Int.emod_nonneg (x0 / 31) (show N ≠ 0 by omega)
      have hm1 := Int.emod_lt_of_pos (x0 / 31) (show 0 < N by omega)
      go_wp2_with fail
      go_ret
      exact ⟨_, rfl, hm0, fun _ => hm1, fun h => by omega, ⟨bs, A, c, q, x0, R1.out, hn, hq, hx0.1, hx0.2, hBg, F1.out.drewN nq⟩, only_drewN F2.out nq⟩
end Go.Proofs.YtaaioengebaebaaGreatDoor
namespace Go.Proofs.YtaaioengebaebaaGreatDoor
open Go.ChangeShapes Go.WideShapes Go.ChangeAt Go.RowKit

def iC (xs : List Int) : List Value := xs.map (Value.int .i64)
theorem iC_get (xs : List Int) (k : Nat) (h : k < xs.length) : (iC xs)[k]? = some (.int .i64 xs[k]) := by simp [iC, h]
def Picked (w : World) (B g : Nat) (L : List Int) (e : Ending) (w' : World) : Prop := ∃ x : Int, e = .returned (.int .i64 x) ∧ x ∈ L ∧ Src w' B g ∧ Only w w' g
set_option maxRecDepth 100000 in
theorem pick_any (L : List Int) (b c : Nat) (B g : Nat) (w : World) (hs : Src w B g) (hB : B ≤ w.heap.size) (hL : 0 < L.length) (hl : L.length ≤ 100) (hblk : Blk w b 2 (iC L).toArray) (hne : b ≠ g) :
    Calls Tryz.prog 98 #[.pointer (some ⟨g, 0, none⟩), .slice (some ⟨b, 0, none⟩) L.length c] w (Picked w B g L) := by
  have HS := Lib.hid hs; clear hs
  have HB := Lib.hid hblk; clear hblk
  go_enter Tryz.func98, Tryz.ntmps98
  go_wp2_with fail
  refine (draw_any L.length B g w HS.out hB).mono ?_
  rintro e w1 ⟨x, rfl, h0, h1, h2, hs1, ho⟩
  obtain ⟨k, rfl⟩ : ∃ k : Nat, x = k := ⟨x.toNat, by omega⟩
  have hk : k < L.length := by omega
  have hb1 := HB.out.grown ho (by simpa using hne)
  have c0 := hb1.cell k
  have e0 : (iC L).toArray[k]? = some (.int .i64 L[k]) := by simpa using iC_get L k hk
  rw [e0] at c0
  have HM := Lib.hid (List.getElem_mem hk)
  have HS1 := Lib.hid hs1
  have HO := Lib.hid ho
  clear hb1 e0 hs1 ho h1 h2
  generalize L[k] = x at c0 HM
  go_wp2_with fail
  go_ret
  exact ⟨x, rfl, HM.out, HS1.out, HO.out⟩

theorem own_only {w w' : World} {base : Nat} {e : TypeId} {size n g : Nat} {v : Value} {xs : List Value} (h : w.ownsRow base e size v n xs) (ho : Only w w' g) (hg : g < base) : w'.ownsRow base e size v n xs := by
  refine h.kept ho ?_
  cases hv : v.ownBlock with
  | none => exact .inl rfl
  | some k => exact .inr (fun e => by injection e with e; have := (own_lt h k hv).1; omega)
theorem only_alloc {a w : World} {g : Nat} (h : Only a w g) (o : Obj) : Only a (w.alloc o) g :=
  only_trans h (only_of_below ((Below.refl _ _).alloc (Nat.le_refl _) o))

end Go.Proofs.YtaaioengebaebaaGreatDoor
namespace Go.Proofs.YtaaioengebaebaaGreatDoor
open Go

section
variable {P : Program} {Q : Exit → Act → World → Prop}

/-- Operation i leaves v. -/
def upd (f : Nat → Value) (i : Nat) (v : Value) : Nat → Value := fun j => if j = i then v else f j
theorem upd_at (f : Nat → Value) (i : Nat) (v : Value) : upd f i v i = v := by simp [upd]
theorem upd_ne (f : Nat → Value) {i j : Nat} (v : Value) (h : j ≠ i) : upd f i v j = f j := by simp [upd, h]
/-- The slots of operations number i and on, filled out of f. -/
def lay (f : Nat → Value) : Array Value → Nat → List Oper → Array Value
  | t, _, [] => t
  | t, i, o :: os => lay f (match o.dst with | some d => t.setIfInBounds d (f i) | none => t) (i + 1) os
/-- No two operations leave their value in one slot; each waits only for earlier ones. -/
def tidy : Nat → List Oper → Bool
  | _, [] => true
  | i, o :: os => (o.after.all fun e => !Region.binds .any e || decide (e.on < i)) && (match o.dst with | some d => os.all fun q => q.dst != some d | none => true) && tidy (i + 1) os

theorem lay_set (f : Nat → Value) (d : Nat) (v : Value) : ∀ (L : List Oper) (i : Nat) (t : Array Value), (L.all fun q => q.dst != some d) = true → (lay f t i L).setIfInBounds d v = lay f (t.setIfInBounds d v) i L := by
  intro L
  induction L with
  | nil => intro i t _; rfl
  | cons o os ih =>
    intro i t h
    simp only [List.all_cons, Bool.and_eq_true, bne_iff_ne, ne_eq] at h
    obtain ⟨h1, h2⟩ := h
    simp only [lay]
    rw [ih _ _ h2]
    congr 1
    cases hd : o.dst with
    | none => rfl
    | some d' =>
      have : d' ≠ d := fun e => h1 (by rw [hd, e])
      simp only
      rw [Array.setIfInBounds_comm _ _ this]
theorem lay_congr {f g : Nat → Value} : ∀ (L : List Oper) (i : Nat) (t : Array Value), (∀ j, i ≤ j → f j = g j) → lay f t i L = lay g t i L := by
  intro L
  induction L with
  | nil => intro i t _; rfl
  | cons o os ih =>
    intro i t h
    simp only [lay]
    rw [ih (i + 1) _ (fun j hj => h j (by omega)), h i (Nat.le_refl _)]
theorem lay_put (f : Nat → Value) (v : Value) : ∀ (L : List Oper) (i k : Nat) (t : Array Value) (o : Oper), tidy i L = true → L[k]? = some o →
    (match o.dst with | some d => (lay f t i L).setIfInBounds d v | none => lay f t i L) = lay (upd f (i + k) v) t i L := by
  intro L
  induction L with
  | nil => intro i k t o _ h; simp at h
  | cons o' os ih =>
    intro i k t o ht hk
    simp only [tidy, Bool.and_eq_true] at ht
    obtain ⟨⟨_, h1⟩, h2⟩ := ht
    cases k with
    | zero =>
      simp only [List.getElem?_cons_zero, Option.some.injEq] at hk
      subst hk
      simp only [lay, Nat.add_zero, upd_at]
      cases hd : o'.dst with
      | none =>
        simp only
        exact lay_congr os _ _ (fun j hj => (upd_ne f v (by omega)).symm)
      | some d =>
        rw [hd] at h1
        simp only at h1 ⊢
        rw [lay_set f d v os _ _ h1]
        rw [show (t.setIfInBounds d (f i)).setIfInBounds d v = t.setIfInBounds d v by
          rcases t with ⟨l⟩
          simp]
        exact lay_congr os _ _ (fun j hj => (upd_ne f v (by omega)).symm)
    | succ k =>
      simp only [List.getElem?_cons_succ] at hk
      simp only [lay]
      have := ih (i + 1) k (match o'.dst with | some d => t.setIfInBounds d (f i) | none => t) o h2 hk
      rw [this, show i + 1 + k = i + (k + 1) by omega, upd_ne f v (show i ≠ i + (k + 1) by omega)]
theorem lay_own (f : Nat → Value) : ∀ (L : List Oper) (i : Nat) (t : Array Value), (∀ k o d, L[k]? = some o → o.dst = some d → f (i + k) = t.getD d undef) → lay f t i L = t := by
  intro L
  induction L with
  | nil => intro i t _; rfl
  | cons o os ih =>
    intro i t h
    have h0 : (match o.dst with | some d => t.setIfInBounds d (f i) | none => t) = t := by
      cases hd : o.dst with
      | none => rfl
      | some d =>
        have := h 0 o d rfl hd
        simp only [Nat.add_zero] at this
        simp only
        rw [this]
        apply Array.ext
        · simp
        · intro j h3 h4
          rw [Array.getElem_setIfInBounds]
          split
          · rename_i e
            subst e
            simp [Array.getD, h4]
          · rfl
    simp only [lay]
    rw [h0]
    exact ih (i + 1) t (fun k o' d hk hd => by rw [show i + 1 + k = i + (k + 1) by omega]; exact h (k + 1) o' d (by simpa using hk) hd)

/-- The act with the operations' slots out of f. -/
def laid (a : Act) (L : List Oper) (f : Nat → Value) : Act := { a with tmps := lay f a.tmps 0 L }
theorem laid_put (a : Act) (L : List Oper) (f : Nat → Value) (v : Value) (i : Nat) (o : Oper) (ht : tidy 0 L = true) (hi : L[i]? = some o) : (laid a L f).put o.dst v = laid a L (upd f i v) := by
  have := lay_put f v L 0 i a.tmps o ht hi
  rw [Nat.zero_add] at this
  unfold laid Act.put
  cases hd : o.dst with
  | none => rw [hd] at this; simp only at this ⊢; rw [this]
  | some d => rw [hd] at this; simp only at this ⊢; rw [this]

theorem tidy_spec : ∀ (L : List Oper) (i k : Nat) (o : Oper), tidy i L = true → L[k]? = some o → ∀ e ∈ o.after, Region.binds .any e = true → e.on < i + k := by
  intro L
  induction L with
  | nil => intro i k o _ h; simp at h
  | cons o' os ih =>
    intro i k o ht hk e he hb
    simp only [tidy, Bool.and_eq_true] at ht
    obtain ⟨⟨h1, _⟩, h2⟩ := ht
    cases k with
    | zero =>
      simp only [List.getElem?_cons_zero, Option.some.injEq] at hk
      subst hk
      have := Array.all_eq_true_iff_forall_mem.1 h1 e he
      simpa [hb] using this
    | succ k =>
      have := ih (i + 1) k o h2 (by simpa using hk) e he hb
      omega
theorem all_listed {L : List Oper} {l : Array Bool} (ht : tidy 0 L = true) (hr : Region.ready .any L.toArray l = []) : ∀ j, j < L.length → l.getD j true = true := by
  intro j
  induction j using Nat.strongRecOn with
  | _ j ih =>
    intro hj
    cases hl : l.getD j true with
    | true => rfl
    | false =>
      exfalso
      have hm : j ∈ Region.ready .any L.toArray l := by
        rw [mem_ready]
        refine ⟨hl, L[j], by simp [hj], fun e he hb => ?_⟩
        have h1 := tidy_spec L 0 j L[j] ht (by simp [hj]) e he hb
        have h2 := ih e.on (by omega) (by omega)
        have h3 : e.on < l.size := by
          have hjs : j < l.size := by
            apply Decidable.byContradiction; intro hh
            rw [Array.getD, dif_neg hh] at hl; cases hl
          omega
        simpa [Array.getD, h3] using h2
      rw [hr] at hm
      cases hm

/-- Operation o waits for number j. -/
def waits (o : Oper) (j : Nat) : Bool := o.after.toList.any fun e => Region.binds .any e && e.on == j
/-- Every operation but the last is waited for. -/
def fed : Nat → List Oper → Bool
  | _, [] => true
  | _, [_] => true
  | i, _ :: os => os.any (fun q => waits q i) && fed (i + 1) os
theorem fed_spec : ∀ (L : List Oper) (i k : Nat), fed i L = true → k + 1 < L.length → ∃ m q, k < m ∧ L[m]? = some q ∧ waits q (i + k) = true := by
  intro L
  induction L with
  | nil => intro i k _ h; simp at h
  | cons o os ih =>
    intro i k hf hk
    cases os with
    | nil => simp at hk
    | cons o2 os =>
      simp only [fed, Bool.and_eq_true] at hf
      obtain ⟨h1, h2⟩ := hf
      cases k with
      | zero =>
        obtain ⟨q, hq, hw⟩ := List.any_eq_true.1 h1
        obtain ⟨n, hn, he⟩ := List.mem_iff_getElem.1 hq
        exact ⟨n + 1, q, by omega, by simp [← he, hn], by simpa using hw⟩
      | succ k =>
        obtain ⟨m, q, hm, hq, hw⟩ := ih (i + 1) k h2 (by simpa using hk)
        exact ⟨m + 1, q, by omega, by simpa using hq, by rw [show i + (k + 1) = i + 1 + k by omega]; exact hw⟩
/-- What is to be shown of one operation: it leaves a p-value, and the world as S says. -/
def StepS (P : Program) (Q : Exit → Act → World → Prop) (ops : Array Oper) (mk : (Nat → Value) → Act) (S : World → Prop) (R : World → World → Prop) (Ts : List (Value → World → Prop)) (p : Value → World → Prop) (o : Oper) : Prop :=
  ∀ (f : Nat → Value) (w : World), S w → (∀ (j : Nat) (p' : Value → World → Prop), waits o j = true → Ts[j]? = some p' → p' (f j) w) →
    ∀ K : Act → World → Prop, Shut (∀ v w', p v w' → S w' → R w w' → K ((mk f).put o.dst v) w') →
      if Region.wanted o (yielded ops (mk f).tmps) = true then Oper.wp P o (mk f) w K Q else K ((mk f).put o.dst undef) w
/-- What p says stays. -/
def StableS (R : World → World → Prop) (p : Value → World → Prop) : Prop := ∀ w w' v, R w w' → p v w → p v w'
theorem stable_pure {R : World → World → Prop} (p : Value → Prop) : StableS R (fun v _ => p v) := fun _ _ _ _ h => h
def AllStable (R : World → World → Prop) (Ts : List (Value → World → Prop)) : Prop := ∀ p ∈ Ts, StableS R p
theorem AllStable.nil {R : World → World → Prop} : AllStable R [] := fun _ h => by cases h
theorem AllStable.cons {R : World → World → Prop} {p : Value → World → Prop} {Ts : List (Value → World → Prop)} (h : StableS R p) (hs : AllStable R Ts) : AllStable R (p :: Ts) := fun q hq => by
  rcases List.mem_cons.1 hq with rfl | hq
  · exact h
  · exact hs q hq

theorem count_less : ∀ (l : List Bool) (i : Nat), l[i]? = some false → (l.set i true).count false + 1 = l.count false := by
  intro l
  induction l with
  | nil => intro i h; simp at h
  | cons x xs ih =>
    intro i h
    cases i with
    | zero =>
      simp only [List.getElem?_cons_zero, Option.some.injEq] at h
      subst h
      simp
    | succ i =>
      have := ih i (by simpa using h)
      simp only [List.set_cons_succ, List.count_cons]
      omega
theorem all_ready {L : List Oper} {l : Array Bool} (h : ∀ j, l.getD j true = true) : Region.ready .any L.toArray l = [] := by
  cases hr : Region.ready .any L.toArray l with
  | nil => rfl
  | cons x xs =>
    exfalso
    have hm : x ∈ Region.ready .any L.toArray l := by rw [hr]; exact List.mem_cons_self ..
    have h1 := (mem_ready.1 hm).1
    rw [h x] at h1
    cases h1
theorem wpAny_done {L : List Oper} {l : Array Bool} (h : ∀ j, l.getD j true = true) {a : Act} {w : World} (hq : Q .normal a w) : ∀ fuel, wpAny P .any L.toArray Q fuel l a w
  | 0 => ⟨all_ready h, hq⟩
  | _ + 1 => ⟨fun _ => hq, by rw [all_ready h]; simp⟩

theorem wpAny_slots {L : List Oper} {last : Oper} {a : Act} {S : World → Prop} {R : World → World → Prop} {Ts : List (Value → World → Prop)} (ht : tidy 0 (L ++ [last]) = true) (hf : fed 0 (L ++ [last]) = true)
    (hR : AllStable R Ts)
    (step : ∀ (i : Nat) (o : Oper) (p : Value → World → Prop), L[i]? = some o → Ts[i]? = some p → StepS P Q (L ++ [last]).toArray (laid a (L ++ [last])) S R Ts p o) (hlen : Ts.length = L.length)
    (fin : ∀ f w, S w → (∀ (i : Nat) (p : Value → World → Prop), Ts[i]? = some p → p (f i) w) → ∀ K : Act → World → Prop, Shut (∀ a' w', Q .normal a' w' → K a' w') →
      if Region.wanted last (yielded (L ++ [last]).toArray (laid a (L ++ [last]) f).tmps) = true then Oper.wp P last (laid a (L ++ [last]) f) w K Q else K ((laid a (L ++ [last]) f).put last.dst undef) w) :
    ∀ (fuel : Nat) (l : Array Bool) (f : Nat → Value) (w : World), l.size = L.length + 1 → l.toList.count false ≤ fuel → S w → l.getD L.length true = false →
      (∀ (i : Nat) (o : Oper) (j : Nat), L[i]? = some o → l.getD i false = true → waits o j = true → l.getD j false = true) →
      (∀ (j : Nat) (p : Value → World → Prop), l.getD j false = true → Ts[j]? = some p → p (f j) w) →
      wpAny P .any (L ++ [last]).toArray Q fuel l (laid a (L ++ [last]) f) w := by
  intro fuel
  have getD_lt : ∀ (l : Array Bool) i, l.getD i true = false → ∃ h : i < l.size, l[i] = false := by
    intro l i h
    by_cases hx : i < l.size
    · exact ⟨hx, by simpa [Array.getD, hx] using h⟩
    · rw [Array.getD, dif_neg hx] at h; cases h
  induction fuel with
  | zero =>
    intro l f w hsz hc hS hun _ _
    obtain ⟨h1, h2⟩ := getD_lt l _ hun
    have h3 : false ∈ l.toList := by rw [← h2]; simp
    have := List.count_pos_iff.2 h3
    omega
  | succ fuel ih =>
    intro l f w hsz hc hS hun hcl hT
    refine ⟨fun hr => ?_, fun i hi => ?_⟩
    · have := all_listed ht hr L.length (by simp)
      rw [hun] at this; cases this
    · obtain ⟨h1, o, ho, hdeps⟩ := mem_ready.1 hi
      obtain ⟨hx, h2⟩ := getD_lt l _ h1
      have hLi : (L ++ [last])[i]? = some o := by simpa using ho
      have hw : ∀ j, waits o j = true → l.getD j false = true := fun j hj => by
        obtain ⟨e, he, hb⟩ := List.any_eq_true.1 hj
        have he : e ∈ o.after := Array.mem_toList_iff.1 he
        simp only [Bool.and_eq_true, beq_iff_eq] at hb
        rw [← hb.2]
        exact hdeps e he hb.1
      by_cases hlast : i = L.length
      · subst hlast
        obtain rfl : last = o := by simpa using hLi
        have hall : ∀ d j, j + d = L.length → 0 < d → l.getD j false = true := by
          intro d
          induction d using Nat.strongRecOn with
          | _ d ihd =>
            intro j hj hd
            obtain ⟨m, q, hm, hq, hwq⟩ := fed_spec (L ++ [last]) 0 j hf (by simp; omega)
            rw [Nat.zero_add] at hwq
            have hml : m < L.length + 1 := by
              obtain ⟨hmm, _⟩ := List.getElem?_eq_some_iff.1 hq
              simpa using hmm
            by_cases hme : m = L.length
            · subst hme
              obtain rfl : last = q := by simpa using hq
              exact hw j hwq
            · have hq' : L[m]? = some q := by rwa [List.getElem?_append_left (by omega)] at hq
              exact hcl m q j hq' (ihd (L.length - m) (by omega) m (by omega) (by omega)) hwq
        refine wpOp_step ho (fun K' hK => fin f w hS (fun j p hp => ?_) K' ?_)
        · have hj : j < L.length := by
            obtain ⟨hmm, _⟩ := List.getElem?_eq_some_iff.1 hp
            omega
          exact hT j p (hall (L.length - j) j (by omega) (by omega)) hp
        · intro a' w' hq
          refine hK _ _ (wpAny_done (fun j => ?_) hq fuel)
          by_cases hj : j = L.length
          · subst hj
            simp [Array.getD, hx]
          · rw [getD_set_ne true (Ne.symm hj)]
            by_cases hjs : j < L.length
            · have := hall (L.length - j) j (by omega) (by omega)
              have h6 : j < l.size := by omega
              simpa [Array.getD, h6] using this
            · have h6 : ¬ j < l.size := by omega
              simp [Array.getD, h6]
      · have hil : i < L.length := by omega
        have hLi' : L[i]? = some o := by rwa [List.getElem?_append_left hil] at hLi
        obtain ⟨p, hp⟩ : ∃ p, Ts[i]? = some p := ⟨Ts[i]'(by omega), by simp⟩
        refine wpOp_step ho (fun K' hK => step i o p hLi' hp f w hS (fun j p' hj hp' => hT j p' (hw j hj) hp') K' ?_)
        intro v w' hv hS' hRw
        rw [laid_put a _ f v i o ht hLi]
        refine hK _ _ (ih _ _ _ (by simpa using hsz) ?_ hS' ?_ ?_ ?_)
        · have : (l.setIfInBounds i true).toList.count false + 1 = l.toList.count false := by
            simp only [Array.toList_setIfInBounds]
            exact count_less l.toList i (by simp [hx, h2])
          omega
        · rw [getD_set_ne true hlast]; exact hun
        · intro i' o' j ho' hl' hw'
          by_cases hji : j = i
          · subst hji; simp [Array.getD, hx]
          rw [getD_set_ne false (Ne.symm hji)]
          by_cases hii : i' = i
          · subst hii
            rw [hLi'] at ho'
            injection ho' with ho'
            subst ho'
            exact hw j hw'
          · rw [getD_set_ne false (Ne.symm hii)] at hl'
            exact hcl i' o' j ho' hl' hw'
        · intro j p' hj hp'
          by_cases hji : j = i
          · subst hji
            rw [hp] at hp'
            injection hp' with hp'
            subst hp'
            rw [upd_at]; exact hv
          · rw [upd_ne f v hji]
            refine hR p' (List.mem_of_getElem? hp') w w' _ hRw (hT j p' ?_ hp')
            rw [getD_set_ne false (Ne.symm hji)] at hj
            exact hj

/-- Each of a list's operations leaves its own shape. -/
def AllSteps (P : Program) (Q : Exit → Act → World → Prop) (ops : Array Oper) (mk : (Nat → Value) → Act) (S : World → Prop) (R : World → World → Prop) (Ts ps : List (Value → World → Prop)) (L : List Oper) : Prop := ps.length = L.length ∧ ∀ (i : Nat) (o : Oper) (p : Value → World → Prop), L[i]? = some o → ps[i]? = some p → StepS P Q ops mk S R Ts p o
theorem AllSteps.nil {ops : Array Oper} {mk : (Nat → Value) → Act} {S : World → Prop} {R : World → World → Prop} {Ts : List (Value → World → Prop)} : AllSteps P Q ops mk S R Ts [] [] := ⟨rfl, fun k o p h => by simp at h⟩
theorem AllSteps.cons {ops : Array Oper} {mk : (Nat → Value) → Act} {S : World → Prop} {R : World → World → Prop} {Ts ps : List (Value → World → Prop)} {p : Value → World → Prop} {o : Oper} {os : List Oper} (h : StepS P Q ops mk S R Ts p o) (hs : AllSteps P Q ops mk S R Ts ps os) : AllSteps P Q ops mk S R Ts (p :: ps) (o :: os) :=
  ⟨by simp [hs.1], fun k o' p' hk hp => by
    cases k with
    | zero =>
      simp only [List.getElem?_cons_zero, Option.some.injEq] at hk hp
      subst hk hp
      exact h
    | succ k => exact hs.2 k o' p' (by simpa using hk) (by simpa using hp)⟩

/-- The same, up to the last operation. -/
def AllTo (P : Program) (Q : Exit → Act → World → Prop) (ops : Array Oper) (mk : (Nat → Value) → Act) (S : World → Prop) (R : World → World → Prop) (Ts ps : List (Value → World → Prop)) (last : Oper) (Ls : List Oper) : Prop := ∃ L, Ls = L ++ [last] ∧ AllSteps P Q ops mk S R Ts ps L
theorem AllTo.nil {ops : Array Oper} {mk : (Nat → Value) → Act} {S : World → Prop} {R : World → World → Prop} {Ts : List (Value → World → Prop)} {last : Oper} : AllTo P Q ops mk S R Ts [] last [last] := ⟨[], rfl, AllSteps.nil⟩
theorem AllTo.cons {ops : Array Oper} {mk : (Nat → Value) → Act} {S : World → Prop} {R : World → World → Prop} {Ts ps : List (Value → World → Prop)} {p : Value → World → Prop} {last o : Oper} {os : List Oper} (h : StepS P Q ops mk S R Ts p o) (hs : AllTo P Q ops mk S R Ts ps last os) : AllTo P Q ops mk S R Ts (p :: ps) last (o :: os) := by
  obtain ⟨L, rfl, hL⟩ := hs
  exact ⟨o :: L, rfl, AllSteps.cons h hL⟩

/-- **A region that draws its order and ends in one operation that waits for all the others**: each operation is shown once. -/
theorem wp_region_slots {id : Nat} {L0 : List Oper} {a : Act} {w : World} (S : World → Prop) (R : World → World → Prop) (Ts : List (Value → World → Prop)) (hm : P.follows .mixedOrders = true)
    (ht : tidy 0 L0 = true) (hf : fed 0 L0 = true)
    (hS : S w.drew) (hR : AllStable R Ts) (m : (Nat → Value) → Array Value) (last : Oper)
    (hmk : ∀ f, lay f a.tmps 0 L0 = m f)
    (step : AllTo P Q L0.toArray (fun f => ⟨m f, a.defers⟩) S R Ts Ts last L0)
    (fin : ∀ f w, S w → (∀ (i : Nat) (p : Value → World → Prop), Ts[i]? = some p → p (f i) w) → ∀ K : Act → World → Prop, Shut (∀ a' w', Q .normal a' w' → K a' w') →
      if Region.wanted last (yielded L0.toArray (m f)) = true then Oper.wp P last ⟨m f, a.defers⟩ w K Q else K ((⟨m f, a.defers⟩ : Act).put last.dst undef) w) : (Code.region id L0.toArray true).wp P Q a w := by
  obtain ⟨L, rfl, step⟩ := step
  have hmk' : ∀ f, laid a (L ++ [last]) f = ⟨m f, a.defers⟩ := fun f => by unfold laid; rw [hmk]
  have he : (fun f => (⟨m f, a.defers⟩ : Act)) = laid a (L ++ [last]) := funext fun f => (hmk' f).symm
  rw [he] at step
  refine wp_region_any hm ?_
  have h0 : a = laid a (L ++ [last]) (fun i => match (L ++ [last])[i]? with | some o => (match o.dst with | some d => a.tmps.getD d undef | none => undef) | none => undef) := by
    unfold laid
    rw [lay_own _ (L ++ [last]) 0 a.tmps (fun k o d hk hd => by simp only [Nat.zero_add]; rw [hk]; simp only [hd])]
  have hno : ∀ j, (Array.replicate (L ++ [last]).toArray.size false).getD j false = false := by
    intro j
    by_cases h : j < (L ++ [last]).toArray.size <;> simp [Array.getD, h]
  have := wpAny_slots (P := P) (Q := Q) (a := a) ht hf hR step.2 step.1 (fun f w hs hT K hK => by rw [hmk']; exact fin f w hs hT K hK) (L ++ [last]).toArray.size (Array.replicate (L ++ [last]).toArray.size false)
    (fun i => match (L ++ [last])[i]? with | some o => (match o.dst with | some d => a.tmps.getD d undef | none => undef) | none => undef) w.drew (by simp) (by simp) hS (by simp [Array.getD])
    (fun i o j _ h => by rw [hno] at h; cases h) (fun j p h => by rw [hno] at h; cases h)
  rw [← h0] at this
  exact this
end
end Go.Proofs.YtaaioengebaebaaGreatDoor

namespace Go.Proofs.YtaaioengebaebaaGreatDoor
open Go.ChangeShapes Go.WideShapes Go.ChangeAt Go.RowKit

def isV (u : Value) : Value → World → Prop := fun v _ => v = u
def isInt (lo hi : Int) : Value → World → Prop := fun v _ => ∃ x : Int, v = .int .i64 x ∧ lo ≤ x ∧ x ≤ hi
def isStr (n : Nat) : Value → World → Prop := fun v _ => ∃ s : ByteArray, v = .string s ∧ s.size ≤ n
def isRow (t : TypeId) (N : Nat) (cs : List Value) : Value → World → Prop := fun v w => ∃ b, v = .slice (some ⟨b, 0, none⟩) cs.length cs.length ∧ N ≤ b ∧ Blk w b t cs.toArray
def isAt (t : TypeId) (N : Nat) (cs : List Value) : Value → World → Prop := fun v w => ∃ b k, v = .pointer (some ⟨b, k, none⟩) ∧ k < cs.length ∧ N ≤ b ∧ Blk w b t cs.toArray
def isBox (t : TypeId) (N : Nat) (cs : List Value) : Value → World → Prop := fun v w => ∃ b, v = .pointer (some ⟨b, 0, none⟩) ∧ N ≤ b ∧ Blk w b t cs.toArray
theorem stable_V (g : Nat) (u : Value) : StableS (fun w w' => Only w w' g) (isV u) := fun _ _ _ _ h => h
theorem stable_Int (g : Nat) (lo hi : Int) : StableS (fun w w' => Only w w' g) (isInt lo hi) := fun _ _ _ _ h => h
theorem stable_Str (g : Nat) (n : Nat) : StableS (fun w w' => Only w w' g) (isStr n) := fun _ _ _ _ h => h
theorem stable_Row (g : Nat) {N : Nat} (h : g < N) (t : TypeId) (cs : List Value) : StableS (fun w w' => Only w w' g) (isRow t N cs) := fun _ _ _ ho ⟨b, e, hb, hk⟩ => ⟨b, e, hb, hk.grown ho (by intro e; injection e with e; omega)⟩
theorem stable_At (g : Nat) {N : Nat} (h : g < N) (t : TypeId) (cs : List Value) : StableS (fun w w' => Only w w' g) (isAt t N cs) := fun _ _ _ ho ⟨b, k, e, hk, hb, hB⟩ => ⟨b, k, e, hk, hb, hB.grown ho (by intro e; injection e with e; omega)⟩
theorem stable_Box (g : Nat) {N : Nat} (h : g < N) (t : TypeId) (cs : List Value) : StableS (fun w w' => Only w w' g) (isBox t N cs) := fun _ _ _ ho ⟨b, e, hb, hk⟩ => ⟨b, e, hb, hk.grown ho (by intro e; injection e with e; omega)⟩
theorem strs_at {cs : List Value} {n : Nat} (h : cs.all (fun v => match v with | .string s => decide (s.size ≤ n) | _ => false) = true) {w : World} {b : Nat} {t : TypeId} (hb : Blk w b t cs.toArray) {k : Nat} (hk : k < cs.length) : ∃ s : ByteArray, w.cell? ⟨b, k, none⟩ = some (.string s) ∧ s.size ≤ n := by
  have h1 := List.all_eq_true.1 h cs[k] (List.getElem_mem hk)
  have h2 : w.cell? ⟨b, k, none⟩ = some cs[k] := by rw [hb.cell]; simp [hk]
  revert h1 h2
  generalize cs[k] = v
  intro h1 h2
  cases v <;> first | cases h1 | exact ⟨_, h2, of_decide_eq_true h1⟩
/-- What a step of a draw keeps. -/
def SrcOnly (w0 : World) (B g : Nat) (w : World) : Prop := Src w B g ∧ Only w0 w g
theorem SrcOnly.drew {w0 w : World} {B g : Nat} (h : SrcOnly w0 B g w) : SrcOnly w0 B g w.drew := ⟨h.1.below (Below.refl w.heap.size w).drew, only_drewN h.2 1⟩
theorem SrcOnly.go {w0 w w' : World} {B g : Nat} (h : SrcOnly w0 B g w) (hs : Src w' B g) (ho : Only w w' g) : SrcOnly w0 B g w' := ⟨hs, only_trans h.2 ho⟩
theorem SrcOnly.alloc {w0 w : World} {B g : Nat} (h : SrcOnly w0 B g w) (o : Obj) : SrcOnly w0 B g (w.alloc o) ∧ Only w (w.alloc o) g :=
  ⟨⟨h.1.alloc o, only_trans h.2 (only_of_below ((Below.refl w.heap.size w).alloc (Nat.le_refl _) o))⟩, only_of_below ((Below.refl w.heap.size w).alloc (Nat.le_refl _) o)⟩
end Go.Proofs.YtaaioengebaebaaGreatDoor

namespace Go.Proofs.YtaaioengebaebaaGreatDoor
open Go.ChangeShapes Go.WideShapes Go.ChangeAt Go.RowKit

theorem only_cell {a w : World} {g : Nat} (h : Only a w g) (r i : Nat) (hr : a.heap.size ≤ r) (u : Value) : Only a (w.setCell ⟨r, i, none⟩ u) g :=
  ⟨h.os, h.tape, h.output, by simpa [World.setCell] using h.size, fun j hj hne => (Below.heap_setCell w ⟨r, i, none⟩ u j (by rintro rfl; exact absurd hj (Nat.not_lt.2 hr))).trans (h.block j hj hne)⟩
theorem src_cell {w : World} {B g : Nat} (h : Src w B g) (r i : Nat) (hr : r ≠ g) (hB : B ≤ r) (u : Value) : Src (w.setCell ⟨r, i, none⟩ u) B g :=
  h.grown (only_set (only_refl w r) i u) (by intro e; injection e with e; exact hr e) (by intro k e; injection e with e; omega)
/-- What a store into block b keeps of a draw. -/
structure Kept (w0 W W' : World) (B g b : Nat) : Prop where
  size : W'.heap.size = W.heap.size
  src : Src W' B g
  only : Only w0 W' g
  blk : ∀ {r t cs}, r ≠ b → Blk W r t cs → Blk W' r t cs
  row : Only W W' b
theorem Kept.refl {w0 W : World} {B g b : Nat} (hs : Src W B g) (ho : Only w0 W g) : Kept w0 W W B g b := ⟨rfl, hs, ho, fun _ h => h, only_refl _ _⟩
theorem Kept.cell {w0 W W' : World} {B g b : Nat} (h : Kept w0 W W' B g b) (hb : w0.heap.size ≤ b) (hg : b ≠ g) (hB : B ≤ b) (i : Nat) (u : Value) : Kept w0 W (W'.setCell ⟨b, i, none⟩ u) B g b :=
  ⟨by simpa [World.setCell] using h.size, src_cell h.src b i hg hB u, only_cell h.only b i hb u, fun hr hk => (h.blk hr hk).far (p := ⟨b, i, none⟩) (by simpa using hr) u, only_set h.row i u⟩
theorem Kept.own {w0 W W' : World} {B g b : Nat} (h : Kept w0 W W' B g b) {base : Nat} {e : TypeId} {size n : Nat} {v : Value} {xs : List Value} (ho : W.ownsRow base e size v n xs) (hb : ∀ k, v.ownBlock = some k → k ≠ b) : W'.ownsRow base e size v n xs := by
  refine ho.kept h.row ?_
  cases hv : v.ownBlock with
  | none => exact .inl rfl
  | some k => exact .inr (by have := hb k hv; intro e; injection e with e; omega)
theorem stored_2 {w0 W : World} {B g b : Nat} {t : TypeId} {z0 z1 : Value} (h : Blk W b t #[z0, z1]) (hs : Src W B g) (ho : Only w0 W g) (hb : w0.heap.size ≤ b) (hg : b ≠ g) (hB : B ≤ b) (v0 v1 : Value) : ∀ W', W' = ((W.setCell ⟨b, 0, none⟩ v0).setCell ⟨b, 1, none⟩ v1) → Blk W' b t #[v0, v1] ∧ Kept w0 W W' B g b := by
  rintro _ rfl
  have h0 : Blk (W.setCell ⟨b, 0, none⟩ v0) b t #[v0, z1] := by simpa using (h).set_ 0 v0
  have h1 : Blk ((W.setCell ⟨b, 0, none⟩ v0).setCell ⟨b, 1, none⟩ v1) b t #[v0, v1] := by simpa using (h0).set_ 1 v1
  exact ⟨h1, (Kept.cell (Kept.cell (Kept.refl hs ho) hb hg hB 0 v0) hb hg hB 1 v1)⟩
theorem cell_2_0 {w0 W : World} {B g b : Nat} {t : TypeId} {z0 z1 : Value} (h : Blk W b t #[z0, z1]) (hs : Src W B g) (ho : Only w0 W g) (hb : w0.heap.size ≤ b) (hg : b ≠ g) (hB : B ≤ b) (u : Value) : ∀ W', W' = W.setCell ⟨b, 0, none⟩ u → Blk W' b t #[u, z1] ∧ Kept w0 W W' B g b := by
  rintro _ rfl
  exact ⟨by simpa using h.set_ 0 u, Kept.cell (Kept.refl hs ho) hb hg hB 0 u⟩
theorem cell_2_1 {w0 W : World} {B g b : Nat} {t : TypeId} {z0 z1 : Value} (h : Blk W b t #[z0, z1]) (hs : Src W B g) (ho : Only w0 W g) (hb : w0.heap.size ≤ b) (hg : b ≠ g) (hB : B ≤ b) (u : Value) : ∀ W', W' = W.setCell ⟨b, 1, none⟩ u → Blk W' b t #[z0, u] ∧ Kept w0 W W' B g b := by
  rintro _ rfl
  exact ⟨by simpa using h.set_ 1 u, Kept.cell (Kept.refl hs ho) hb hg hB 1 u⟩
theorem stored_3 {w0 W : World} {B g b : Nat} {t : TypeId} {z0 z1 z2 : Value} (h : Blk W b t #[z0, z1, z2]) (hs : Src W B g) (ho : Only w0 W g) (hb : w0.heap.size ≤ b) (hg : b ≠ g) (hB : B ≤ b) (v0 v1 v2 : Value) : ∀ W', W' = (((W.setCell ⟨b, 0, none⟩ v0).setCell ⟨b, 1, none⟩ v1).setCell ⟨b, 2, none⟩ v2) → Blk W' b t #[v0, v1, v2] ∧ Kept w0 W W' B g b := by
  rintro _ rfl
  have h0 : Blk (W.setCell ⟨b, 0, none⟩ v0) b t #[v0, z1, z2] := by simpa using (h).set_ 0 v0
  have h1 : Blk ((W.setCell ⟨b, 0, none⟩ v0).setCell ⟨b, 1, none⟩ v1) b t #[v0, v1, z2] := by simpa using (h0).set_ 1 v1
  have h2 : Blk (((W.setCell ⟨b, 0, none⟩ v0).setCell ⟨b, 1, none⟩ v1).setCell ⟨b, 2, none⟩ v2) b t #[v0, v1, v2] := by simpa using (h1).set_ 2 v2
  exact ⟨h2, (Kept.cell (Kept.cell (Kept.cell (Kept.refl hs ho) hb hg hB 0 v0) hb hg hB 1 v1) hb hg hB 2 v2)⟩
theorem cell_3_0 {w0 W : World} {B g b : Nat} {t : TypeId} {z0 z1 z2 : Value} (h : Blk W b t #[z0, z1, z2]) (hs : Src W B g) (ho : Only w0 W g) (hb : w0.heap.size ≤ b) (hg : b ≠ g) (hB : B ≤ b) (u : Value) : ∀ W', W' = W.setCell ⟨b, 0, none⟩ u → Blk W' b t #[u, z1, z2] ∧ Kept w0 W W' B g b := by
  rintro _ rfl
  exact ⟨by simpa using h.set_ 0 u, Kept.cell (Kept.refl hs ho) hb hg hB 0 u⟩
theorem cell_3_1 {w0 W : World} {B g b : Nat} {t : TypeId} {z0 z1 z2 : Value} (h : Blk W b t #[z0, z1, z2]) (hs : Src W B g) (ho : Only w0 W g) (hb : w0.heap.size ≤ b) (hg : b ≠ g) (hB : B ≤ b) (u : Value) : ∀ W', W' = W.setCell ⟨b, 1, none⟩ u → Blk W' b t #[z0, u, z2] ∧ Kept w0 W W' B g b := by
  rintro _ rfl
  exact ⟨by simpa using h.set_ 1 u, Kept.cell (Kept.refl hs ho) hb hg hB 1 u⟩
theorem cell_3_2 {w0 W : World} {B g b : Nat} {t : TypeId} {z0 z1 z2 : Value} (h : Blk W b t #[z0, z1, z2]) (hs : Src W B g) (ho : Only w0 W g) (hb : w0.heap.size ≤ b) (hg : b ≠ g) (hB : B ≤ b) (u : Value) : ∀ W', W' = W.setCell ⟨b, 2, none⟩ u → Blk W' b t #[z0, z1, u] ∧ Kept w0 W W' B g b := by
  rintro _ rfl
  exact ⟨by simpa using h.set_ 2 u, Kept.cell (Kept.refl hs ho) hb hg hB 2 u⟩
theorem stored_4 {w0 W : World} {B g b : Nat} {t : TypeId} {z0 z1 z2 z3 : Value} (h : Blk W b t #[z0, z1, z2, z3]) (hs : Src W B g) (ho : Only w0 W g) (hb : w0.heap.size ≤ b) (hg : b ≠ g) (hB : B ≤ b) (v0 v1 v2 v3 : Value) : ∀ W', W' = ((((W.setCell ⟨b, 0, none⟩ v0).setCell ⟨b, 1, none⟩ v1).setCell ⟨b, 2, none⟩ v2).setCell ⟨b, 3, none⟩ v3) → Blk W' b t #[v0, v1, v2, v3] ∧ Kept w0 W W' B g b := by
  rintro _ rfl
  have h0 : Blk (W.setCell ⟨b, 0, none⟩ v0) b t #[v0, z1, z2, z3] := by simpa using (h).set_ 0 v0
  have h1 : Blk ((W.setCell ⟨b, 0, none⟩ v0).setCell ⟨b, 1, none⟩ v1) b t #[v0, v1, z2, z3] := by simpa using (h0).set_ 1 v1
  have h2 : Blk (((W.setCell ⟨b, 0, none⟩ v0).setCell ⟨b, 1, none⟩ v1).setCell ⟨b, 2, none⟩ v2) b t #[v0, v1, v2, z3] := by simpa using (h1).set_ 2 v2
  have h3 : Blk ((((W.setCell ⟨b, 0, none⟩ v0).setCell ⟨b, 1, none⟩ v1).setCell ⟨b, 2, none⟩ v2).setCell ⟨b, 3, none⟩ v3) b t #[v0, v1, v2, v3] := by simpa using (h2).set_ 3 v3
  exact ⟨h3, (Kept.cell (Kept.cell (Kept.cell (Kept.cell (Kept.refl hs ho) hb hg hB 0 v0) hb hg hB 1 v1) hb hg hB 2 v2) hb hg hB 3 v3)⟩
theorem cell_4_0 {w0 W : World} {B g b : Nat} {t : TypeId} {z0 z1 z2 z3 : Value} (h : Blk W b t #[z0, z1, z2, z3]) (hs : Src W B g) (ho : Only w0 W g) (hb : w0.heap.size ≤ b) (hg : b ≠ g) (hB : B ≤ b) (u : Value) : ∀ W', W' = W.setCell ⟨b, 0, none⟩ u → Blk W' b t #[u, z1, z2, z3] ∧ Kept w0 W W' B g b := by
  rintro _ rfl
  exact ⟨by simpa using h.set_ 0 u, Kept.cell (Kept.refl hs ho) hb hg hB 0 u⟩
theorem cell_4_1 {w0 W : World} {B g b : Nat} {t : TypeId} {z0 z1 z2 z3 : Value} (h : Blk W b t #[z0, z1, z2, z3]) (hs : Src W B g) (ho : Only w0 W g) (hb : w0.heap.size ≤ b) (hg : b ≠ g) (hB : B ≤ b) (u : Value) : ∀ W', W' = W.setCell ⟨b, 1, none⟩ u → Blk W' b t #[z0, u, z2, z3] ∧ Kept w0 W W' B g b := by
  rintro _ rfl
  exact ⟨by simpa using h.set_ 1 u, Kept.cell (Kept.refl hs ho) hb hg hB 1 u⟩
theorem cell_4_2 {w0 W : World} {B g b : Nat} {t : TypeId} {z0 z1 z2 z3 : Value} (h : Blk W b t #[z0, z1, z2, z3]) (hs : Src W B g) (ho : Only w0 W g) (hb : w0.heap.size ≤ b) (hg : b ≠ g) (hB : B ≤ b) (u : Value) : ∀ W', W' = W.setCell ⟨b, 2, none⟩ u → Blk W' b t #[z0, z1, u, z3] ∧ Kept w0 W W' B g b := by
  rintro _ rfl
  exact ⟨by simpa using h.set_ 2 u, Kept.cell (Kept.refl hs ho) hb hg hB 2 u⟩
theorem cell_4_3 {w0 W : World} {B g b : Nat} {t : TypeId} {z0 z1 z2 z3 : Value} (h : Blk W b t #[z0, z1, z2, z3]) (hs : Src W B g) (ho : Only w0 W g) (hb : w0.heap.size ≤ b) (hg : b ≠ g) (hB : B ≤ b) (u : Value) : ∀ W', W' = W.setCell ⟨b, 3, none⟩ u → Blk W' b t #[z0, z1, z2, u] ∧ Kept w0 W W' B g b := by
  rintro _ rfl
  exact ⟨by simpa using h.set_ 3 u, Kept.cell (Kept.refl hs ho) hb hg hB 3 u⟩
theorem stored_5 {w0 W : World} {B g b : Nat} {t : TypeId} {z0 z1 z2 z3 z4 : Value} (h : Blk W b t #[z0, z1, z2, z3, z4]) (hs : Src W B g) (ho : Only w0 W g) (hb : w0.heap.size ≤ b) (hg : b ≠ g) (hB : B ≤ b) (v0 v1 v2 v3 v4 : Value) : ∀ W', W' = (((((W.setCell ⟨b, 0, none⟩ v0).setCell ⟨b, 1, none⟩ v1).setCell ⟨b, 2, none⟩ v2).setCell ⟨b, 3, none⟩ v3).setCell ⟨b, 4, none⟩ v4) → Blk W' b t #[v0, v1, v2, v3, v4] ∧ Kept w0 W W' B g b := by
  rintro _ rfl
  have h0 : Blk (W.setCell ⟨b, 0, none⟩ v0) b t #[v0, z1, z2, z3, z4] := by simpa using (h).set_ 0 v0
  have h1 : Blk ((W.setCell ⟨b, 0, none⟩ v0).setCell ⟨b, 1, none⟩ v1) b t #[v0, v1, z2, z3, z4] := by simpa using (h0).set_ 1 v1
  have h2 : Blk (((W.setCell ⟨b, 0, none⟩ v0).setCell ⟨b, 1, none⟩ v1).setCell ⟨b, 2, none⟩ v2) b t #[v0, v1, v2, z3, z4] := by simpa using (h1).set_ 2 v2
  have h3 : Blk ((((W.setCell ⟨b, 0, none⟩ v0).setCell ⟨b, 1, none⟩ v1).setCell ⟨b, 2, none⟩ v2).setCell ⟨b, 3, none⟩ v3) b t #[v0, v1, v2, v3, z4] := by simpa using (h2).set_ 3 v3
  have h4 : Blk (((((W.setCell ⟨b, 0, none⟩ v0).setCell ⟨b, 1, none⟩ v1).setCell ⟨b, 2, none⟩ v2).setCell ⟨b, 3, none⟩ v3).setCell ⟨b, 4, none⟩ v4) b t #[v0, v1, v2, v3, v4] := by simpa using (h3).set_ 4 v4
  exact ⟨h4, (Kept.cell (Kept.cell (Kept.cell (Kept.cell (Kept.cell (Kept.refl hs ho) hb hg hB 0 v0) hb hg hB 1 v1) hb hg hB 2 v2) hb hg hB 3 v3) hb hg hB 4 v4)⟩
theorem cell_5_0 {w0 W : World} {B g b : Nat} {t : TypeId} {z0 z1 z2 z3 z4 : Value} (h : Blk W b t #[z0, z1, z2, z3, z4]) (hs : Src W B g) (ho : Only w0 W g) (hb : w0.heap.size ≤ b) (hg : b ≠ g) (hB : B ≤ b) (u : Value) : ∀ W', W' = W.setCell ⟨b, 0, none⟩ u → Blk W' b t #[u, z1, z2, z3, z4] ∧ Kept w0 W W' B g b := by
  rintro _ rfl
  exact ⟨by simpa using h.set_ 0 u, Kept.cell (Kept.refl hs ho) hb hg hB 0 u⟩
theorem cell_5_1 {w0 W : World} {B g b : Nat} {t : TypeId} {z0 z1 z2 z3 z4 : Value} (h : Blk W b t #[z0, z1, z2, z3, z4]) (hs : Src W B g) (ho : Only w0 W g) (hb : w0.heap.size ≤ b) (hg : b ≠ g) (hB : B ≤ b) (u : Value) : ∀ W', W' = W.setCell ⟨b, 1, none⟩ u → Blk W' b t #[z0, u, z2, z3, z4] ∧ Kept w0 W W' B g b := by
  rintro _ rfl
  exact ⟨by simpa using h.set_ 1 u, Kept.cell (Kept.refl hs ho) hb hg hB 1 u⟩
theorem cell_5_2 {w0 W : World} {B g b : Nat} {t : TypeId} {z0 z1 z2 z3 z4 : Value} (h : Blk W b t #[z0, z1, z2, z3, z4]) (hs : Src W B g) (ho : Only w0 W g) (hb : w0.heap.size ≤ b) (hg : b ≠ g) (hB : B ≤ b) (u : Value) : ∀ W', W' = W.setCell ⟨b, 2, none⟩ u → Blk W' b t #[z0, z1, u, z3, z4] ∧ Kept w0 W W' B g b := by
  rintro _ rfl
  exact ⟨by simpa using h.set_ 2 u, Kept.cell (Kept.refl hs ho) hb hg hB 2 u⟩
theorem cell_5_3 {w0 W : World} {B g b : Nat} {t : TypeId} {z0 z1 z2 z3 z4 : Value} (h : Blk W b t #[z0, z1, z2, z3, z4]) (hs : Src W B g) (ho : Only w0 W g) (hb : w0.heap.size ≤ b) (hg : b ≠ g) (hB : B ≤ b) (u : Value) : ∀ W', W' = W.setCell ⟨b, 3, none⟩ u → Blk W' b t #[z0, z1, z2, u, z4] ∧ Kept w0 W W' B g b := by
  rintro _ rfl
  exact ⟨by simpa using h.set_ 3 u, Kept.cell (Kept.refl hs ho) hb hg hB 3 u⟩
theorem cell_5_4 {w0 W : World} {B g b : Nat} {t : TypeId} {z0 z1 z2 z3 z4 : Value} (h : Blk W b t #[z0, z1, z2, z3, z4]) (hs : Src W B g) (ho : Only w0 W g) (hb : w0.heap.size ≤ b) (hg : b ≠ g) (hB : B ≤ b) (u : Value) : ∀ W', W' = W.setCell ⟨b, 4, none⟩ u → Blk W' b t #[z0, z1, z2, z3, u] ∧ Kept w0 W W' B g b := by
  rintro _ rfl
  exact ⟨by simpa using h.set_ 4 u, Kept.cell (Kept.refl hs ho) hb hg hB 4 u⟩
theorem stored_6 {w0 W : World} {B g b : Nat} {t : TypeId} {z0 z1 z2 z3 z4 z5 : Value} (h : Blk W b t #[z0, z1, z2, z3, z4, z5]) (hs : Src W B g) (ho : Only w0 W g) (hb : w0.heap.size ≤ b) (hg : b ≠ g) (hB : B ≤ b) (v0 v1 v2 v3 v4 v5 : Value) : ∀ W', W' = ((((((W.setCell ⟨b, 0, none⟩ v0).setCell ⟨b, 1, none⟩ v1).setCell ⟨b, 2, none⟩ v2).setCell ⟨b, 3, none⟩ v3).setCell ⟨b, 4, none⟩ v4).setCell ⟨b, 5, none⟩ v5) → Blk W' b t #[v0, v1, v2, v3, v4, v5] ∧ Kept w0 W W' B g b := by
  rintro _ rfl
  have h0 : Blk (W.setCell ⟨b, 0, none⟩ v0) b t #[v0, z1, z2, z3, z4, z5] := by simpa using (h).set_ 0 v0
  have h1 : Blk ((W.setCell ⟨b, 0, none⟩ v0).setCell ⟨b, 1, none⟩ v1) b t #[v0, v1, z2, z3, z4, z5] := by simpa using (h0).set_ 1 v1
  have h2 : Blk (((W.setCell ⟨b, 0, none⟩ v0).setCell ⟨b, 1, none⟩ v1).setCell ⟨b, 2, none⟩ v2) b t #[v0, v1, v2, z3, z4, z5] := by simpa using (h1).set_ 2 v2
  have h3 : Blk ((((W.setCell ⟨b, 0, none⟩ v0).setCell ⟨b, 1, none⟩ v1).setCell ⟨b, 2, none⟩ v2).setCell ⟨b, 3, none⟩ v3) b t #[v0, v1, v2, v3, z4, z5] := by simpa using (h2).set_ 3 v3
  have h4 : Blk (((((W.setCell ⟨b, 0, none⟩ v0).setCell ⟨b, 1, none⟩ v1).setCell ⟨b, 2, none⟩ v2).setCell ⟨b, 3, none⟩ v3).setCell ⟨b, 4, none⟩ v4) b t #[v0, v1, v2, v3, v4, z5] := by simpa using (h3).set_ 4 v4
  have h5 : Blk ((((((W.setCell ⟨b, 0, none⟩ v0).setCell ⟨b, 1, none⟩ v1).setCell ⟨b, 2, none⟩ v2).setCell ⟨b, 3, none⟩ v3).setCell ⟨b, 4, none⟩ v4).setCell ⟨b, 5, none⟩ v5) b t #[v0, v1, v2, v3, v4, v5] := by simpa using (h4).set_ 5 v5
  exact ⟨h5, (Kept.cell (Kept.cell (Kept.cell (Kept.cell (Kept.cell (Kept.cell (Kept.refl hs ho) hb hg hB 0 v0) hb hg hB 1 v1) hb hg hB 2 v2) hb hg hB 3 v3) hb hg hB 4 v4) hb hg hB 5 v5)⟩
theorem cell_6_0 {w0 W : World} {B g b : Nat} {t : TypeId} {z0 z1 z2 z3 z4 z5 : Value} (h : Blk W b t #[z0, z1, z2, z3, z4, z5]) (hs : Src W B g) (ho : Only w0 W g) (hb : w0.heap.size ≤ b) (hg : b ≠ g) (hB : B ≤ b) (u : Value) : ∀ W', W' = W.setCell ⟨b, 0, none⟩ u → Blk W' b t #[u, z1, z2, z3, z4, z5] ∧ Kept w0 W W' B g b := by
  rintro _ rfl
  exact ⟨by simpa using h.set_ 0 u, Kept.cell (Kept.refl hs ho) hb hg hB 0 u⟩
theorem cell_6_1 {w0 W : World} {B g b : Nat} {t : TypeId} {z0 z1 z2 z3 z4 z5 : Value} (h : Blk W b t #[z0, z1, z2, z3, z4, z5]) (hs : Src W B g) (ho : Only w0 W g) (hb : w0.heap.size ≤ b) (hg : b ≠ g) (hB : B ≤ b) (u : Value) : ∀ W', W' = W.setCell ⟨b, 1, none⟩ u → Blk W' b t #[z0, u, z2, z3, z4, z5] ∧ Kept w0 W W' B g b := by
  rintro _ rfl
  exact ⟨by simpa using h.set_ 1 u, Kept.cell (Kept.refl hs ho) hb hg hB 1 u⟩
theorem cell_6_2 {w0 W : World} {B g b : Nat} {t : TypeId} {z0 z1 z2 z3 z4 z5 : Value} (h : Blk W b t #[z0, z1, z2, z3, z4, z5]) (hs : Src W B g) (ho : Only w0 W g) (hb : w0.heap.size ≤ b) (hg : b ≠ g) (hB : B ≤ b) (u : Value) : ∀ W', W' = W.setCell ⟨b, 2, none⟩ u → Blk W' b t #[z0, z1, u, z3, z4, z5] ∧ Kept w0 W W' B g b := by
  rintro _ rfl
  exact ⟨by simpa using h.set_ 2 u, Kept.cell (Kept.refl hs ho) hb hg hB 2 u⟩
theorem cell_6_3 {w0 W : World} {B g b : Nat} {t : TypeId} {z0 z1 z2 z3 z4 z5 : Value} (h : Blk W b t #[z0, z1, z2, z3, z4, z5]) (hs : Src W B g) (ho : Only w0 W g) (hb : w0.heap.size ≤ b) (hg : b ≠ g) (hB : B ≤ b) (u : Value) : ∀ W', W' = W.setCell ⟨b, 3, none⟩ u → Blk W' b t #[z0, z1, z2, u, z4, z5] ∧ Kept w0 W W' B g b := by
  rintro _ rfl
  exact ⟨by simpa using h.set_ 3 u, Kept.cell (Kept.refl hs ho) hb hg hB 3 u⟩
theorem cell_6_4 {w0 W : World} {B g b : Nat} {t : TypeId} {z0 z1 z2 z3 z4 z5 : Value} (h : Blk W b t #[z0, z1, z2, z3, z4, z5]) (hs : Src W B g) (ho : Only w0 W g) (hb : w0.heap.size ≤ b) (hg : b ≠ g) (hB : B ≤ b) (u : Value) : ∀ W', W' = W.setCell ⟨b, 4, none⟩ u → Blk W' b t #[z0, z1, z2, z3, u, z5] ∧ Kept w0 W W' B g b := by
  rintro _ rfl
  exact ⟨by simpa using h.set_ 4 u, Kept.cell (Kept.refl hs ho) hb hg hB 4 u⟩
theorem cell_6_5 {w0 W : World} {B g b : Nat} {t : TypeId} {z0 z1 z2 z3 z4 z5 : Value} (h : Blk W b t #[z0, z1, z2, z3, z4, z5]) (hs : Src W B g) (ho : Only w0 W g) (hb : w0.heap.size ≤ b) (hg : b ≠ g) (hB : B ≤ b) (u : Value) : ∀ W', W' = W.setCell ⟨b, 5, none⟩ u → Blk W' b t #[z0, z1, z2, z3, z4, u] ∧ Kept w0 W W' B g b := by
  rintro _ rfl
  exact ⟨by simpa using h.set_ 5 u, Kept.cell (Kept.refl hs ho) hb hg hB 5 u⟩
theorem stored_7 {w0 W : World} {B g b : Nat} {t : TypeId} {z0 z1 z2 z3 z4 z5 z6 : Value} (h : Blk W b t #[z0, z1, z2, z3, z4, z5, z6]) (hs : Src W B g) (ho : Only w0 W g) (hb : w0.heap.size ≤ b) (hg : b ≠ g) (hB : B ≤ b) (v0 v1 v2 v3 v4 v5 v6 : Value) : ∀ W', W' = (((((((W.setCell ⟨b, 0, none⟩ v0).setCell ⟨b, 1, none⟩ v1).setCell ⟨b, 2, none⟩ v2).setCell ⟨b, 3, none⟩ v3).setCell ⟨b, 4, none⟩ v4).setCell ⟨b, 5, none⟩ v5).setCell ⟨b, 6, none⟩ v6) → Blk W' b t #[v0, v1, v2, v3, v4, v5, v6] ∧ Kept w0 W W' B g b := by
  rintro _ rfl
  have h0 : Blk (W.setCell ⟨b, 0, none⟩ v0) b t #[v0, z1, z2, z3, z4, z5, z6] := by simpa using (h).set_ 0 v0
  have h1 : Blk ((W.setCell ⟨b, 0, none⟩ v0).setCell ⟨b, 1, none⟩ v1) b t #[v0, v1, z2, z3, z4, z5, z6] := by simpa using (h0).set_ 1 v1
  have h2 : Blk (((W.setCell ⟨b, 0, none⟩ v0).setCell ⟨b, 1, none⟩ v1).setCell ⟨b, 2, none⟩ v2) b t #[v0, v1, v2, z3, z4, z5, z6] := by simpa using (h1).set_ 2 v2
  have h3 : Blk ((((W.setCell ⟨b, 0, none⟩ v0).setCell ⟨b, 1, none⟩ v1).setCell ⟨b, 2, none⟩ v2).setCell ⟨b, 3, none⟩ v3) b t #[v0, v1, v2, v3, z4, z5, z6] := by simpa using (h2).set_ 3 v3
  have h4 : Blk (((((W.setCell ⟨b, 0, none⟩ v0).setCell ⟨b, 1, none⟩ v1).setCell ⟨b, 2, none⟩ v2).setCell ⟨b, 3, none⟩ v3).setCell ⟨b, 4, none⟩ v4) b t #[v0, v1, v2, v3, v4, z5, z6] := by simpa using (h3).set_ 4 v4
  have h5 : Blk ((((((W.setCell ⟨b, 0, none⟩ v0).setCell ⟨b, 1, none⟩ v1).setCell ⟨b, 2, none⟩ v2).setCell ⟨b, 3, none⟩ v3).setCell ⟨b, 4, none⟩ v4).setCell ⟨b, 5, none⟩ v5) b t #[v0, v1, v2, v3, v4, v5, z6] := by simpa using (h4).set_ 5 v5
  have h6 : Blk (((((((W.setCell ⟨b, 0, none⟩ v0).setCell ⟨b, 1, none⟩ v1).setCell ⟨b, 2, none⟩ v2).setCell ⟨b, 3, none⟩ v3).setCell ⟨b, 4, none⟩ v4).setCell ⟨b, 5, none⟩ v5).setCell ⟨b, 6, none⟩ v6) b t #[v0, v1, v2, v3, v4, v5, v6] := by simpa using (h5).set_ 6 v6
  exact ⟨h6, (Kept.cell (Kept.cell (Kept.cell (Kept.cell (Kept.cell (Kept.cell (Kept.cell (Kept.refl hs ho) hb hg hB 0 v0) hb hg hB 1 v1) hb hg hB 2 v2) hb hg hB 3 v3) hb hg hB 4 v4) hb hg hB 5 v5) hb hg hB 6 v6)⟩
theorem cell_7_0 {w0 W : World} {B g b : Nat} {t : TypeId} {z0 z1 z2 z3 z4 z5 z6 : Value} (h : Blk W b t #[z0, z1, z2, z3, z4, z5, z6]) (hs : Src W B g) (ho : Only w0 W g) (hb : w0.heap.size ≤ b) (hg : b ≠ g) (hB : B ≤ b) (u : Value) : ∀ W', W' = W.setCell ⟨b, 0, none⟩ u → Blk W' b t #[u, z1, z2, z3, z4, z5, z6] ∧ Kept w0 W W' B g b := by
  rintro _ rfl
  exact ⟨by simpa using h.set_ 0 u, Kept.cell (Kept.refl hs ho) hb hg hB 0 u⟩
theorem cell_7_1 {w0 W : World} {B g b : Nat} {t : TypeId} {z0 z1 z2 z3 z4 z5 z6 : Value} (h : Blk W b t #[z0, z1, z2, z3, z4, z5, z6]) (hs : Src W B g) (ho : Only w0 W g) (hb : w0.heap.size ≤ b) (hg : b ≠ g) (hB : B ≤ b) (u : Value) : ∀ W', W' = W.setCell ⟨b, 1, none⟩ u → Blk W' b t #[z0, u, z2, z3, z4, z5, z6] ∧ Kept w0 W W' B g b := by
  rintro _ rfl
  exact ⟨by simpa using h.set_ 1 u, Kept.cell (Kept.refl hs ho) hb hg hB 1 u⟩
theorem cell_7_2 {w0 W : World} {B g b : Nat} {t : TypeId} {z0 z1 z2 z3 z4 z5 z6 : Value} (h : Blk W b t #[z0, z1, z2, z3, z4, z5, z6]) (hs : Src W B g) (ho : Only w0 W g) (hb : w0.heap.size ≤ b) (hg : b ≠ g) (hB : B ≤ b) (u : Value) : ∀ W', W' = W.setCell ⟨b, 2, none⟩ u → Blk W' b t #[z0, z1, u, z3, z4, z5, z6] ∧ Kept w0 W W' B g b := by
  rintro _ rfl
  exact ⟨by simpa using h.set_ 2 u, Kept.cell (Kept.refl hs ho) hb hg hB 2 u⟩
theorem cell_7_3 {w0 W : World} {B g b : Nat} {t : TypeId} {z0 z1 z2 z3 z4 z5 z6 : Value} (h : Blk W b t #[z0, z1, z2, z3, z4, z5, z6]) (hs : Src W B g) (ho : Only w0 W g) (hb : w0.heap.size ≤ b) (hg : b ≠ g) (hB : B ≤ b) (u : Value) : ∀ W', W' = W.setCell ⟨b, 3, none⟩ u → Blk W' b t #[z0, z1, z2, u, z4, z5, z6] ∧ Kept w0 W W' B g b := by
  rintro _ rfl
  exact ⟨by simpa using h.set_ 3 u, Kept.cell (Kept.refl hs ho) hb hg hB 3 u⟩
theorem cell_7_4 {w0 W : World} {B g b : Nat} {t : TypeId} {z0 z1 z2 z3 z4 z5 z6 : Value} (h : Blk W b t #[z0, z1, z2, z3, z4, z5, z6]) (hs : Src W B g) (ho : Only w0 W g) (hb : w0.heap.size ≤ b) (hg : b ≠ g) (hB : B ≤ b) (u : Value) : ∀ W', W' = W.setCell ⟨b, 4, none⟩ u → Blk W' b t #[z0, z1, z2, z3, u, z5, z6] ∧ Kept w0 W W' B g b := by
  rintro _ rfl
  exact ⟨by simpa using h.set_ 4 u, Kept.cell (Kept.refl hs ho) hb hg hB 4 u⟩
theorem cell_7_5 {w0 W : World} {B g b : Nat} {t : TypeId} {z0 z1 z2 z3 z4 z5 z6 : Value} (h : Blk W b t #[z0, z1, z2, z3, z4, z5, z6]) (hs : Src W B g) (ho : Only w0 W g) (hb : w0.heap.size ≤ b) (hg : b ≠ g) (hB : B ≤ b) (u : Value) : ∀ W', W' = W.setCell ⟨b, 5, none⟩ u → Blk W' b t #[z0, z1, z2, z3, z4, u, z6] ∧ Kept w0 W W' B g b := by
  rintro _ rfl
  exact ⟨by simpa using h.set_ 5 u, Kept.cell (Kept.refl hs ho) hb hg hB 5 u⟩
theorem cell_7_6 {w0 W : World} {B g b : Nat} {t : TypeId} {z0 z1 z2 z3 z4 z5 z6 : Value} (h : Blk W b t #[z0, z1, z2, z3, z4, z5, z6]) (hs : Src W B g) (ho : Only w0 W g) (hb : w0.heap.size ≤ b) (hg : b ≠ g) (hB : B ≤ b) (u : Value) : ∀ W', W' = W.setCell ⟨b, 6, none⟩ u → Blk W' b t #[z0, z1, z2, z3, z4, z5, u] ∧ Kept w0 W W' B g b := by
  rintro _ rfl
  exact ⟨by simpa using h.set_ 6 u, Kept.cell (Kept.refl hs ho) hb hg hB 6 u⟩
theorem pairf_7_4 {W : World} {b : Nat} {t : TypeId} {z0 z1 z2 z3 z4 z5 z6 : Value} (h : Blk W b t #[z0, z1, z2, z3, z4, z5, z6]) : W.cell? ⟨b, 4, none⟩ = some z4 ∧ W.frozen? ⟨b, 4, none⟩ = false ∧ (∀ v, (W.setCell ⟨b, 4, none⟩ v).cell? ⟨b, 5, none⟩ = some z5) ∧ (∀ v, (W.setCell ⟨b, 4, none⟩ v).frozen? ⟨b, 5, none⟩ = false) := by
  have h1 : ∀ v, Blk (W.setCell ⟨b, 4, none⟩ v) b t #[z0, z1, z2, z3, v, z5, z6] := fun v => by simpa using h.set_ 4 v
  exact ⟨by rw [h.cell]; rfl, h.frozen _, fun v => by rw [(h1 v).cell]; rfl, fun v => (h1 v).frozen _⟩
theorem pair_7_4 {w0 W : World} {B g b : Nat} {t : TypeId} {z0 z1 z2 z3 z4 z5 z6 : Value} (h : Blk W b t #[z0, z1, z2, z3, z4, z5, z6]) (hs : Src W B g) (ho : Only w0 W g) (hb : w0.heap.size ≤ b) (hg : b ≠ g) (hB : B ≤ b) (v u : Value) : ∀ W', W' = (W.setCell ⟨b, 4, none⟩ v).setCell ⟨b, 5, none⟩ u → Blk W' b t #[z0, z1, z2, z3, v, u, z6] ∧ Kept w0 W W' B g b := by
  rintro _ rfl
  have h1 : Blk (W.setCell ⟨b, 4, none⟩ v) b t #[z0, z1, z2, z3, v, z5, z6] := by simpa using h.set_ 4 v
  exact ⟨by simpa using h1.set_ 5 u, Kept.cell (Kept.cell (Kept.refl hs ho) hb hg hB 4 v) hb hg hB 5 u⟩
theorem pairf_4_1 {W : World} {b : Nat} {t : TypeId} {z0 z1 z2 z3 : Value} (h : Blk W b t #[z0, z1, z2, z3]) : W.cell? ⟨b, 1, none⟩ = some z1 ∧ W.frozen? ⟨b, 1, none⟩ = false ∧ (∀ v, (W.setCell ⟨b, 1, none⟩ v).cell? ⟨b, 2, none⟩ = some z2) ∧ (∀ v, (W.setCell ⟨b, 1, none⟩ v).frozen? ⟨b, 2, none⟩ = false) := by
  have h1 : ∀ v, Blk (W.setCell ⟨b, 1, none⟩ v) b t #[z0, v, z2, z3] := fun v => by simpa using h.set_ 1 v
  exact ⟨by rw [h.cell]; rfl, h.frozen _, fun v => by rw [(h1 v).cell]; rfl, fun v => (h1 v).frozen _⟩
theorem pair_4_1 {w0 W : World} {B g b : Nat} {t : TypeId} {z0 z1 z2 z3 : Value} (h : Blk W b t #[z0, z1, z2, z3]) (hs : Src W B g) (ho : Only w0 W g) (hb : w0.heap.size ≤ b) (hg : b ≠ g) (hB : B ≤ b) (v u : Value) : ∀ W', W' = (W.setCell ⟨b, 1, none⟩ v).setCell ⟨b, 2, none⟩ u → Blk W' b t #[z0, v, u, z3] ∧ Kept w0 W W' B g b := by
  rintro _ rfl
  have h1 : Blk (W.setCell ⟨b, 1, none⟩ v) b t #[z0, v, z2, z3] := by simpa using h.set_ 1 v
  exact ⟨by simpa using h1.set_ 2 u, Kept.cell (Kept.cell (Kept.refl hs ho) hb hg hB 1 v) hb hg hB 2 u⟩
end Go.Proofs.YtaaioengebaebaaGreatDoor
namespace Go.Proofs.YtaaioengebaebaaGreatDoor
open Go.ChangeShapes Go.WideShapes Go.ChangeAt Go.RowKit

/-- The worlds that lie over W. -/
def OverW (W : World) : World → Prop := fun v => Below W.heap.size W v
/-- A world that keeps what lies in another one. -/
def KeepW : World → World → Prop := fun w w' => Below w.heap.size w w'
/-- A new row of known cells. -/
def isNewRow (W : World) (t : TypeId) (cs : Array Value) : Value → World → Prop := fun v w => ∃ b, v = .slice (some ⟨b, 0, none⟩) cs.size cs.size ∧ W.heap.size ≤ b ∧ Blk w b t cs
/-- A new box of known cells. -/
def isNewBox (W : World) (t : TypeId) (cs : Array Value) : Value → World → Prop := fun v w => ∃ b, v = .pointer (some ⟨b, 0, none⟩) ∧ W.heap.size ≤ b ∧ Blk w b t cs
theorem keep_V (u : Value) : StableS KeepW (isV u) := fun _ _ _ _ h => h
theorem keep_row (W : World) (t : TypeId) (cs : Array Value) : StableS KeepW (isNewRow W t cs) := fun _ _ _ h ⟨b, e, hb, hk⟩ => ⟨b, e, hb, hk.below h hk.lt⟩
theorem keep_box (W : World) (t : TypeId) (cs : Array Value) : StableS KeepW (isNewBox W t cs) := fun _ _ _ h ⟨b, e, hb, hk⟩ => ⟨b, e, hb, hk.below h hk.lt⟩
theorem OverW.drew {W v : World} (h : OverW W v) : OverW W v.drew := Below.drew h
theorem OverW.go {W v v' : World} (h : OverW W v) (b : KeepW v v') : OverW W v' := Below.trans h (Below.mono b h.size)
theorem OverW.new {W v : World} (h : OverW W v) (o : Obj) : OverW W (v.alloc o) := Below.alloc h h.size o
theorem keep_refl (w : World) : KeepW w w := Below.refl _ _
theorem keep_new (w : World) (o : Obj) : KeepW w (w.alloc o) := (Below.refl _ _).alloc (Nat.le_refl _) o
end Go.Proofs.YtaaioengebaebaaGreatDoor
namespace Go.Proofs.YtaaioengebaebaaGreatDoor
open Go

section
variable {P : Program} {Q : Exit → Act → World → Prop}
/-- Each operation waits for the one ahead. -/
def chained : Nat → List Oper → Bool
  | i, _ :: o2 :: os => waits o2 i && chained (i + 1) (o2 :: os)
  | _, _ => true
theorem chained_spec : ∀ (L : List Oper) (i k : Nat) (o : Oper), chained i L = true → L[k + 1]? = some o → waits o (i + k) = true := by
  intro L
  induction L with
  | nil => intro i k o _ h; simp at h
  | cons o1 os ih =>
    intro i k o hc hk
    cases os with
    | nil => simp at hk
    | cons o2 os =>
      rw [chained, Bool.and_eq_true] at hc
      cases k with
      | zero =>
        simp only [Nat.zero_add, List.getElem?_cons_succ, List.getElem?_cons_zero, Option.some.injEq] at hk
        subst hk
        exact hc.1
      | succ k =>
        have := ih (i + 1) k o hc.2 (by simpa using hk)
        rwa [show i + 1 + k = i + (k + 1) by omega] at this
theorem getD_either {l : Array Bool} {j : Nat} (h : j < l.size) (x y : Bool) : l.getD j x = l.getD j y := by simp [Array.getD, h]
theorem waits_dep {l : Array Bool} {o : Oper} {j : Nat} (hw : waits o j = true) (hd : ∀ e ∈ o.after, Region.binds .any e = true → l.getD e.on false = true) : l.getD j false = true := by
  obtain ⟨e, he, hb⟩ := List.any_eq_true.1 hw
  have he : e ∈ o.after := Array.mem_toList_iff.1 he
  simp only [Bool.and_eq_true, beq_iff_eq] at hb
  rw [← hb.2]
  exact hd e he hb.1
theorem wpAny_tail {full : List Oper} (ht : tidy 0 full = true) : ∀ (T : List Oper) (n : Nat), full.drop n = T → n ≤ full.length → (∀ k o, n ≤ k → full[k + 1]? = some o → waits o k = true) →
    ∀ (fuel : Nat) (l : Array Bool) (a : Act) (w : World), l.size = full.length → l.toList.count false ≤ fuel → (∀ j, j < n → l.getD j false = true) → (∀ j, n ≤ j → j < full.length → l.getD j true = false) →
      wpList P full.toArray Q T a w → wpAny P .any full.toArray Q fuel l a w := by
  intro T
  induction T with
  | nil =>
    intro n hd hn _ fuel l a w hsz _ hlo _ hw
    have hnl : full.length ≤ n := by simpa using hd
    refine wpAny_done (fun j => ?_) hw fuel
    by_cases hj : j < n
    · rw [getD_either (by omega) true false]; exact hlo j hj
    · have : ¬ j < l.size := by omega
      simp [Array.getD, this]
  | cons o T ih =>
    intro n hd hn hch fuel l a w hsz hc hlo hhi hw
    have hnl : n < full.length := by
      apply Decidable.byContradiction; intro h
      rw [List.drop_eq_nil_of_le (by omega)] at hd; cases hd
    have hno : full[n]? = some o := by
      have := congrArg (·[0]?) hd
      simpa using this
    have hun := hhi n (Nat.le_refl _) hnl
    have hx : n < l.size := by omega
    have hfn : l[n] = false := by simpa [Array.getD, hx] using hun
    cases fuel with
    | zero =>
      have h3 : false ∈ l.toList := by rw [← hfn]; simp
      have := List.count_pos_iff.2 h3
      omega
    | succ fuel =>
      refine ⟨fun hr => ?_, fun i hi => ?_⟩
      · have := all_listed ht hr n hnl
        rw [hun] at this; cases this
      · obtain ⟨h1, o', ho, hdeps⟩ := mem_ready.1 hi
        have ho' : full[i]? = some o' := by simpa using ho
        have hil : i < full.length := (List.getElem?_eq_some_iff.1 ho').1
        by_cases hin : i < n
        · have := hlo i hin
          rw [getD_either (by omega) false true, h1] at this; cases this
        by_cases he : i = n
        · subst he
          obtain rfl : o = o' := by rw [hno] at ho'; injection ho'
          refine wpOp_mono (fun a' w' hl => ?_) (show wpOp P full.toArray Q i (wpList P full.toArray Q T) a w by unfold wpOp; rw [ho]; exact hw)
          refine ih (i + 1) (by rw [← List.drop_drop, hd]; rfl) (by omega) (fun k o hk => hch k o (by omega)) fuel _ a' w' (by simpa using hsz) ?_ (fun j hj => ?_) (fun j hj hjl => ?_) hl
          · have : (l.setIfInBounds i true).toList.count false + 1 = l.toList.count false := by
              simp only [Array.toList_setIfInBounds]
              exact count_less l.toList i (by simp [hx, hfn])
            omega
          · by_cases e : j = i
            · subst e; simp [Array.getD, hx]
            · rw [getD_set_ne false (Ne.symm e)]; exact hlo j (by omega)
          · rw [getD_set_ne true (by omega)]; exact hhi j (by omega) hjl
        · exfalso
          have hw1 := hch (i - 1) o' (by omega) (by rw [show i - 1 + 1 = i by omega]; exact ho')
          have h2 := waits_dep hw1 hdeps
          have h3 := hhi (i - 1) (by omega) (by omega)
          rw [getD_either (by omega) false true, h3] at h2; cases h2

theorem wpAny_slotsT {L : List Oper} {last : Oper} {T : List Oper} {a : Act} {S : World → Prop} {R : World → World → Prop} {Ts : List (Value → World → Prop)} (ht : tidy 0 (L ++ last :: T) = true) (hf : fed 0 (L ++ [last]) = true) (hch : chained L.length (last :: T) = true)
    (hR : AllStable R Ts)
    (step : ∀ (i : Nat) (o : Oper) (p : Value → World → Prop), L[i]? = some o → Ts[i]? = some p → StepS P Q (L ++ last :: T).toArray (laid a (L ++ last :: T)) S R Ts p o) (hlen : Ts.length = L.length)
    (fin : ∀ f w, S w → (∀ (i : Nat) (p : Value → World → Prop), Ts[i]? = some p → p (f i) w) → wpList P (L ++ last :: T).toArray Q (last :: T) (laid a (L ++ last :: T) f) w) :
    ∀ (fuel : Nat) (l : Array Bool) (f : Nat → Value) (w : World), l.size = (L ++ last :: T).length → l.toList.count false ≤ fuel → S w → (∀ j, L.length ≤ j → j < (L ++ last :: T).length → l.getD j true = false) →
      (∀ (i : Nat) (o : Oper) (j : Nat), L[i]? = some o → l.getD i false = true → waits o j = true → l.getD j false = true) →
      (∀ (j : Nat) (p : Value → World → Prop), l.getD j false = true → Ts[j]? = some p → p (f j) w) →
      wpAny P .any (L ++ last :: T).toArray Q fuel l (laid a (L ++ last :: T) f) w := by
  intro fuel
  have hfl : (L ++ last :: T).length = L.length + 1 + T.length := by simp; omega
  have getD_lt : ∀ (l : Array Bool) i, l.getD i true = false → ∃ h : i < l.size, l[i] = false := by
    intro l i h
    by_cases hx : i < l.size
    · exact ⟨hx, by simpa [Array.getD, hx] using h⟩
    · rw [Array.getD, dif_neg hx] at h; cases h
  have chn : ∀ k o, L.length ≤ k → (L ++ last :: T)[k + 1]? = some o → waits o k = true := by
    intro k o hk ho
    rw [List.getElem?_append_right (by omega)] at ho
    obtain ⟨d, rfl⟩ : ∃ d, k = L.length + d := ⟨k - L.length, by omega⟩
    rw [show L.length + d + 1 - L.length = d + 1 by omega] at ho
    exact chained_spec _ _ d o hch ho
  induction fuel with
  | zero =>
    intro l f w hsz hc hS hun _ _
    obtain ⟨h1, h2⟩ := getD_lt l _ (hun L.length (Nat.le_refl _) (by omega))
    have h3 : false ∈ l.toList := by rw [← h2]; simp
    have := List.count_pos_iff.2 h3
    omega
  | succ fuel ih =>
    intro l f w hsz hc hS hun hcl hT
    have hunl := hun L.length (Nat.le_refl _) (by omega)
    refine ⟨fun hr => ?_, fun i hi => ?_⟩
    · have := all_listed ht hr L.length (by omega)
      rw [hunl] at this; cases this
    · obtain ⟨h1, o, ho, hdeps⟩ := mem_ready.1 hi
      obtain ⟨hx, h2⟩ := getD_lt l _ h1
      have hLi : (L ++ last :: T)[i]? = some o := by simpa using ho
      have hil2 : i < (L ++ last :: T).length := (List.getElem?_eq_some_iff.1 hLi).1
      have hw : ∀ j, waits o j = true → l.getD j false = true := fun j hj => waits_dep hj hdeps
      by_cases hlast : i = L.length
      · subst hlast
        obtain rfl : last = o := by simpa using hLi
        have hall : ∀ d j, j + d = L.length → 0 < d → l.getD j false = true := by
          intro d
          induction d using Nat.strongRecOn with
          | _ d ihd =>
            intro j hj hd
            obtain ⟨m, q, hm, hq, hwq⟩ := fed_spec (L ++ [last]) 0 j hf (by simp; omega)
            rw [Nat.zero_add] at hwq
            have hml : m < L.length + 1 := by
              obtain ⟨hmm, _⟩ := List.getElem?_eq_some_iff.1 hq
              simpa using hmm
            by_cases hme : m = L.length
            · subst hme
              obtain rfl : last = q := by simpa using hq
              exact hw j hwq
            · have hq' : L[m]? = some q := by rwa [List.getElem?_append_left (by omega)] at hq
              exact hcl m q j hq' (ihd (L.length - m) (by omega) m (by omega) (by omega)) hwq
        have hfin := fin f w hS (fun j p hp => by
          have hj : j < L.length := by
            obtain ⟨hmm, _⟩ := List.getElem?_eq_some_iff.1 hp
            omega
          exact hT j p (hall (L.length - j) j (by omega) (by omega)) hp)
        refine wpOp_mono (fun a' w' hl => ?_) (show wpOp P (L ++ last :: T).toArray Q L.length (wpList P (L ++ last :: T).toArray Q T) (laid a (L ++ last :: T) f) w by unfold wpOp; rw [ho]; exact hfin)
        refine wpAny_tail ht T (L.length + 1) (by simp) (by omega) (fun k o hk => chn k o (by omega)) fuel _ a' w' (by simpa using hsz) ?_ (fun j hj => ?_) (fun j hj hjl => ?_) hl
        · have : (l.setIfInBounds L.length true).toList.count false + 1 = l.toList.count false := by
            simp only [Array.toList_setIfInBounds]
            exact count_less l.toList L.length (by simp [hx, h2])
          omega
        · by_cases e : j = L.length
          · subst e; simp [Array.getD, hx]
          · rw [getD_set_ne false (Ne.symm e)]
            exact hall (L.length - j) j (by omega) (by omega)
        · rw [getD_set_ne true (by omega)]; exact hun j (by omega) hjl
      · by_cases hgt : L.length < i
        · exfalso
          have hw1 := chn (i - 1) o (by omega) (by rw [show i - 1 + 1 = i by omega]; exact hLi)
          have h3 := hw _ hw1
          have h4 := hun (i - 1) (by omega) (by omega)
          rw [getD_either (by omega) false true, h4] at h3; cases h3
        · have hil : i < L.length := by omega
          have hLi' : L[i]? = some o := by rwa [List.getElem?_append_left hil] at hLi
          obtain ⟨p, hp⟩ : ∃ p, Ts[i]? = some p := ⟨Ts[i]'(by omega), by simp⟩
          refine wpOp_step ho (fun K' hK => step i o p hLi' hp f w hS (fun j p' hj hp' => hT j p' (hw j hj) hp') K' ?_)
          intro v w' hv hS' hRw
          rw [laid_put a _ f v i o ht hLi]
          refine hK _ _ (ih _ _ _ (by simpa using hsz) ?_ hS' ?_ ?_ ?_)
          · have : (l.setIfInBounds i true).toList.count false + 1 = l.toList.count false := by
              simp only [Array.toList_setIfInBounds]
              exact count_less l.toList i (by simp [hx, h2])
            omega
          · intro j hj hjl
            rw [getD_set_ne true (by omega)]; exact hun j hj hjl
          · intro i' o' j ho' hl' hw'
            by_cases hji : j = i
            · subst hji; simp [Array.getD, hx]
            rw [getD_set_ne false (Ne.symm hji)]
            by_cases hii : i' = i
            · subst hii
              rw [hLi'] at ho'
              injection ho' with ho'
              subst ho'
              exact hw j hw'
            · rw [getD_set_ne false (Ne.symm hii)] at hl'
              exact hcl i' o' j ho' hl' hw'
          · intro j p' hj hp'
            by_cases hji : j = i
            · subst hji
              rw [hp] at hp'
              injection hp' with hp'
              subst hp'
              rw [upd_at]; exact hv
            · rw [upd_ne f v hji]
              refine hR p' (List.mem_of_getElem? hp') w w' _ hRw (hT j p' ?_ hp')
              rw [getD_set_ne false (Ne.symm hji)] at hj
              exact hj

/-- The same, up to a row of last operations. -/
def AllUpto (P : Program) (Q : Exit → Act → World → Prop) (ops : Array Oper) (mk : (Nat → Value) → Act) (S : World → Prop) (R : World → World → Prop) (Ts ps : List (Value → World → Prop)) (last : Oper) (T : List Oper) (Ls : List Oper) : Prop := ∃ L, Ls = L ++ last :: T ∧ AllSteps P Q ops mk S R Ts ps L ∧ fed 0 (L ++ [last]) = true ∧ chained L.length (last :: T) = true
theorem AllUpto.of {ops : Array Oper} {mk : (Nat → Value) → Act} {S : World → Prop} {R : World → World → Prop} {Ts ps : List (Value → World → Prop)} {last : Oper} {T Ls : List Oper} (n : Nat) (hs : AllSteps P Q ops mk S R Ts ps (Ls.take n)) (hd : Ls.drop n = last :: T) (hf : fed 0 (Ls.take (n + 1)) = true) (hc : chained n (Ls.drop n) = true) : AllUpto P Q ops mk S R Ts ps last T Ls := by
  have hn : n < Ls.length := by
    apply Decidable.byContradiction; intro h
    rw [List.drop_eq_nil_of_le (by omega)] at hd; cases hd
  have hl : (Ls.take n).length = n := by rw [List.length_take]; omega
  have h1 : Ls[n]? = some last := by
    have := congrArg (·[0]?) hd
    simpa using this
  have h2 : Ls.take (n + 1) = Ls.take n ++ [last] := by
    rw [List.take_add_one, h1]; rfl
  exact ⟨Ls.take n, by rw [← hd, List.take_append_drop], hs, by rw [← h2]; exact hf, by rw [hl, ← hd]; exact hc⟩

/-- **A region that draws its order and ends in a row of operations**: each operation ahead is shown once; the row is walked. -/
theorem wp_region_tail {id : Nat} {L0 : List Oper} {a : Act} {w : World} (S : World → Prop) (R : World → World → Prop) (Ts : List (Value → World → Prop)) (hm : P.follows .mixedOrders = true)
    (ht : tidy 0 L0 = true)
    (hS : S w.drew) (hR : AllStable R Ts) (m : (Nat → Value) → Array Value) (last : Oper) (T : List Oper)
    (hmk : ∀ f, lay f a.tmps 0 L0 = m f)
    (step : AllUpto P Q L0.toArray (fun f => ⟨m f, a.defers⟩) S R Ts Ts last T L0)
    (fin : ∀ f w, S w → (∀ (i : Nat) (p : Value → World → Prop), Ts[i]? = some p → p (f i) w) → wpList P L0.toArray Q (last :: T) ⟨m f, a.defers⟩ w) : (Code.region id L0.toArray true).wp P Q a w := by
  obtain ⟨L, rfl, step, hf, hch⟩ := step
  have hmk' : ∀ f, laid a (L ++ last :: T) f = ⟨m f, a.defers⟩ := fun f => by unfold laid; rw [hmk]
  have he : (fun f => (⟨m f, a.defers⟩ : Act)) = laid a (L ++ last :: T) := funext fun f => (hmk' f).symm
  rw [he] at step
  refine wp_region_any hm ?_
  have h0 : a = laid a (L ++ last :: T) (fun i => match (L ++ last :: T)[i]? with | some o => (match o.dst with | some d => a.tmps.getD d undef | none => undef) | none => undef) := by
    unfold laid
    rw [lay_own _ (L ++ last :: T) 0 a.tmps (fun k o d hk hd => by simp only [Nat.zero_add]; rw [hk]; simp only [hd])]
  have hno : ∀ j, (Array.replicate (L ++ last :: T).toArray.size false).getD j false = false := by
    intro j
    by_cases h : j < (L ++ last :: T).toArray.size <;> simp [Array.getD, h]
  have := wpAny_slotsT (P := P) (Q := Q) (a := a) ht hf hch hR step.2 step.1 (fun f w hs hT => by rw [hmk']; exact fin f w hs hT) (L ++ last :: T).toArray.size (Array.replicate (L ++ last :: T).toArray.size false)
    (fun i => match (L ++ last :: T)[i]? with | some o => (match o.dst with | some d => a.tmps.getD d undef | none => undef) | none => undef) w.drew (by simp) (by simp) hS (fun j _ hj => by simp at hj; simp [Array.getD, hj])
    (fun i o j _ h => by rw [hno] at h; cases h) (fun j p h => by rw [hno] at h; cases h)
  rw [← h0] at this
  exact this
end
end Go.Proofs.YtaaioengebaebaaGreatDoor
namespace Go.Proofs.YtaaioengebaebaaGreatDoor
open Go.ChangeShapes Go.WideShapes Go.ChangeAt Go.RowKit

def isRowP (t : TypeId) (N n : Nat) (P : List Value → Prop) : Value → World → Prop := fun v w => ∃ (cs : List Value) (b : Nat), v = .slice (some ⟨b, 0, none⟩) n n ∧ P cs ∧ N ≤ b ∧ Blk w b t cs.toArray
theorem stable_RowP (g : Nat) {N : Nat} (h : g < N) (t : TypeId) (n : Nat) {P : List Value → Prop} : StableS (fun w w' => Only w w' g) (isRowP t N n P) := fun _ _ _ ho ⟨cs, b, e, hp, hb, hk⟩ => ⟨cs, b, e, hp, hb, hk.grown ho (by intro e; injection e with e; omega)⟩
end Go.Proofs.YtaaioengebaebaaGreatDoor
namespace Go.Proofs.YtaaioengebaebaaGreatDoor
open Go

theorem tidy_front : ∀ {L R : List Oper} {i : Nat}, tidy i (L ++ R) = true → tidy i L = true := by
  intro L
  induction L with
  | nil => intro R i _; rfl
  | cons o os ih =>
    intro R i h
    simp only [List.cons_append, tidy, Bool.and_eq_true] at h ⊢
    refine ⟨⟨h.1.1, ?_⟩, ih h.2⟩
    have h2 := h.1.2
    cases hd : o.dst with
    | none => rfl
    | some d =>
      rw [hd] at h2
      simp only [List.all_append, Bool.and_eq_true] at h2
      exact h2.1
section
variable {P : Program} {Q : Exit → Act → World → Prop}
theorem wpAny_slotsK {L : List Oper} {last : Oper} {T : List Oper} {a : Act} {S : World → Prop} {R : World → World → Prop} {Ts : List (Value → World → Prop)} (ht : tidy 0 (L ++ last :: T) = true) (hf : fed 0 (L ++ [last]) = true) (hch : chained L.length (last :: T) = true)
    (hR : AllStable R Ts)
    (step : ∀ (i : Nat) (o : Oper) (p : Value → World → Prop), L[i]? = some o → Ts[i]? = some p → StepS P Q (L ++ last :: T).toArray (laid a L) S R Ts p o) (hlen : Ts.length = L.length)
    (fin : ∀ f w, S w → (∀ (i : Nat) (p : Value → World → Prop), Ts[i]? = some p → p (f i) w) → wpList P (L ++ last :: T).toArray Q (last :: T) (laid a L f) w) :
    ∀ (fuel : Nat) (l : Array Bool) (f : Nat → Value) (w : World), l.size = (L ++ last :: T).length → l.toList.count false ≤ fuel → S w → (∀ j, L.length ≤ j → j < (L ++ last :: T).length → l.getD j true = false) →
      (∀ (i : Nat) (o : Oper) (j : Nat), L[i]? = some o → l.getD i false = true → waits o j = true → l.getD j false = true) →
      (∀ (j : Nat) (p : Value → World → Prop), l.getD j false = true → Ts[j]? = some p → p (f j) w) →
      wpAny P .any (L ++ last :: T).toArray Q fuel l (laid a L f) w := by
  intro fuel
  have hfl : (L ++ last :: T).length = L.length + 1 + T.length := by simp; omega
  have getD_lt : ∀ (l : Array Bool) i, l.getD i true = false → ∃ h : i < l.size, l[i] = false := by
    intro l i h
    by_cases hx : i < l.size
    · exact ⟨hx, by simpa [Array.getD, hx] using h⟩
    · rw [Array.getD, dif_neg hx] at h; cases h
  have chn : ∀ k o, L.length ≤ k → (L ++ last :: T)[k + 1]? = some o → waits o k = true := by
    intro k o hk ho
    rw [List.getElem?_append_right (by omega)] at ho
    obtain ⟨d, rfl⟩ : ∃ d, k = L.length + d := ⟨k - L.length, by omega⟩
    rw [show L.length + d + 1 - L.length = d + 1 by omega] at ho
    exact chained_spec _ _ d o hch ho
  induction fuel with
  | zero =>
    intro l f w hsz hc hS hun _ _
    obtain ⟨h1, h2⟩ := getD_lt l _ (hun L.length (Nat.le_refl _) (by omega))
    have h3 : false ∈ l.toList := by rw [← h2]; simp
    have := List.count_pos_iff.2 h3
    omega
  | succ fuel ih =>
    intro l f w hsz hc hS hun hcl hT
    have hunl := hun L.length (Nat.le_refl _) (by omega)
    refine ⟨fun hr => ?_, fun i hi => ?_⟩
    · have := all_listed ht hr L.length (by omega)
      rw [hunl] at this; cases this
    · obtain ⟨h1, o, ho, hdeps⟩ := mem_ready.1 hi
      obtain ⟨hx, h2⟩ := getD_lt l _ h1
      have hLi : (L ++ last :: T)[i]? = some o := by simpa using ho
      have hil2 : i < (L ++ last :: T).length := (List.getElem?_eq_some_iff.1 hLi).1
      have hw : ∀ j, waits o j = true → l.getD j false = true := fun j hj => waits_dep hj hdeps
      by_cases hlast : i = L.length
      · subst hlast
        obtain rfl : last = o := by simpa using hLi
        have hall : ∀ d j, j + d = L.length → 0 < d → l.getD j false = true := by
          intro d
          induction d using Nat.strongRecOn with
          | _ d ihd =>
            intro j hj hd
            obtain ⟨m, q, hm, hq, hwq⟩ := fed_spec (L ++ [last]) 0 j hf (by simp; omega)
            rw [Nat.zero_add] at hwq
            have hml : m < L.length + 1 := by
              obtain ⟨hmm, _⟩ := List.getElem?_eq_some_iff.1 hq
              simpa using hmm
            by_cases hme : m = L.length
            · subst hme
              obtain rfl : last = q := by simpa using hq
              exact hw j hwq
            · have hq' : L[m]? = some q := by rwa [List.getElem?_append_left (by omega)] at hq
              exact hcl m q j hq' (ihd (L.length - m) (by omega) m (by omega) (by omega)) hwq
        have hfin := fin f w hS (fun j p hp => by
          have hj : j < L.length := by
            obtain ⟨hmm, _⟩ := List.getElem?_eq_some_iff.1 hp
            omega
          exact hT j p (hall (L.length - j) j (by omega) (by omega)) hp)
        refine wpOp_mono (fun a' w' hl => ?_) (show wpOp P (L ++ last :: T).toArray Q L.length (wpList P (L ++ last :: T).toArray Q T) (laid a L f) w by unfold wpOp; rw [ho]; exact hfin)
        refine wpAny_tail ht T (L.length + 1) (by simp) (by omega) (fun k o hk => chn k o (by omega)) fuel _ a' w' (by simpa using hsz) ?_ (fun j hj => ?_) (fun j hj hjl => ?_) hl
        · have : (l.setIfInBounds L.length true).toList.count false + 1 = l.toList.count false := by
            simp only [Array.toList_setIfInBounds]
            exact count_less l.toList L.length (by simp [hx, h2])
          omega
        · by_cases e : j = L.length
          · subst e; simp [Array.getD, hx]
          · rw [getD_set_ne false (Ne.symm e)]
            exact hall (L.length - j) j (by omega) (by omega)
        · rw [getD_set_ne true (by omega)]; exact hun j (by omega) hjl
      · by_cases hgt : L.length < i
        · exfalso
          have hw1 := chn (i - 1) o (by omega) (by rw [show i - 1 + 1 = i by omega]; exact hLi)
          have h3 := hw _ hw1
          have h4 := hun (i - 1) (by omega) (by omega)
          rw [getD_either (by omega) false true, h4] at h3; cases h3
        · have hil : i < L.length := by omega
          have hLi' : L[i]? = some o := by rwa [List.getElem?_append_left hil] at hLi
          obtain ⟨p, hp⟩ : ∃ p, Ts[i]? = some p := ⟨Ts[i]'(by omega), by simp⟩
          refine wpOp_step ho (fun K' hK => step i o p hLi' hp f w hS (fun j p' hj hp' => hT j p' (hw j hj) hp') K' ?_)
          intro v w' hv hS' hRw
          rw [laid_put a _ f v i o (tidy_front ht) hLi']
          refine hK _ _ (ih _ _ _ (by simpa using hsz) ?_ hS' ?_ ?_ ?_)
          · have : (l.setIfInBounds i true).toList.count false + 1 = l.toList.count false := by
              simp only [Array.toList_setIfInBounds]
              exact count_less l.toList i (by simp [hx, h2])
            omega
          · intro j hj hjl
            rw [getD_set_ne true (by omega)]; exact hun j hj hjl
          · intro i' o' j ho' hl' hw'
            by_cases hji : j = i
            · subst hji; simp [Array.getD, hx]
            rw [getD_set_ne false (Ne.symm hji)]
            by_cases hii : i' = i
            · subst hii
              rw [hLi'] at ho'
              injection ho' with ho'
              subst ho'
              exact hw j hw'
            · rw [getD_set_ne false (Ne.symm hii)] at hl'
              exact hcl i' o' j ho' hl' hw'
          · intro j p' hj hp'
            by_cases hji : j = i
            · subst hji
              rw [hp] at hp'
              injection hp' with hp'
              subst hp'
              rw [upd_at]; exact hv
            · rw [upd_ne f v hji]
              refine hR p' (List.mem_of_getElem? hp') w w' _ hRw (hT j p' ?_ hp')
              rw [getD_set_ne false (Ne.symm hji)] at hj
              exact hj

/-- **A region that draws its order and ends in a row of operations**: each operation ahead is shown once; the row is walked. -/
theorem wp_region_keep {id : Nat} {L0 : List Oper} {a : Act} {w : World} (S : World → Prop) (R : World → World → Prop) (Ts : List (Value → World → Prop)) (hm : P.follows .mixedOrders = true)
    (ht : tidy 0 L0 = true)
    (hS : S w.drew) (hR : AllStable R Ts) (m : (Nat → Value) → Array Value) (last : Oper) (T : List Oper)
    (hmk : ∀ f, lay f a.tmps 0 (L0.take Ts.length) = m f)
    (step : AllUpto P Q L0.toArray (fun f => ⟨m f, a.defers⟩) S R Ts Ts last T L0)
    (fin : ∀ f w, S w → (∀ (i : Nat) (p : Value → World → Prop), Ts[i]? = some p → p (f i) w) → wpList P L0.toArray Q (last :: T) ⟨m f, a.defers⟩ w) : (Code.region id L0.toArray true).wp P Q a w := by
  obtain ⟨L, rfl, step, hf, hch⟩ := step
  have hLn : Ts.length = L.length := step.1
  rw [hLn, List.take_left] at hmk
  have hmk' : ∀ f, laid a L f = ⟨m f, a.defers⟩ := fun f => by unfold laid; rw [hmk]
  have he : (fun f => (⟨m f, a.defers⟩ : Act)) = laid a L := funext fun f => (hmk' f).symm
  rw [he] at step
  refine wp_region_any hm ?_
  have h0 : a = laid a L (fun i => match L[i]? with | some o => (match o.dst with | some d => a.tmps.getD d undef | none => undef) | none => undef) := by
    unfold laid
    rw [lay_own _ L 0 a.tmps (fun k o d hk hd => by simp only [Nat.zero_add]; rw [hk]; simp only [hd])]
  have hno : ∀ j, (Array.replicate (L ++ last :: T).toArray.size false).getD j false = false := by
    intro j
    by_cases h : j < (L ++ last :: T).toArray.size <;> simp [Array.getD, h]
  have := wpAny_slotsK (P := P) (Q := Q) (a := a) ht hf hch hR step.2 step.1 (fun f w hs hT => by rw [hmk']; exact fin f w hs hT) (L ++ last :: T).toArray.size (Array.replicate (L ++ last :: T).toArray.size false)
    (fun i => match L[i]? with | some o => (match o.dst with | some d => a.tmps.getD d undef | none => undef) | none => undef) w.drew (by simp) (by simp) hS (fun j _ hj => by simp at hj; simp [Array.getD, hj])
    (fun i o j _ h => by rw [hno] at h; cases h) (fun j p h => by rw [hno] at h; cases h)
  rw [← h0] at this
  exact this
end
end Go.Proofs.YtaaioengebaebaaGreatDoor
namespace Go.Proofs.YtaaioengebaebaaGreatDoor
open Go.ChangeShapes Go.WideShapes Go.ChangeAt Go.RowKit

def Code8 (w : World) (A : Option Addr) (n : Nat) : Prop := ∃ bs : List UInt8, n = bs.length ∧ n ≤ 4096 ∧ Reads w w.heap.size 1 A n (byC bs)
theorem Code8.below {w w' : World} {A : Option Addr} {n : Nat} (h : Code8 w A n) (hb : Below w.heap.size w w') : Code8 w' A n := by
  obtain ⟨bs, h1, h2, h3⟩ := h
  exact ⟨bs, h1, h2, (h3.below hb).more hb.size⟩
theorem from_code (A : Option Addr) (n c : Nat) (w : World) (h : Code8 w A n) :
    Calls Tryz.prog 65 #[.slice A n c] w fun e w' => ∃ g, e = .returned (.pointer (some ⟨g, 0, none⟩)) ∧ Src w' w.heap.size g ∧ Below w.heap.size w w' := by
  obtain ⟨bs, rfl, h2, h3⟩ := h
  exact from_any bs A c w h3 h2
end Go.Proofs.YtaaioengebaebaaGreatDoor
namespace Go.Proofs.YtaaioengebaebaaGreatDoor
open Go

section
variable {P : Program} {Q : Exit → Act → World → Prop}
/-- What is to be shown of the operation at place i. -/
def StepD (P : Program) (Q : Exit → Act → World → Prop) (ops : Array Oper) (mk : (Nat → Value) → Act) (S : World → Prop) (R : World → World → Prop) (Ts : List ((Nat → Value) → World → Prop)) (i : Nat) (p : (Nat → Value) → World → Prop) (o : Oper) : Prop :=
  ∀ (f : Nat → Value) (w : World), S w → (∀ (j : Nat) (p' : (Nat → Value) → World → Prop), waits o j = true → Ts[j]? = some p' → p' f w) →
    ∀ K : Act → World → Prop, Shut (∀ v w', p (upd f i v) w' → S w' → R w w' → K ((mk f).put o.dst v) w') →
      if Region.wanted o (yielded ops (mk f).tmps) = true then Oper.wp P o (mk f) w K Q else K ((mk f).put o.dst undef) w
/-- It speaks of its own slot and of those that it waits for. -/
def LocalD (o : Oper) (i : Nat) (p : (Nat → Value) → World → Prop) : Prop := ∀ (f g : Nat → Value) (w : World), f i = g i → (∀ j, waits o j = true → f j = g j) → p f w → p g w
def StableD (R : World → World → Prop) (p : (Nat → Value) → World → Prop) : Prop := ∀ w w' f, R w w' → p f w → p f w'
def AllStableD (R : World → World → Prop) (Ts : List ((Nat → Value) → World → Prop)) : Prop := ∀ p ∈ Ts, StableD R p
theorem AllStableD.nil {R : World → World → Prop} : AllStableD R [] := fun _ h => by cases h
theorem AllStableD.cons {R : World → World → Prop} {p : (Nat → Value) → World → Prop} {Ts : List ((Nat → Value) → World → Prop)} (h : StableD R p) (hs : AllStableD R Ts) : AllStableD R (p :: Ts) := fun q hq => by
  rcases List.mem_cons.1 hq with rfl | hq
  · exact h
  · exact hs q hq
/-- What speaks of one slot alone. -/
def slotP (i : Nat) (q : Value → World → Prop) : (Nat → Value) → World → Prop := fun f w => q (f i) w
theorem slotP_local (o : Oper) (i : Nat) (q : Value → World → Prop) : LocalD o i (slotP i q) := fun f g w h _ hp => by
  unfold slotP at hp ⊢
  rw [← h]; exact hp
theorem slotP_stable {R : World → World → Prop} {q : Value → World → Prop} (i : Nat) (h : StableS R q) : StableD R (slotP i q) := fun w w' f hR hp => h w w' (f i) hR hp
theorem slotP_at {i : Nat} {q : Value → World → Prop} {f : Nat → Value} {v : Value} {w : World} (h : q v w) : slotP i q (upd f i v) w := by
  unfold slotP
  rw [upd_at]; exact h

theorem wpAny_dep {L : List Oper} {last : Oper} {a : Act} {S : World → Prop} {R : World → World → Prop} {Ts : List ((Nat → Value) → World → Prop)} (ht : tidy 0 (L ++ [last]) = true) (hf : fed 0 (L ++ [last]) = true)
    (hR : AllStableD R Ts)
    (step : ∀ (i : Nat) (o : Oper) (p : (Nat → Value) → World → Prop), L[i]? = some o → Ts[i]? = some p → StepD P Q (L ++ [last]).toArray (laid a (L ++ [last])) S R Ts i p o ∧ LocalD o i p) (hlen : Ts.length = L.length)
    (fin : ∀ f w, S w → (∀ (i : Nat) (p : (Nat → Value) → World → Prop), Ts[i]? = some p → p f w) → ∀ K : Act → World → Prop, Shut (∀ a' w', Q .normal a' w' → K a' w') →
      if Region.wanted last (yielded (L ++ [last]).toArray (laid a (L ++ [last]) f).tmps) = true then Oper.wp P last (laid a (L ++ [last]) f) w K Q else K ((laid a (L ++ [last]) f).put last.dst undef) w) :
    ∀ (fuel : Nat) (l : Array Bool) (f : Nat → Value) (w : World), l.size = L.length + 1 → l.toList.count false ≤ fuel → S w → l.getD L.length true = false →
      (∀ (i : Nat) (o : Oper) (j : Nat), L[i]? = some o → l.getD i false = true → waits o j = true → l.getD j false = true) →
      (∀ (j : Nat) (p : (Nat → Value) → World → Prop), l.getD j false = true → Ts[j]? = some p → p f w) →
      wpAny P .any (L ++ [last]).toArray Q fuel l (laid a (L ++ [last]) f) w := by
  intro fuel
  have getD_lt : ∀ (l : Array Bool) i, l.getD i true = false → ∃ h : i < l.size, l[i] = false := by
    intro l i h
    by_cases hx : i < l.size
    · exact ⟨hx, by simpa [Array.getD, hx] using h⟩
    · rw [Array.getD, dif_neg hx] at h; cases h
  induction fuel with
  | zero =>
    intro l f w hsz hc hS hun _ _
    obtain ⟨h1, h2⟩ := getD_lt l _ hun
    have h3 : false ∈ l.toList := by rw [← h2]; simp
    have := List.count_pos_iff.2 h3
    omega
  | succ fuel ih =>
    intro l f w hsz hc hS hun hcl hT
    refine ⟨fun hr => ?_, fun i hi => ?_⟩
    · have := all_listed ht hr L.length (by simp)
      rw [hun] at this; cases this
    · obtain ⟨h1, o, ho, hdeps⟩ := mem_ready.1 hi
      obtain ⟨hx, h2⟩ := getD_lt l _ h1
      have hLi : (L ++ [last])[i]? = some o := by simpa using ho
      have hw : ∀ j, waits o j = true → l.getD j false = true := fun j hj => by
        obtain ⟨e, he, hb⟩ := List.any_eq_true.1 hj
        have he : e ∈ o.after := Array.mem_toList_iff.1 he
        simp only [Bool.and_eq_true, beq_iff_eq] at hb
        rw [← hb.2]
        exact hdeps e he hb.1
      by_cases hlast : i = L.length
      · subst hlast
        obtain rfl : last = o := by simpa using hLi
        have hall : ∀ d j, j + d = L.length → 0 < d → l.getD j false = true := by
          intro d
          induction d using Nat.strongRecOn with
          | _ d ihd =>
            intro j hj hd
            obtain ⟨m, q, hm, hq, hwq⟩ := fed_spec (L ++ [last]) 0 j hf (by simp; omega)
            rw [Nat.zero_add] at hwq
            have hml : m < L.length + 1 := by
              obtain ⟨hmm, _⟩ := List.getElem?_eq_some_iff.1 hq
              simpa using hmm
            by_cases hme : m = L.length
            · subst hme
              obtain rfl : last = q := by simpa using hq
              exact hw j hwq
            · have hq' : L[m]? = some q := by rwa [List.getElem?_append_left (by omega)] at hq
              exact hcl m q j hq' (ihd (L.length - m) (by omega) m (by omega) (by omega)) hwq
        refine wpOp_step ho (fun K' hK => fin f w hS (fun j p hp => ?_) K' ?_)
        · have hj : j < L.length := by
            obtain ⟨hmm, _⟩ := List.getElem?_eq_some_iff.1 hp
            omega
          exact hT j p (hall (L.length - j) j (by omega) (by omega)) hp
        · intro a' w' hq
          refine hK _ _ (wpAny_done (fun j => ?_) hq fuel)
          by_cases hj : j = L.length
          · subst hj
            simp [Array.getD, hx]
          · rw [getD_set_ne true (Ne.symm hj)]
            by_cases hjs : j < L.length
            · have := hall (L.length - j) j (by omega) (by omega)
              have h6 : j < l.size := by omega
              simpa [Array.getD, h6] using this
            · have h6 : ¬ j < l.size := by omega
              simp [Array.getD, h6]
      · have hil : i < L.length := by omega
        have hLi' : L[i]? = some o := by rwa [List.getElem?_append_left hil] at hLi
        obtain ⟨p, hp⟩ : ∃ p, Ts[i]? = some p := ⟨Ts[i]'(by omega), by simp⟩
        refine wpOp_step ho (fun K' hK => (step i o p hLi' hp).1 f w hS (fun j p' hj hp' => hT j p' (hw j hj) hp') K' ?_)
        intro v w' hv hS' hRw
        rw [laid_put a _ f v i o ht hLi]
        refine hK _ _ (ih _ _ _ (by simpa using hsz) ?_ hS' ?_ ?_ ?_)
        · have : (l.setIfInBounds i true).toList.count false + 1 = l.toList.count false := by
            simp only [Array.toList_setIfInBounds]
            exact count_less l.toList i (by simp [hx, h2])
          omega
        · rw [getD_set_ne true hlast]; exact hun
        · intro i' o' j ho' hl' hw'
          by_cases hji : j = i
          · subst hji; simp [Array.getD, hx]
          rw [getD_set_ne false (Ne.symm hji)]
          by_cases hii : i' = i
          · subst hii
            rw [hLi'] at ho'
            injection ho' with ho'
            subst ho'
            exact hw j hw'
          · rw [getD_set_ne false (Ne.symm hii)] at hl'
            exact hcl i' o' j ho' hl' hw'
        · intro j p' hj hp'
          by_cases hji : j = i
          · subst hji
            rw [hp] at hp'
            injection hp' with hp'
            subst hp'
            exact hv
          · rw [getD_set_ne false (Ne.symm hji)] at hj
            have hjL : j < L.length := by
              obtain ⟨hmm, _⟩ := List.getElem?_eq_some_iff.1 hp'
              omega
            obtain ⟨oj, hoj⟩ : ∃ oj, L[j]? = some oj := ⟨L[j], by simp [hjL]⟩
            refine (step j oj p' hoj hp').2 f _ w' ?_ ?_ (hR p' (List.mem_of_getElem? hp') w w' _ hRw (hT j p' hj hp'))
            · rw [upd_ne f v hji]
            · intro q hq
              have hqd := hcl j oj q hoj hj hq
              rw [upd_ne f v]
              intro e
              subst e
              have h9 := h1
              rw [getD_either hx false true] at hqd
              rw [hqd] at h9; cases h9

/-- Each of a list's operations leaves its own shape; the first stands at place n. -/
def AllStepsD (P : Program) (Q : Exit → Act → World → Prop) (ops : Array Oper) (mk : (Nat → Value) → Act) (S : World → Prop) (R : World → World → Prop) (Ts : List ((Nat → Value) → World → Prop)) (n : Nat) (ps : List ((Nat → Value) → World → Prop)) (L : List Oper) : Prop := ps.length = L.length ∧ ∀ (i : Nat) (o : Oper) (p : (Nat → Value) → World → Prop), L[i]? = some o → ps[i]? = some p → StepD P Q ops mk S R Ts (n + i) p o ∧ LocalD o (n + i) p
theorem AllStepsD.nil {ops : Array Oper} {mk : (Nat → Value) → Act} {S : World → Prop} {R : World → World → Prop} {Ts : List ((Nat → Value) → World → Prop)} {n : Nat} : AllStepsD P Q ops mk S R Ts n [] [] := ⟨rfl, fun k o p h => by simp at h⟩
theorem AllStepsD.cons {ops : Array Oper} {mk : (Nat → Value) → Act} {S : World → Prop} {R : World → World → Prop} {n : Nat} {Ts ps : List ((Nat → Value) → World → Prop)} {p : (Nat → Value) → World → Prop} {o : Oper} {os : List Oper} (h : StepD P Q ops mk S R Ts n p o) (hl : LocalD o n p) (hs : AllStepsD P Q ops mk S R Ts (n + 1) ps os) : AllStepsD P Q ops mk S R Ts n (p :: ps) (o :: os) :=
  ⟨by simp [hs.1], fun k o' p' hk hp => by
    cases k with
    | zero =>
      simp only [List.getElem?_cons_zero, Option.some.injEq] at hk hp
      subst hk hp
      exact ⟨h, hl⟩
    | succ k =>
      have := hs.2 k o' p' (by simpa using hk) (by simpa using hp)
      rwa [show n + 1 + k = n + (k + 1) by omega] at this⟩
/-- The same, up to the last operation. -/
def AllToD (P : Program) (Q : Exit → Act → World → Prop) (ops : Array Oper) (mk : (Nat → Value) → Act) (S : World → Prop) (R : World → World → Prop) (Ts : List ((Nat → Value) → World → Prop)) (n : Nat) (ps : List ((Nat → Value) → World → Prop)) (last : Oper) (Ls : List Oper) : Prop := ∃ L, Ls = L ++ [last] ∧ AllStepsD P Q ops mk S R Ts n ps L
theorem AllToD.nil {ops : Array Oper} {mk : (Nat → Value) → Act} {S : World → Prop} {R : World → World → Prop} {n : Nat} {Ts : List ((Nat → Value) → World → Prop)} {last : Oper} : AllToD P Q ops mk S R Ts n [] last [last] := ⟨[], rfl, AllStepsD.nil⟩
theorem AllToD.cons {ops : Array Oper} {mk : (Nat → Value) → Act} {S : World → Prop} {R : World → World → Prop} {n : Nat} {Ts ps : List ((Nat → Value) → World → Prop)} {p : (Nat → Value) → World → Prop} {last o : Oper} {os : List Oper} (h : StepD P Q ops mk S R Ts n p o) (hl : LocalD o n p) (hs : AllToD P Q ops mk S R Ts (n + 1) ps last os) : AllToD P Q ops mk S R Ts n (p :: ps) last (o :: os) := by
  obtain ⟨L, rfl, hL⟩ := hs
  exact ⟨o :: L, rfl, AllStepsD.cons h hl hL⟩

/-- **A region that draws its order and ends in one operation that waits for all the others**: each operation is shown once. -/
theorem wp_region_dep {id : Nat} {L0 : List Oper} {a : Act} {w : World} (S : World → Prop) (R : World → World → Prop) (Ts : List ((Nat → Value) → World → Prop)) (hm : P.follows .mixedOrders = true)
    (ht : tidy 0 L0 = true) (hf : fed 0 L0 = true)
    (hS : S w.drew) (hR : AllStableD R Ts) (m : (Nat → Value) → Array Value) (last : Oper)
    (hmk : ∀ f, lay f a.tmps 0 L0 = m f)
    (step : AllToD P Q L0.toArray (fun f => ⟨m f, a.defers⟩) S R Ts 0 Ts last L0)
    (fin : ∀ f w, S w → (∀ (i : Nat) (p : (Nat → Value) → World → Prop), Ts[i]? = some p → p f w) → ∀ K : Act → World → Prop, Shut (∀ a' w', Q .normal a' w' → K a' w') →
      if Region.wanted last (yielded L0.toArray (m f)) = true then Oper.wp P last ⟨m f, a.defers⟩ w K Q else K ((⟨m f, a.defers⟩ : Act).put last.dst undef) w) : (Code.region id L0.toArray true).wp P Q a w := by
  obtain ⟨L, rfl, step⟩ := step
  have hmk' : ∀ f, laid a (L ++ [last]) f = ⟨m f, a.defers⟩ := fun f => by unfold laid; rw [hmk]
  have he : (fun f => (⟨m f, a.defers⟩ : Act)) = laid a (L ++ [last]) := funext fun f => (hmk' f).symm
  rw [he] at step
  refine wp_region_any hm ?_
  have h0 : a = laid a (L ++ [last]) (fun i => match (L ++ [last])[i]? with | some o => (match o.dst with | some d => a.tmps.getD d undef | none => undef) | none => undef) := by
    unfold laid
    rw [lay_own _ (L ++ [last]) 0 a.tmps (fun k o d hk hd => by simp only [Nat.zero_add]; rw [hk]; simp only [hd])]
  have hno : ∀ j, (Array.replicate (L ++ [last]).toArray.size false).getD j false = false := by
    intro j
    by_cases h : j < (L ++ [last]).toArray.size <;> simp [Array.getD, h]
  have := wpAny_dep (P := P) (Q := Q) (a := a) ht hf hR (fun i o p h1 h2 => by have := step.2 i o p h1 h2; rwa [Nat.zero_add] at this) step.1 (fun f w hs hT K hK => by rw [hmk']; exact fin f w hs hT K hK) (L ++ [last]).toArray.size (Array.replicate (L ++ [last]).toArray.size false)
    (fun i => match (L ++ [last])[i]? with | some o => (match o.dst with | some d => a.tmps.getD d undef | none => undef) | none => undef) w.drew (by simp) (by simp) hS (by simp [Array.getD])
    (fun i o j _ h => by rw [hno] at h; cases h) (fun j p h => by rw [hno] at h; cases h)
  rw [← h0] at this
  exact this
end
end Go.Proofs.YtaaioengebaebaaGreatDoor
namespace Go.Proofs.YtaaioengebaebaaGreatDoor
open Go.ChangeShapes Go.WideShapes Go.ChangeAt Go.RowKit

/-- One block of type t gets the cells vs. -/
def StoreR (t : TypeId) (vs : Array Value) (w w' : World) : Prop := ∃ b cs, Blk w b t cs ∧ Blk w' b t vs ∧ w'.heap.size = w.heap.size ∧ ∀ r u ds, r ≠ b → Blk w r u ds → Blk w' r u ds
def KeepS (t : TypeId) (vs : Array Value) : World → World → Prop := fun w w' => KeepW w w' ∨ StoreR t vs w w'
theorem blk_tag {w : World} {b : Nat} {t u : TypeId} {cs ds : Array Value} (h : Blk w b t cs) (h2 : Blk w b u ds) : t = u := by
  unfold Blk at h h2
  rw [h] at h2
  injection h2 with h2
  injection h2 with _ h3
theorem keepS_V {t : TypeId} {vs : Array Value} (u : Value) : StableS (KeepS t vs) (isV u) := fun _ _ _ _ h => h
/-- A new row of n structs. -/
def isRowL (W : World) (t : TypeId) (n : Nat) (cs : List Value) : Value → World → Prop := fun v w => ∃ b, v = .slice (some ⟨b, 0, none⟩) n n ∧ W.heap.size ≤ b ∧ Blk w b t cs.toArray
theorem keep_rowL (W : World) (t : TypeId) (n : Nat) (cs : List Value) : StableS KeepW (isRowL W t n cs) := fun _ _ _ h ⟨b, e, hb, hk⟩ => ⟨b, e, hb, hk.below h hk.lt⟩
theorem keepS_rowL {t : TypeId} {vs : Array Value} (W : World) {u : TypeId} (hu : u ≠ t) (n : Nat) (cs : List Value) : StableS (KeepS t vs) (isRowL W u n cs) := by
  rintro w w' v h ⟨b, e, hb, hk⟩
  rcases h with h | ⟨b', ds, h1, _, _, h4⟩
  · exact ⟨b, e, hb, hk.below h hk.lt⟩
  · exact ⟨b, e, hb, h4 b u _ (fun e => by subst e; exact hu (blk_tag hk h1)) hk⟩
/-- A mask by value, its cells in a new row. -/
def isMaskL (x y W H : Int) (t : TypeId) (n : Nat) (cs : List Value) : Value → World → Prop := fun v w => ∃ b, v = .agg #[.int .i64 x, .int .i64 y, .int .i64 W, .int .i64 H, .slice (some ⟨b, 0, none⟩) n n] ∧ Blk w b t cs.toArray
theorem keep_maskL (x y W H : Int) (t : TypeId) (n : Nat) (cs : List Value) : StableS KeepW (isMaskL x y W H t n cs) := fun _ _ _ h ⟨b, e, hk⟩ => ⟨b, e, hk.below h hk.lt⟩
theorem keepS_maskL {t : TypeId} {vs : Array Value} (x y W H : Int) {u : TypeId} (hu : u ≠ t) (n : Nat) (cs : List Value) : StableS (KeepS t vs) (isMaskL x y W H u n cs) := by
  rintro w w' v h ⟨b, e, hk⟩
  rcases h with h | ⟨b', ds, h1, _, _, h4⟩
  · exact ⟨b, e, hk.below h hk.lt⟩
  · exact ⟨b, e, h4 b u _ (fun e => by subst e; exact hu (blk_tag hk h1)) hk⟩
/-- A new box of type t. -/
def isBoxS (W : World) (t : TypeId) (n : Nat) : Value → World → Prop := fun v w => ∃ b cs, v = .pointer (some ⟨b, 0, none⟩) ∧ W.heap.size ≤ b ∧ cs.size = n ∧ Blk w b t cs
theorem keepS_box {t : TypeId} {vs : Array Value} (W : World) : StableS (KeepS t vs) (isBoxS W t vs.size) := by
  rintro w w' v h ⟨b, cs, e, hb, hn, hk⟩
  rcases h with h | ⟨b', ds, h1, h2, _, h4⟩
  · exact ⟨b, cs, e, hb, hn, hk.below h hk.lt⟩
  · by_cases he : b = b'
    · subst he; exact ⟨b, vs, e, hb, rfl, h2⟩
    · exact ⟨b, cs, e, hb, hn, h4 b t _ he hk⟩
/-- The box of slot j holds the cells vs. -/
def storedP (W : World) (j : Nat) (t : TypeId) (vs : Array Value) : (Nat → Value) → World → Prop := fun f w => ∃ b, f j = .pointer (some ⟨b, 0, none⟩) ∧ W.heap.size ≤ b ∧ Blk w b t vs
theorem keepS_stored (W : World) (j : Nat) (t : TypeId) (vs : Array Value) : StableD (KeepS t vs) (storedP W j t vs) := by
  rintro w w' f h ⟨b, e, hb, hk⟩
  rcases h with h | ⟨b', ds, h1, h2, _, h4⟩
  · exact ⟨b, e, hb, hk.below h hk.lt⟩
  · by_cases he : b = b'
    · subst he; exact ⟨b, e, hb, h2⟩
    · exact ⟨b, e, hb, h4 b t _ he hk⟩
theorem stored_local {o : Oper} {i j : Nat} (hw : waits o j = true) (W : World) (t : TypeId) (vs : Array Value) : LocalD o i (storedP W j t vs) := fun f g w _ h ⟨b, e, hb, hk⟩ => ⟨b, by rw [← h j hw]; exact e, hb, hk⟩
theorem storeR_2 {w : World} {b : Nat} {t : TypeId} {z0 z1 : Value} (h : Blk w b t #[z0, z1]) (v0 v1 : Value) : StoreR t #[v0, v1] w ((w.setCell ⟨b, 0, none⟩ v0).setCell ⟨b, 1, none⟩ v1) :=
  ⟨b, _, h, by simpa using (h.set_ 0 v0).set_ 1 v1, by simp [World.setCell], fun r u ds hr hk => (hk.far (p := ⟨b, 0, none⟩) (by simpa using hr) v0).far (p := ⟨b, 1, none⟩) (by simpa using hr) v1⟩
theorem arr_2 {cs : Array Value} (h : cs.size = 2) : ∃ z0 z1, cs = #[z0, z1] := by
  obtain ⟨l⟩ := cs
  match l, h with
  | [a, b], _ => exact ⟨a, b, rfl⟩
end Go.Proofs.YtaaioengebaebaaGreatDoor
