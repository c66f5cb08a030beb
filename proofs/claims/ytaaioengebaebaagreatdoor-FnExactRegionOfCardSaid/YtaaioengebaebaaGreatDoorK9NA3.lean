/- The sum of the squared distances of a point to the cells of a mask: plain sums, and the program's spread. -/
import Derived.Test.YtaaioengebaebaaGreatDoorRows
import Derived.Test.YtaaioengebaebaaGreatDoorK9GA
import Derived.WalkKit
import Derived.ProofKit
import Derived.OpenShut
import Derived.BigQuiet
import Derived.Outline
import Derived.WalkSpells
import Derived.WalkLawsBesides
import Derived.Deep.DeepCutAuto
import Derived.Test.YtaaioengebaebaaGreatDoorK9NA2
import Derived.Deep.QuietTactic
namespace Go.Proofs.YtaaioengebaebaaGreatDoor
open Go.ChangeShapes Go.WideShapes Go.ChangeAt Go.RowKit Go.Sort

def sumTo (cs : List Bool) (f : Nat → Int) : Nat → Int
  | 0 => 0
  | k + 1 => if cs[k]?.getD false = true then sumTo cs f k + f k else sumTo cs f k
theorem sumTo_bd (cs : List Bool) (f : Nat → Int) (m : Nat) (hf : ∀ i, i < m → 0 ≤ f i ∧ f i ≤ 72000000) : ∀ k, k ≤ m → 0 ≤ sumTo cs f k ∧ sumTo cs f k ≤ 72000000 * (k : Int) := by
  intro k
  induction k with
  | zero => intro _; simp [sumTo]
  | succ k ih =>
    intro hk
    have h1 := ih (by omega)
    have h2 := hf k (by omega)
    unfold sumTo
    split <;> omega
theorem sumTo_congr (cs : List Bool) (f g : Nat → Int) (h : ∀ i, f i = g i) (k : Nat) : sumTo cs f k = sumTo cs g k := by
  rw [show f = g from funext h]
theorem sumTo_yes (cs : List Bool) (f : Nat → Int) (k : Nat) (h : k < cs.length) (hc : cs[k] = true) : sumTo cs f (k + 1) = sumTo cs f k + f k := by
  simp [sumTo, h, hc]
theorem sumTo_no (cs : List Bool) (f : Nat → Int) (k : Nat) (h : k < cs.length) (hc : cs[k] = false) : sumTo cs f (k + 1) = sumTo cs f k := by
  simp [sumTo, h, hc]
theorem bC_get (cs : List Bool) (k : Nat) (h : k < cs.length) : (bC cs)[k]? = some (.bool cs[k]) := by simp [bC, h]

/-- Facts of a mask's block in a world and in all that grow out of it. -/
theorem mask_regrown {W0 : World} {g : Nat} {t : TypeId} {a b c d e : Value} (h : Blk W0 g t #[a, b, c, d, e]) :
    (∀ d' os, (grow (redrawn W0 d') os).cell? ⟨g, 0, none⟩ = some a) ∧ (∀ d' os, (grow (redrawn W0 d') os).cell? ⟨g, 1, none⟩ = some b) ∧ (∀ d' os, (grow (redrawn W0 d') os).cell? ⟨g, 2, none⟩ = some c) ∧ (∀ d' os, (grow (redrawn W0 d') os).cell? ⟨g, 3, none⟩ = some d) ∧ (∀ d' os, (grow (redrawn W0 d') os).cell? ⟨g, 4, none⟩ = some e) :=
  ⟨cell_regrown (by rw [h.cell]; rfl), cell_regrown (by rw [h.cell]; rfl), cell_regrown (by rw [h.cell]; rfl), cell_regrown (by rw [h.cell]; rfl), cell_regrown (by rw [h.cell]; rfl)⟩
theorem pair_regrown {W0 : World} {g : Nat} {t : TypeId} {a b : Value} (h : Blk W0 g t #[a, b]) :
    (∀ d' os, (grow (redrawn W0 d') os).cell? ⟨g, 0, none⟩ = some a) ∧ (∀ d' os, (grow (redrawn W0 d') os).cell? ⟨g, 1, none⟩ = some b) :=
  ⟨cell_regrown (by rw [h.cell]; rfl), cell_regrown (by rw [h.cell]; rfl)⟩

def sqP (x y W px py : Int) (k : Nat) : Int := sq (pX x W k) (pY y W k) px py

set_option maxRecDepth 100000 in
set_option maxHeartbeats 4000000 in
theorem spread_any (x y W H px py : Int) (A : Option Addr) (c : Nat) (cs : List Bool) (hx : -1000 ≤ x) (hx' : x ≤ 1000) (hy : -1000 ≤ y) (hy' : y ≤ 1000) (h1 : 1 ≤ W) (h2 : W ≤ 24) (hn : cs.length ≤ 576) (hpx : Co px) (hpy : Co py) (w : World) (hr : Reads w w.heap.size 1 A cs.length (bC cs)) :
    Calls Tryz.prog 70 #[maskV x y W H A cs.length c, .agg #[.int .i64 px, .int .i64 py]] w fun e w' => e = .returned (.int .i64 (sumTo cs (sqP x y W px py) cs.length)) ∧ Below w.heap.size w w' := by
  have hbd : ∀ i, i < cs.length → 0 ≤ sqP x y W px py i ∧ sqP x y W px py i ≤ 72000000 := fun i hi => sq_all (pX_co i hx hx' h1 h2 (by omega)) (pY_co i hy hy' h1 h2 (by omega)) hpx hpy
  have hB : Blk ((w.alloc (.cells #[.int .i64 x, .int .i64 y, .int .i64 W, .int .i64 H, .slice A cs.length c] 40)).alloc (.cells #[.int .i64 px, .int .i64 py] 32)) w.heap.size 40 #[.int .i64 x, .int .i64 y, .int .i64 W, .int .i64 H, .slice A cs.length c] := (Blk.new w _ _).alloc _
  have hP : Blk ((w.alloc (.cells #[.int .i64 x, .int .i64 y, .int .i64 W, .int .i64 H, .slice A cs.length c] 40)).alloc (.cells #[.int .i64 px, .int .i64 py] 32)) (w.heap.size + 1) 32 #[.int .i64 px, .int .i64 py] := by
    have := Blk.new (w.alloc (.cells #[.int .i64 x, .int .i64 y, .int .i64 W, .int .i64 H, .slice A cs.length c] 40)) 32 #[.int .i64 px, .int .i64 py]
    simpa using this
  have hw0 : Below w.heap.size w ((w.alloc (.cells #[.int .i64 x, .int .i64 y, .int .i64 W, .int .i64 H, .slice A cs.length c] 40)).alloc (.cells #[.int .i64 px, .int .i64 py] 32)) := ((Below.refl _ _).alloc (Nat.le_refl _) _).alloc (by simp) _
  have hz : ((w.alloc (.cells #[.int .i64 x, .int .i64 y, .int .i64 W, .int .i64 H, .slice A cs.length c] 40)).alloc (.cells #[.int .i64 px, .int .i64 py] 32)).heap.size = w.heap.size + 2 := by simp
  have HBD := Lib.hid hbd; clear hbd
  have HSB := Lib.hid (sumTo_bd cs (sqP x y W px py) cs.length HBD.out)
  unfold maskV
  go_enter Tryz.func70, Tryz.ntmps70
  go_wp2_with fail
  generalize (w.alloc (.cells #[.int .i64 x, .int .i64 y, .int .i64 W, .int .i64 H, .slice A cs.length c] 40)).alloc (.cells #[.int .i64 px, .int .i64 py] 32) = W0 at *
  go_loopw [5, 6, 7, 11] (fun v5 v6 v7 v11 wr => ∃ k : Nat, k ≤ cs.length ∧ Below (w.heap.size + 2) W0 wr ∧ v5 = .int .i64 (sumTo cs (sqP x y W px py) k) ∧ v11 = .int .i64 k) (fun _ _ _ i _ => cs.length - (intOf i).toNat)
  case atStart => exact ⟨0, Nat.zero_le _, Below.refl _ _, rfl, rfl⟩
  case round =>
    obtain ⟨k, hk, hb, rfl, rfl⟩ := hrel
    have hBr := hB.below hb (by omega)
    have hPr := hP.below hb (by omega)
    by_cases hlt : k < cs.length
    · obtain ⟨ab, ao, rfl, hadb, hcell⟩ := (((hr.below hw0).more (B' := w.heap.size + 2) (by omega)).below hb).2 (by omega)
      have c0 := hcell _ _ (bC_get cs k hlt)
      clear hcell
      have hlt' : (k : Int) < (cs.length : Int) := by omega
      cases hv : cs[k]
      · rw [hv] at c0
        have HN := Lib.hid (sumTo_no cs (sqP x y W px py) k hlt hv)
        clear hv
        go_wp2_with fail
        go_roundw
        case rel => exact ⟨k + 1, by omega, hb, by rw [HN.out], by go_num⟩
        case measure => simp [intOf]; omega
      · rw [hv] at c0
        have HN := Lib.hid (sumTo_yes cs (sqP x y W px py) k hlt hv)
        clear hv
        go_wp2_with fail
        obtain ⟨k0, k1, k2, k3, k4⟩ := mask_regrown hBr
        obtain ⟨k5, k6⟩ := pair_regrown hPr
        have p1 := pX_co (x := x) k hx hx' h1 h2 (by omega)
        have p2 := pY_co (y := y) k hy hy' h1 h2 (by omega)
        have r1 : ∀ d os, Calls Tryz.prog 53 #[maskV x y W H (some ⟨ab, ao, none⟩) cs.length c, .int .i64 k] (grow (redrawn wr d) os) (fun e w'' => e = .returned (.agg #[.int .i64 (pX x W k), .int .i64 (pY y W k)]) ∧ ∃ p : Regrown, w'' = grow (redrawn wr p.d) p.os) := fun d os => Calls.regrown_of (implPoint x y W H _ _ c k hx hx' hy hy' h1 h2 (by omega) _)
        have r2 : ∀ d os, Calls Tryz.prog 99 #[.agg #[.int .i64 (pX x W k), .int .i64 (pY y W k)], .agg #[.int .i64 px, .int .i64 py]] (grow (redrawn wr d) os) (fun e w'' => e = .returned (.int .i64 (sqP x y W px py k)) ∧ ∃ p : Regrown, w'' = grow (redrawn wr p.d) p.os) := fun d os => Calls.regrown_of (implSq _ _ _ _ p1 p2 hpx hpy _)
        have b1 := HBD.out k hlt
        have b2 := HSB.out k hk
        have hs : IntKind.i64.wrap (sumTo cs (sqP x y W px py) k + sqP x y W px py k) = sumTo cs (sqP x y W px py) (k + 1) := by rw [HN.out]; exact IntWalk.i64_in _ (by omega)
        unfold maskV at r1
        refine wp_region_quiet_below (by kernel_rfl) (by kernel_rfl) ?_
        repeat (first | go_big_quiet_step ((first | with_reducible exact r1 _ _ | with_reducible exact r2 _ _)))
        refine wpQuiet_nil ?_
        intro _ hw'
        obtain ⟨⟨dq, osq⟩, rfl⟩ := hw'
        go_wp2_with fail
        go_roundw
        case rel => exact ⟨k + 1, by omega, hb.trans ((below_regrown wr dq osq).mono (by have := hb.size; omega)), rfl, by go_num⟩
        case measure => simp [intOf]; omega
    · obtain rfl : k = cs.length := by omega
      go_wp2_with fail
      go_ret
      exact ⟨rfl, hw0.trans (hb.mono (by omega))⟩
end Go.Proofs.YtaaioengebaebaaGreatDoor
