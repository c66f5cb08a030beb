/- Merged: The code of draws, and l01From on it. DrawIsCarried, DrawLeastChanges, DrawHasQuorum, DrawCastBallot of the reference. Lists of ballots or texts that are alike; whether a list holds a text; helpers of the laws. l27Few of the reference. LeastChanges of the reference. SmallestMajority of the reference; the law. FnMajorities: the plain law. The program's LeastChanges: its closure. The closure of LeastChanges: its end. The closure of LeastChanges: its contract. LeastChanges of the program; the law. The law FnMajorities returns true for every code: the walk of the law. -/
import Derived.Test.YtihhpmhigmegjaaDoorRows
import Derived.Test.YtihhpmhigmegjaaDoorL0
import Derived.Test.YtihhpmhigmegjaaDoorM0
import Derived.WalkKit
import Derived.ProofKit
import Derived.OpenShut
import Derived.BigQuiet
import Derived.Outline
import Derived.WalkSpells
import Derived.WalkLawsBesides
import Derived.Deep.DeepCutAuto
import Derived.Test.YtihhpmhigmegjaaDoorSA
import Derived.Test.YtihhpmhigmegjaaDoorVTB
import Derived.Test.YtihhpmhigmegjaaDoorV5
import Derived.Test.YtihhpmhigmegjaaDoorT0
import Derived.Test.YtihhpmhigmegjaaDoorI6
import Derived.Test.YtihhpmhigmegjaaDoorFA
import Derived.Lib.QuietBelow
import Derived.Deep.QuietTactic
import Derived.Test.YtihhpmhigmegjaaDoorJ3
import Derived.Deep.RegionHeld3
import Derived.Deep.AppendLies
import Derived.Test.YtihhpmhigmegjaaDoorU1
import Derived.Test.YtihhpmhigmegjaaDoorT5
import Derived.Laws.EntriesVeiled
import Derived.Test.YtihhpmhigmegjaaDoorJ2
import Derived.Test.YtihhpmhigmegjaaDoorT4
namespace Go.Proofs.YtihhpmhigmegjaaDoor
open Go.ChangeShapes Go.WideShapes Go.ChangeAt Go.RowKit

def Code8 (w : World) (A : Option Addr) (n : Nat) : Prop := ∃ bs : List UInt8, n = bs.length ∧ n ≤ 4096 ∧ Reads w w.heap.size 1 A n (byC bs)
theorem Code8.below {w w' : World} {A : Option Addr} {n : Nat} (h : Code8 w A n) (hb : Below w.heap.size w w') : Code8 w' A n := by
  obtain ⟨bs, h1, h2, h3⟩ := h
  exact ⟨bs, h1, h2, (h3.below hb).more hb.size⟩
theorem from_code (A : Option Addr) (n c : Nat) (w : World) (h : Code8 w A n) :
    Calls Tryd.prog 28 #[.slice A n c] w fun e w' => ∃ g, e = .returned (.pointer (some ⟨g, 0, none⟩)) ∧ Src w' w.heap.size g ∧ Below w.heap.size w w' := by
  obtain ⟨bs, rfl, h2, h3⟩ := h
  exact from_any bs A c w h3 h2
end Go.Proofs.YtihhpmhigmegjaaDoor
namespace Go.Proofs.YtihhpmhigmegjaaDoor
open Go.ChangeShapes Go.WideShapes Go.ChangeAt Go.RowKit

/-- Drawn ballots and a number. -/
def DrawnBR (w : World) (e : Ending) (w' : World) : Prop := ∃ (L : List Bal) (r : Int) (Bq : Option Addr) (dq : Nat), e = .returned (.tuple #[.slice Bq L.length dq, .int .i64 r]) ∧ w'.ownsRow w.heap.size 32 3 (.slice Bq L.length dq) L.length (baC L) ∧ (∀ s ∈ L, SmallB s) ∧ L.length ≤ 30 ∧ Below w.heap.size w w'
set_option maxRecDepth 100000 in
set_option maxHeartbeats 1000000 in
theorem drawCar_any (A : Option Addr) (n c : Nat) (w : World) (h : Code8 w A n) :
    Calls Tryd.prog 6 #[.slice A n c] w (DrawnBR w) := by
  have HC := Lib.hid h; clear h
  go_enter Tryd.func6, Tryd.ntmps6
  go_wp2_with fail
  refine (from_code A n c w HC.out).mono ?_
  rintro e w1 ⟨g, rfl, hs1, b1⟩
  have hgb := hs1.base
  have hgl := hs1.lt
  obtain ⟨B, hBe⟩ : ∃ B, B = w.heap.size := ⟨_, rfl⟩
  rw [← hBe] at hs1
  have hB1 : w.heap.size ≤ B := by omega
  have hB2 : B ≤ w1.heap.size := by rw [hBe]; exact b1.size
  have hgw : w.heap.size ≤ g := by omega
  have N1 := Lib.hid (only_of_below b1 : Only w w1 g)
  have S1 := Lib.hid hs1
  clear hs1 b1 hBe HC
  go_wp2_with fail
  refine (listB_any B g w1 S1.out hB2).mono ?_
  rintro e w2 ⟨L, Bq, dq, rfl, own, hsm, hln, hs2, ho2⟩
  have O2 := Lib.hid own
  have HL := Lib.hid hsm
  clear own hsm
  have N2 := Lib.hid (only_trans N1.out ho2)
  have S2 := Lib.hid hs2
  have szq2 : w1.heap.size ≤ w2.heap.size := by have := ho2.size; (try simp at this); omega
  clear ho2 hs2 S1 N1
  go_wp2_with fail
  refine (pick_any [0, 1, 2, 0, 1, 2, 3, -1] w2.heap.size 8 B g (w2.alloc (.cells #[.int .i64 0, .int .i64 1, .int .i64 2, .int .i64 0, .int .i64 1, .int .i64 2, .int .i64 3, .int .i64 (-1)] 2)) (S2.out.alloc _) (by simp; omega) (by simp) (by simp) (Blk.new _ _ _) (by omega)).mono ?_
  rintro e w3 ⟨r, rfl, hr, hs3, ho3⟩
  clear hr
  have O3 := Lib.hid (own_only (O2.out.alloc _) ho3 (by omega))
  clear O2
  have N3 := Lib.hid (only_trans (only_trans N2.out (only_of_below ((Below.refl _ _).alloc (Nat.le_refl _) _))) ho3)
  have S3 := Lib.hid hs3
  have szq3 : w2.heap.size + 1 ≤ w3.heap.size := by have := ho3.size; (try simp at this); omega
  clear ho3 hs3 S2 N2
  go_wp2_with fail
  go_ret2
  exact ⟨L, r, Bq, dq, rfl, own_mono O3.out (by omega), HL.out, hln, only_below N3.out hgw (Nat.le_refl _)⟩
set_option maxRecDepth 100000 in
theorem drawLea_any (A : Option Addr) (n c : Nat) (w : World) (h : Code8 w A n) :
    Calls Tryd.prog 19 #[.slice A n c] w (DrawnBR w) := by
  have HC := Lib.hid h; clear h
  go_enter Tryd.func19, Tryd.ntmps19
  go_wp2_with fail
  refine (drawCar_any A n c w HC.out).mono ?_
  rintro e w3 ⟨L, r, Bq, dq, rfl, own, hsm, hln, b1⟩
  have O3 := Lib.hid own
  have B3 := Lib.hid b1
  have HL := Lib.hid hsm
  clear own hsm b1
  go_wp2_with fail
  go_ret2
  exact ⟨L, r, Bq, dq, rfl, O3.out, HL.out, hln, B3.out⟩
/-- Drawn ballots and two numbers. -/
def DrawnBQ (w : World) (e : Ending) (w' : World) : Prop := ∃ (L : List Bal) (r s : Int) (Bq : Option Addr) (dq : Nat), e = .returned (.tuple #[.slice Bq L.length dq, .int .i64 r, .int .i64 s]) ∧ w'.ownsRow w.heap.size 32 3 (.slice Bq L.length dq) L.length (baC L) ∧ (∀ s ∈ L, SmallB s) ∧ L.length ≤ 30 ∧ Below w.heap.size w w'
set_option maxRecDepth 100000 in
set_option maxHeartbeats 1000000 in
theorem drawQuo_any (A : Option Addr) (n c : Nat) (w : World) (h : Code8 w A n) :
    Calls Tryd.prog 14 #[.slice A n c] w (DrawnBQ w) := by
  have HC := Lib.hid h; clear h
  go_enter Tryd.func14, Tryd.ntmps14
  go_wp2_with fail
  refine (from_code A n c w HC.out).mono ?_
  rintro e w1 ⟨g, rfl, hs1, b1⟩
  have hgb := hs1.base
  have hgl := hs1.lt
  obtain ⟨B, hBe⟩ : ∃ B, B = w.heap.size := ⟨_, rfl⟩
  rw [← hBe] at hs1
  have hB1 : w.heap.size ≤ B := by omega
  have hB2 : B ≤ w1.heap.size := by rw [hBe]; exact b1.size
  have hgw : w.heap.size ≤ g := by omega
  have N1 := Lib.hid (only_of_below b1 : Only w w1 g)
  have S1 := Lib.hid hs1
  clear hs1 b1 hBe HC
  go_wp2_with fail
  refine (listB_any B g w1 S1.out hB2).mono ?_
  rintro e w2 ⟨L, Bq, dq, rfl, own, hsm, hln, hs2, ho2⟩
  have O2 := Lib.hid own
  have HL := Lib.hid hsm
  clear own hsm
  have N2 := Lib.hid (only_trans N1.out ho2)
  have S2 := Lib.hid hs2
  have szq2 : w1.heap.size ≤ w2.heap.size := by have := ho2.size; (try simp at this); omega
  clear ho2 hs2 S1 N1
  go_wp2_with fail
  refine (draw_any 40 B g w2 S2.out (by omega)).mono ?_
  rintro e w3 ⟨x, rfl, x0, x1, _, hs3, ho3⟩
  have hx := x1 (by omega)
  clear x1
  have O3 := Lib.hid (own_only O2.out ho3 (by omega))
  clear O2
  have N3 := Lib.hid (only_trans N2.out ho3)
  have S3 := Lib.hid hs3
  have szq3 : w2.heap.size ≤ w3.heap.size := by have := ho3.size; (try simp at this); omega
  clear ho3 hs3 S2 N2
  go_wp2_with fail
  refine (draw_any 40 B g w3 S3.out (by omega)).mono ?_
  rintro e w4 ⟨y, rfl, y0, y1, _, hs4, ho4⟩
  have hy := y1 (by omega)
  clear y1
  have O4 := Lib.hid (own_only O3.out ho4 (by omega))
  clear O3
  have N4 := Lib.hid (only_trans N3.out ho4)
  have S4 := Lib.hid hs4
  have szq4 : w3.heap.size ≤ w4.heap.size := by have := ho4.size; (try simp at this); omega
  clear ho4 hs4 S3 N3
  go_wp2_with fail
  refine (pick_any [x, y, 1000, 1001, 0, -1] w4.heap.size 6 B g (w4.alloc (.cells #[.int .i64 x, .int .i64 y, .int .i64 1000, .int .i64 1001, .int .i64 0, .int .i64 (-1)] 2)) (S4.out.alloc _) (by simp; omega) (by simp) (by simp) (Blk.new _ _ _) (by omega)).mono ?_
  rintro e w5 ⟨r, rfl, hr, hs5, ho5⟩
  clear hr
  have O5 := Lib.hid (own_only (O4.out.alloc _) ho5 (by omega))
  clear O4
  have N5 := Lib.hid (only_trans (only_trans N4.out (only_of_below ((Below.refl _ _).alloc (Nat.le_refl _) _))) ho5)
  have S5 := Lib.hid hs5
  have szq5 : w4.heap.size + 1 ≤ w5.heap.size := by have := ho5.size; (try simp at this); omega
  clear ho5 hs5 S4 N4
  go_wp2_with fail
  refine (draw_any 101 B g w5 S5.out (by omega)).mono ?_
  rintro e w6 ⟨z, rfl, z0, z1, _, hs6, ho6⟩
  have hz := z1 (by omega)
  clear z1
  have O6 := Lib.hid (own_only O5.out ho6 (by omega))
  clear O5
  have N6 := Lib.hid (only_trans N5.out ho6)
  have S6 := Lib.hid hs6
  have szq6 : w5.heap.size ≤ w6.heap.size := by have := ho6.size; (try simp at this); omega
  clear ho6 hs6 S5 N5
  go_wp2_with fail
  refine (pick_any [50, 100, 0, 101, z] w6.heap.size 5 B g (w6.alloc (.cells #[.int .i64 50, .int .i64 100, .int .i64 0, .int .i64 101, .int .i64 z] 2)) (S6.out.alloc _) (by simp; omega) (by simp) (by simp) (Blk.new _ _ _) (by omega)).mono ?_
  rintro e w7 ⟨s, rfl, hs, hs7, ho7⟩
  clear hs
  have O7 := Lib.hid (own_only (O6.out.alloc _) ho7 (by omega))
  clear O6
  have N7 := Lib.hid (only_trans (only_trans N6.out (only_of_below ((Below.refl _ _).alloc (Nat.le_refl _) _))) ho7)
  have S7 := Lib.hid hs7
  have szq7 : w6.heap.size + 1 ≤ w7.heap.size := by have := ho7.size; (try simp at this); omega
  clear ho7 hs7 S6 N6
  go_wp2_with fail
  exact bodyPost_ret (v := .tuple #[.slice Bq L.length dq, .int .i64 r, .int .i64 s]) (by simp [results, Tryd.results14, go_sem]) rfl ⟨L, r, s, Bq, dq, rfl, own_mono O7.out (by omega), HL.out, hln, only_below N7.out hgw (Nat.le_refl _)⟩
theorem own_farB {w : World} {base : Nat} {e : TypeId} {size n : Nat} {v : Value} {xs : List Value} (h : w.ownsRow base e size v n xs) (r i : Nat) (u : Value) (hr : r < base) : (w.setCell ⟨r, i, none⟩ u).ownsRow base e size v n xs :=
  own_only h (only_set (only_refl w r) i u) hr
theorem below_chainB {a w : World} (h : Below a.heap.size a w) (r : Nat) (hr : a.heap.size ≤ r) (v0 v1 v2 : Value) : Below a.heap.size a (((w.setCell ⟨r, 0, none⟩ v0).setCell ⟨r, 1, none⟩ v1).setCell ⟨r, 2, none⟩ v2) :=
  ((h.setCell (p := ⟨r, 0, none⟩) hr v0).setCell (p := ⟨r, 1, none⟩) hr v1).setCell (p := ⟨r, 2, none⟩) hr v2
/-- Drawn ballots and a ballot. -/
def DrawnBB (w : World) (e : Ending) (w' : World) : Prop := ∃ (L : List Bal) (b : Bal) (Bq : Option Addr) (dq : Nat), e = .returned (.tuple #[.slice Bq L.length dq, b.val]) ∧ w'.ownsRow w.heap.size 32 3 (.slice Bq L.length dq) L.length (baC L) ∧ (∀ s ∈ L, SmallB s) ∧ L.length ≤ 30 ∧ SmallB b ∧ Below w.heap.size w w'
set_option maxRecDepth 100000 in
set_option maxHeartbeats 1000000 in
theorem drawCas_any (A : Option Addr) (n c : Nat) (w : World) (h : Code8 w A n) :
    Calls Tryd.prog 11 #[.slice A n c] w (DrawnBB w) := by
  have HC := Lib.hid h; clear h
  have KN := Lib.hid (blks_one w 32 #[.string ⟨#[]⟩, .int .i64 0, .int .i64 0])
  go_enter Tryd.func11, Tryd.ntmps11
  go_wp2_with fail
  generalize hW : w.alloc (.cells #[.string ⟨#[]⟩, .int .i64 0, .int .i64 0] 32) = W
  obtain ⟨b0, bw, hwz⟩ := KN.out W hW.symm
  have hwz := Nat.le_of_eq hwz.symm
  clear hW KN
  refine (from_code A n c W (HC.out.below bw)).mono ?_
  rintro e w1 ⟨g, rfl, hs1, b1⟩
  have hgb := hs1.base
  have hgl := hs1.lt
  obtain ⟨B, hBe⟩ : ∃ B, B = W.heap.size := ⟨_, rfl⟩
  rw [← hBe] at hs1
  have hB1 : w.heap.size + 1 ≤ B := by omega
  have hB2 : B ≤ w1.heap.size := by rw [hBe]; exact b1.size
  have hgw : w.heap.size + 1 ≤ g := by omega
  have N1 := Lib.hid (only_of_below (bw.trans (b1.mono bw.size)) : Only w w1 g)
  have Kr1 := Lib.hid (b0.below b1 b0.lt)
  have S1 := Lib.hid hs1
  clear hs1 b1 hBe HC b0 bw
  go_wp2_with fail
  refine (listB_any B g w1 S1.out hB2).mono ?_
  rintro e w2 ⟨L, Bq, dq, rfl, own, hsm, hln, hs2, ho2⟩
  have O2 := Lib.hid own
  have HL := Lib.hid hsm
  clear own hsm
  have Kr2 := Lib.hid ((Kr1.out).grown ho2 (by intro e; injection e with e; omega))
  have N2 := Lib.hid (only_trans N1.out ho2)
  have S2 := Lib.hid hs2
  have szq2 : w1.heap.size ≤ w2.heap.size := by have := ho2.size; (try simp at this); omega
  clear ho2 hs2 S1 N1 Kr1
  go_wp2_with fail
  refine (ballot_any B g w2 S2.out (by omega)).mono ?_
  rintro e w3 ⟨⟨nm, ct, wt⟩, rfl, hsb, hs3, ho3⟩
  have O3 := Lib.hid (own_only O2.out ho3 (by omega))
  clear O2
  unfold Bal.val
  dsimp only
  have Kr3 := Lib.hid ((Kr2.out).grown ho3 (by intro e; injection e with e; omega))
  have N3 := Lib.hid (only_trans N2.out ho3)
  have S3 := Lib.hid hs3
  have szq3 : w2.heap.size ≤ w3.heap.size := by have := ho3.size; (try simp at this); omega
  clear ho3 hs3 S2 N2 Kr2
  obtain ⟨fr0, fr1, fr2, fr3, fr4, fr5, fr6, fr7, fr8⟩ := facts_3 Kr3.out
  go_wp2_with fail
  exact bodyPost_ret (v := .tuple #[.slice Bq L.length dq, .agg #[.string nm, .int .i64 ct, .int .i64 wt]]) (by simp [results, Tryd.results11, go_sem, fr6, fr7, fr8]) rfl ⟨L, ⟨nm, ct, wt⟩, Bq, dq, rfl, own_mono (own_farB (own_farB (own_farB O3.out _ _ _ (by omega)) _ _ _ (by omega)) _ _ _ (by omega)) (by omega), HL.out, hln, hsb, below_chainB (only_below N3.out (by omega) (Nat.le_refl _)) _ (Nat.le_refl _) _ _ _⟩
end Go.Proofs.YtihhpmhigmegjaaDoor
namespace Go.Proofs.YtihhpmhigmegjaaDoor
open Go.ChangeShapes Go.WideShapes Go.ChangeAt Go.RowKit Go.Sort

theorem own_none {w : World} {base : Nat} {e : TypeId} {size n c : Nat} {A : Option Addr} {xs : List Value} (h : w.ownsRow base e size (.slice A n c) n xs) : A = none → c = 0 := by
  intro hA
  subst hA
  rcases h.2 with ⟨h1, _⟩ | ⟨g, cap, cs, h1, _⟩
  · injection h1 with _ _ h2
  · injection h1 with h2; cases h2
set_option maxRecDepth 100000 in
theorem likeBal_same (L : List Bal) (hm : L.length ≤ 1048576) (A A' : Option Addr) (c c' : Nat) (w : World) (hr : Reads w w.heap.size 3 A L.length (baC L)) (hr' : Reads w w.heap.size 3 A' L.length (baC L)) :
    Calls Tryd.prog 17 #[.slice A L.length c, .slice A' L.length c'] w fun e w' => e = .returned (.bool true) ∧ Below w.heap.size w w' := by
  have HR := Lib.hid hr; have HR' := Lib.hid hr'; clear hr hr'
  go_enter Tryd.func17, Tryd.ntmps17
  go_wp2_with fail
  go_loopw [5] (fun v5 wr => ∃ k : Nat, k ≤ L.length ∧ Hid (Below w.heap.size w wr) ∧ v5 = .int .i64 k) (fun i _ => L.length - (intOf i).toNat)
  case atStart => exact ⟨0, by omega, Below.refl _ _, rfl⟩
  case round =>
    obtain ⟨k, hk, BW, rfl⟩ := hrel
    by_cases hlt : k < L.length
    · obtain ⟨ab, ao, rfl, hadb, hcell⟩ := (HR.out.below BW.out).2 (by omega)
      obtain ⟨ab', ao', rfl, hadb', hcell'⟩ := (HR'.out.below BW.out).2 (by omega)
      obtain ⟨e0, e1, e2⟩ := baC_get L k hlt
      have c0 := hcell _ _ e0
      have c1 := hcell _ _ e1
      have c2 := hcell _ _ e2
      have d0 := hcell' _ _ e0
      have d1 := hcell' _ _ e1
      have d2 := hcell' _ _ e2
      rw [← Nat.add_assoc] at c1 c2 d1 d2
      clear hcell hcell' e0 e1 e2
      have t0 := cell_regrown c0
      have t1 := cell_regrown c1
      have t2 := cell_regrown c2
      have s0 := cell_regrown d0
      have s1 := cell_regrown d1
      have s2 := cell_regrown d2
      clear c0 c1 c2 d0 d1 d2
      generalize L[k] = x at t0 t1 t2 s0 s1 s2
      have k1 : (0 : Int) ≤ (k : Int) := by omega
      have k2 : (k : Int) < (L.length : Int) := by omega
      go_upto_region 6 with (fail)
      refine wp_region_quiet_below (by kernel_rfl) (by kernel_rfl) ?_; (repeat (first | go_big_quiet_step (fail))); refine wpQuiet_nil ?_; intro _ hw'; obtain ⟨⟨dq, osq⟩, rfl⟩ := hw'
      have B2 := Lib.hid (BW.out.trans ((below_regrown wr dq osq).mono BW.out.size))
      generalize grow (redrawn wr dq) osq = w2 at B2 ⊢
      clear t0 t1 t2 s0 s1 s2
      go_wp2_with fail
      go_roundw
      case rel => exact ⟨k + 1, by omega, B2.out, by go_num⟩
      case measure => simp [intOf]; omega
    · obtain rfl : k = L.length := by omega
      go_wp2_with fail
      go_ret
      exact ⟨rfl, BW.out⟩
set_option maxRecDepth 100000 in
theorem likeTx_same (L : List ByteArray) (hm : L.length ≤ 1048576) (A A' : Option Addr) (c c' : Nat) (w : World) (hr : Reads w w.heap.size 1 A L.length (txC L)) (hr' : Reads w w.heap.size 1 A' L.length (txC L)) :
    Calls Tryd.prog 26 #[.slice A L.length c, .slice A' L.length c'] w fun e w' => e = .returned (.bool true) ∧ Below w.heap.size w w' := by
  have HR := Lib.hid hr; have HR' := Lib.hid hr'; clear hr hr'
  go_enter Tryd.func26, Tryd.ntmps26
  go_wp2_with fail
  go_loopw [5] (fun v5 wr => ∃ k : Nat, k ≤ L.length ∧ Hid (Below w.heap.size w wr) ∧ v5 = .int .i64 k) (fun i _ => L.length - (intOf i).toNat)
  case atStart => exact ⟨0, by omega, Below.refl _ _, rfl⟩
  case round =>
    obtain ⟨k, hk, BW, rfl⟩ := hrel
    by_cases hlt : k < L.length
    · obtain ⟨ab, ao, rfl, hadb, hcell⟩ := (HR.out.below BW.out).2 (by omega)
      obtain ⟨ab', ao', rfl, hadb', hcell'⟩ := (HR'.out.below BW.out).2 (by omega)
      have c0 := cell_regrown (hcell _ _ (txC_get L k hlt))
      have c1 := cell_regrown (hcell' _ _ (txC_get L k hlt))
      clear hcell hcell'
      generalize L[k] = x at c0 c1
      have k1 : (0 : Int) ≤ (k : Int) := by omega
      have k2 : (k : Int) < (L.length : Int) := by omega
      go_upto_region 6 with (fail)
      refine wp_region_quiet_below (by kernel_rfl) (by kernel_rfl) ?_; (repeat (first | go_big_quiet_step (fail))); refine wpQuiet_nil ?_; intro _ hw'; obtain ⟨⟨dq, osq⟩, rfl⟩ := hw'
      have B2 := Lib.hid (BW.out.trans ((below_regrown wr dq osq).mono BW.out.size))
      generalize grow (redrawn wr dq) osq = w2 at B2 ⊢
      clear c0 c1
      go_wp2_with fail
      go_roundw
      case rel => exact ⟨k + 1, by omega, B2.out, by go_num⟩
      case measure => simp [intOf]; omega
    · obtain rfl : k = L.length := by omega
      go_wp2_with fail
      go_ret
      exact ⟨rfl, BW.out⟩
/-- Whether a list holds a text. -/
def inT (L : List ByteArray) (s : ByteArray) : Bool := decide (0 ≤ ixS s L)
theorem inT_drop (L : List ByteArray) (s : ByteArray) {k : Nat} (h : k < L.length) : inT (L.drop k) s = ((L[k].toList == s.toList) || inT (L.drop (k + 1)) s) := by
  unfold inT
  rw [str_eq, Bool.eq_iff_iff]
  simp only [decide_eq_true_eq, Bool.or_eq_true, ixS_mem]
  rw [List.drop_eq_getElem_cons h, List.mem_cons]
  exact ⟨fun h => h.imp (fun h => h.symm) id, fun h => h.imp (fun h => h.symm) id⟩
set_option maxRecDepth 100000 in
theorem hasText_any (L : List ByteArray) (v : ByteArray) (hm : L.length ≤ 1048576) (A : Option Addr) (c : Nat) (w : World) (hr : Reads w w.heap.size 1 A L.length (txC L)) :
    Calls Tryd.prog 27 #[.slice A L.length c, .string v] w fun e w' => e = .returned (.bool (inT L v)) ∧ Below w.heap.size w w' := by
  have HR := Lib.hid hr; clear hr
  have HD := Lib.hid (fun k (h : k < L.length) => inT_drop L v h)
  have HE := Lib.hid (show inT (L.drop L.length) v = false by rw [List.drop_length]; unfold inT; rw [decide_eq_false_iff_not, ixS_mem]; simp)
  obtain ⟨r, hr⟩ : ∃ r, inT L v = r := ⟨_, rfl⟩
  have H0 := Lib.hid (show inT (L.drop 0) v = r from hr)
  rw [hr]
  clear hr
  go_enter Tryd.func27, Tryd.ntmps27
  go_wp2_with fail
  go_loopw [5] (fun v5 wr => ∃ k : Nat, k ≤ L.length ∧ Hid (inT (L.drop k) v = r) ∧ Hid (Below w.heap.size w wr) ∧ v5 = .int .i64 k) (fun i _ => L.length - (intOf i).toNat)
  case atStart => exact ⟨0, by omega, H0.out, Below.refl _ _, rfl⟩
  case round =>
    obtain ⟨k, hk, HK, BW, rfl⟩ := hrel
    by_cases hlt : k < L.length
    · obtain ⟨ab, ao, rfl, hadb, hcell⟩ := (HR.out.below BW.out).2 (by omega)
      have c0 := hcell _ _ (txC_get L k hlt)
      have HN := Lib.hid ((HD.out k hlt).symm.trans HK.out)
      clear hcell
      generalize L[k] = x at c0 HN
      cases hq : (x.toList == v.toList)
      · have HK1 := Lib.hid (show inT (L.drop (k + 1)) v = r by have := HN.out; rw [hq, Bool.false_or] at this; exact this)
        clear HN HK
        go_wp2_with fail
        go_roundw
        case rel => exact ⟨k + 1, by omega, HK1.out, BW.out, by go_num⟩
        case measure => simp [intOf]; omega
      · have HR1 := Lib.hid (show true = r by have := HN.out; rw [hq, Bool.true_or] at this; exact this)
        clear HN HK
        go_wp2_with fail
        go_ret
        exact ⟨ret_bool HR1.out, BW.out⟩
    · obtain rfl : k = L.length := by omega
      have HR1 := Lib.hid (show false = r from HE.out.symm.trans HK.out)
      clear HK
      go_wp2_with fail
      go_ret
      exact ⟨ret_bool HR1.out, BW.out⟩
set_option maxRecDepth 100000 in
theorem big_any (A : Option Addr) (n c : Nat) (hn : n ≤ 9223372036854775807) (w : World) :
    Calls Tryd.prog 5 #[.slice A n c] w fun e w' => e = .returned (.bool (decide ((4096 : Int) < n))) ∧ w = w' := by
  go_enter Tryd.func5, Tryd.ntmps5
  go_wp2
  go_ret
  exact ⟨rfl, rfl⟩
end Go.Proofs.YtihhpmhigmegjaaDoor
namespace Go.Proofs.YtihhpmhigmegjaaDoor
open Go.ChangeShapes Go.WideShapes Go.ChangeAt Go.RowKit Go.Sort

theorem seek_at {α : Type} {f : Nat → Option α} {x : α} : ∀ {c i k : Nat}, i ≤ k → k < i + c → (∀ j, i ≤ j → j < k → f j = none) → f k = some x → seek f c i = some x
  | 0, i, k, h1, h2, _, _ => by omega
  | c + 1, i, k, h1, h2, hn, hx => by
    rw [seek]
    by_cases h : i = k
    · subst h; rw [hx]
    · rw [hn i (Nat.le_refl _) (by omega)]
      exact seek_at (by omega) (by omega) (fun j a b => hn j (by omega) b) hx
theorem seek_end {α : Type} {f : Nat → Option α} : ∀ {c i : Nat}, (∀ j, i ≤ j → j < i + c → f j = none) → seek f c i = none
  | 0, _, _ => rfl
  | c + 1, i, hn => by
    rw [seek, hn i (Nat.le_refl _) (by omega)]
    exact seek_end (fun j a b => hn j (by omega) (by omega))
theorem own_made0 (w : World) (t : TypeId) : (w.alloc (.cells #[] t)).ownsRow w.heap.size t 1 (.slice (some ⟨w.heap.size, 0, none⟩) 0 0) 0 [] := World.ownsRow_made (e := t) (size := 1) w #[] 0 (Nat.le_refl _) (by decide) rfl
theorem own_made1 (w : World) (o : Obj) (t : TypeId) : ((w.alloc o).alloc (.cells #[] t)).ownsRow (w.heap.size + 1) t 1 (.slice (some ⟨w.heap.size + 1, 0, none⟩) 0 0) 0 [] := by
  have := own_made0 (w.alloc o) t
  simpa using this
theorem new_at0 (w : World) (t : TypeId) (u : Value) (o : Obj) : Reads ((w.alloc (.cells #[u] t)).alloc o) (w.heap.size + 1) 1 (some ⟨w.heap.size, 0, none⟩) 1 [u] := (new_str1 w t u).alloc (by simp) o
theorem new_at1 (w : World) (o : Obj) (t : TypeId) (u : Value) : Reads ((w.alloc o).alloc (.cells #[u] t)) (w.heap.size + 1 + 1) 1 (some ⟨w.heap.size + 1, 0, none⟩) 1 [u] := by
  have := new_str1 (w.alloc o) t u
  simpa using this
theorem reads_grown {w w1 : World} {g : Nat} {u : Value} {row : Option Nat} (h : Reads w (g + 1) 1 (some ⟨g, 0, none⟩) 1 [u]) (hg : w.grownBy w1 row) (hl : g < w.heap.size) (hr : row ≠ some g) : Reads w1 (g + 1) 1 (some ⟨g, 0, none⟩) 1 [u] :=
  ⟨rfl, fun _ => ⟨g, 0, rfl, by omega, fun j x hx => by
    obtain ⟨b, off, e, _, hc⟩ := h.2 (by omega)
    cases e
    exact (World.cell?_of_block (hg.block g hl (fun e => hr e.symm))).trans (hc j x hx)⟩⟩
/-- What the search gives: the members found, or that there are none. -/
def FewIs (o : Option (List Nat)) (xs : List Bal) (base : Nat) (v : Value) (w : World) : Prop := ∀ out, o = some out → w.ownsRow base 9 1 v out.length (txC (out.map (nmAt xs)))
set_option maxRecDepth 100000 in
set_option maxHeartbeats 4000000 in
theorem few_any {xs : List Bal} (ha : areB xs = true) (rule : Int) (hf : Fits xs) (A : Option Addr) (c : Nat) (m : Nat) : ∀ (M : Int) (_ : M = m) (ch : List Nat) (fr : Nat) (F : Int) (_ : F = fr) (_ : fr ≤ xs.length) (_ : ∀ i ∈ ch, i < xs.length) (_ : ch.length + m ≤ 10) (base : Nat) (B : Option Addr) (d : Nat) (w : World) (_ : Reads w w.heap.size 3 A xs.length (baC xs)) (_ : w.ownsRow base 9 1 (.slice B ch.length d) ch.length (txC (ch.map (nmAt xs)))) (_ : base ≤ w.heap.size),
    Calls Tryd.prog 57 #[.slice A xs.length c, .int .i64 rule, .slice B ch.length d, .int .i64 F, .int .i64 M] w fun e w' => ∃ v, e = .returned (.tuple #[v, .bool (fewI xs.length (goodB xs rule) m ch fr).isSome]) ∧ FewIs (fewI xs.length (goodB xs rule) m ch fr) xs base v w' ∧ Below w.heap.size w w' := by
  induction m with
  | zero =>
    intro M hM ch fr F hF hfr hch hcl base B d w hr hown hb
    obtain rfl : M = 0 := hM
    refine (few_zero ha rule hf ch F hch (by omega) A B c d w hr (Reads.of_own hown)).mono ?_
    rintro e w' ⟨rfl, bl⟩
    refine ⟨.slice B ch.length d, ?_, fun out ho => ?_, bl⟩
    · rw [fewI]
      split
      · rename_i h; rw [h]; rfl
      · rename_i h; rw [show goodB xs rule ch = false by simpa using h]; rfl
    · rw [fewI] at ho
      split at ho
      · cases ho; exact own_below hown bl
      · cases ho
  | succ m ih =>
    intro M hM ch fr F hF hfr hch hcl base B d w hr hown hb
    have hm := hf.1
    have HR := Lib.hid hr; have HO := Lib.hid hown; clear hr hown
    have IH := Lib.hid (fun M h => ih M h); clear ih
    have hM0 : (M == 0) = false := by simp; omega
    have hMM := Lib.hid hM
    obtain ⟨i0, hi0, hz0, hz1, hz2⟩ := info_parts infoTx
    have HFew := Lib.hid (show fewI xs.length (goodB xs rule) (m + 1) ch fr = seek (fun i => fewI xs.length (goodB xs rule) m (ch ++ [i]) (i + 1)) (xs.length - fr) fr from rfl)
    clear hM
    go_enter Tryd.func57, Tryd.ntmps57
    go_wp2_with fail
    subst hF
    go_loopw [15] (fun v15 wr => ∃ k : Nat, fr ≤ k ∧ k ≤ xs.length ∧ Hid (∀ j, fr ≤ j → j < k → fewI xs.length (goodB xs rule) m (ch ++ [j]) (j + 1) = none) ∧ Hid (Below w.heap.size w wr) ∧ v15 = .int .i64 k) (fun i _ => xs.length - (intOf i).toNat)
    case atStart => exact ⟨fr, Nat.le_refl _, hfr, fun j a b => by omega, Below.refl _ _, rfl⟩
    case round =>
      obtain ⟨k, hk0, hk, HK, BW, rfl⟩ := hrel
      by_cases hlt : k < xs.length
      · have hwz := BW.out.size
        have RX := Lib.hid ((HR.out.below BW.out).more hwz)
        have OW := Lib.hid (own_below HO.out BW.out)
        have RB := Lib.hid (Reads.of_own OW.out)
        obtain ⟨ab, ao, rfl, hadb, hcell⟩ := RX.out.2 (by omega)
        have hadb' : (⟨ab, ao + k * 3, none⟩ : Addr).block < wr.heap.size := hadb
        have d0 := hcell _ _ (baC_get xs k hlt).1
        rw [← nmAt_eq hlt] at d0
        have BZ : base ≤ wr.heap.size := by omega
        have hM1 : IntKind.i64.wrap (M - 1) = M - 1 := IntWalk.i64_in _ (by have := hMM.out; omega)
        have hk1 : IntKind.i64.wrap ((k : Int) + 1) = (k : Int) + 1 := IntWalk.i64_in _ (by omega)
        have IHk := Lib.hid (fun (A2 : Option Addr) (cc2 : Nat) (w2 : World) (h1 : Reads w2 w2.heap.size 3 (some ⟨ab, ao, none⟩) xs.length (baC xs)) (h2 : w2.ownsRow base 9 1 (.slice A2 (ch.length + 1) cc2) (ch.length + 1) (txC (ch.map (nmAt xs)) ++ [.string (nmAt xs k)])) (h3 : wr.heap.size ≤ w2.heap.size) => (show Calls Tryd.prog 57 #[.slice (some ⟨ab, ao, none⟩) xs.length c, .int .i64 rule, .slice A2 (ch.length + 1) cc2, .int .i64 ((k : Int) + 1), .int .i64 (M - 1)] w2 fun e w' => ∃ v, e = .returned (.tuple #[v, .bool (fewI xs.length (goodB xs rule) m (ch ++ [k]) (k + 1)).isSome]) ∧ FewIs (fewI xs.length (goodB xs rule) m (ch ++ [k]) (k + 1)) xs base v w' ∧ Below w2.heap.size w2 w' from by
          have hl : (ch ++ [k]).length = ch.length + 1 := by simp
          have := IH.out (M - 1) (by have := hMM.out; omega) (ch ++ [k]) (k + 1) ((k : Int) + 1) (by push_cast; rfl) (by omega) (fun i hi => by rcases List.mem_append.1 hi with h | h; exact hch i h; (simp at h; omega)) (by rw [hl]; omega) base A2 cc2 w2
          rw [hl] at this
          exact this h1 (by rw [List.map_append, show txC (ch.map (nmAt xs) ++ [k].map (nmAt xs)) = txC (ch.map (nmAt xs)) ++ [.string (nmAt xs k)] by simp [txC]]; exact h2) (by omega)))
        clear hcell
        generalize nmAt xs k = nm at d0 IHk
        go_upto_region 15 with (fail)
        go_cut [16, 17] (fun v16 v17 wx => ∃ v, v16 = v ∧ v17 = .bool (fewI xs.length (goodB xs rule) m (ch ++ [k]) (k + 1)).isSome ∧ Hid (FewIs (fewI xs.length (goodB xs rule) m (ch ++ [k]) (k + 1)) xs base v wx) ∧ Hid (Below wr.heap.size wr wx))
        case first =>
          go_region_held3 (fun w' => w'.cell? ⟨ab, ao + k * 3, none⟩ = some (.string nm))
            (first | exact k0 | (go_keep; done) | ((try dsimp only); (repeat' apply And.intro) <;> (go_keep; done)))
            (first | (refine step_append_any _ (by rfl) (.tmp 56) (.tmp 57) _ (by rfl) wr.heap.size 9 i0 _ 1 16 Tryd.underlying43 hi0 hz0 hz1 hz2 rfl (by omega) (.slice (some ⟨wr.heap.size, 0, none⟩) 0 0) 0 [] (by rfl) (World.ownsRow.drew ((own_made0 wr _).alloc _)) wr.heap.size B ch.length d (txC (ch.map (nmAt xs))) (by rfl) (RB.out.below ((((Below.refl wr.heap.size wr).alloc (Nat.le_refl _) (.cells #[] 9)).alloc (by simp) (.cells #[.string nm] 9))).drew) (txC_one _) (by simp only [maxLen]; omega) (by omega) (by first | (simp; done) | (simp; omega)) ?_; intro v1 w1 hown1' hg1 hat1; have hown1 := (show w1.ownsRow wr.heap.size 9 1 v1 ch.length (txC (ch.map (nmAt xs))) by simpa using hown1'); clear hown1'; obtain ⟨A1, cc1, rfl, _⟩ := own_shape hown1; have hb1 : Below wr.heap.size wr w1 := below_own ((((Below.refl wr.heap.size wr).alloc (Nat.le_refl _) (.cells #[] 9)).alloc (by simp) (.cells #[.string nm] 9))).drew (World.ownsRow.drew ((own_made0 wr _).alloc _)) hg1 (Nat.le_refl _) (by first | (simp; done) | (simp; omega)); have k0 := (hb1.cell (p := ⟨ab, ao + k * 3, none⟩) hadb').trans d0; have rc1 : Reads w1 ((wr.heap.size + 1) + 1) 1 (some ⟨(wr.heap.size + 1), 0, none⟩) 1 [.string nm] := reads_grown (Reads.drew (new_at1 wr (.cells #[] 9) 9 (.string nm))) hg1 (by first | (simp; done) | (simp; omega)) (by simp [Value.ownBlock])) | (refine step_append_any _ (by rfl) (.tmp 56) (.tmp 57) _ (by rfl) wr.heap.size 9 i0 _ 1 16 Tryd.underlying43 hi0 hz0 hz1 hz2 rfl (by omega) (.slice (some ⟨wr.heap.size + 1, 0, none⟩) 0 0) 0 [] (by rfl) (World.ownsRow.drew (own_mono (own_made1 wr (.cells #[.string nm] 9) _) (by simp))) wr.heap.size B ch.length d (txC (ch.map (nmAt xs))) (by rfl) (RB.out.below ((((Below.refl wr.heap.size wr).alloc (Nat.le_refl _) (.cells #[.string nm] 9)).alloc (by simp) (.cells #[] 9))).drew) (txC_one _) (by simp only [maxLen]; omega) (by omega) (by first | (simp; done) | (simp; omega)) ?_; intro v1 w1 hown1' hg1 hat1; have hown1 := (show w1.ownsRow wr.heap.size 9 1 v1 ch.length (txC (ch.map (nmAt xs))) by simpa using hown1'); clear hown1'; obtain ⟨A1, cc1, rfl, _⟩ := own_shape hown1; have hb2 : Below wr.heap.size wr w1 := below_own ((((Below.refl wr.heap.size wr).alloc (Nat.le_refl _) (.cells #[.string nm] 9)).alloc (by simp) (.cells #[] 9))).drew (World.ownsRow.drew (own_mono (own_made1 wr (.cells #[.string nm] 9) _) (by simp))) hg1 (Nat.le_refl _) (by first | (simp; done) | (simp; omega)); have k0 := (hb2.cell (p := ⟨ab, ao + k * 3, none⟩) hadb').trans d0; have rc2 : Reads w1 (wr.heap.size + 1) 1 (some ⟨wr.heap.size, 0, none⟩) 1 [.string nm] := reads_grown (Reads.drew (new_at0 wr 9 (.string nm) (.cells #[] 9))) hg1 (by first | (simp; done) | (simp; omega)) (by simp [Value.ownBlock])) | (refine step_append_any _ (by rfl) (.tmp 56) (.tmp 57) _ (by rfl) wr.heap.size 9 i0 _ 1 16 Tryd.underlying43 hi0 hz0 hz1 hz2 rfl (by omega) (.slice (some ⟨wr.heap.size, 0, none⟩) 0 0) 0 [] (by rfl) (World.ownsRow.drew (own_made0 wr _)) wr.heap.size B ch.length d (txC (ch.map (nmAt xs))) (by rfl) (RB.out.below (((Below.refl wr.heap.size wr).alloc (Nat.le_refl _) (.cells #[] 9))).drew) (txC_one _) (by simp only [maxLen]; omega) (by omega) (by first | (simp; done) | (simp; omega)) ?_; intro v1 w1 hown1' hg1 hat1; have hown1 := (show w1.ownsRow wr.heap.size 9 1 v1 ch.length (txC (ch.map (nmAt xs))) by simpa using hown1'); clear hown1'; obtain ⟨A1, cc1, rfl, _⟩ := own_shape hown1; have hb0 : Below wr.heap.size wr w1 := below_own (((Below.refl wr.heap.size wr).alloc (Nat.le_refl _) (.cells #[] 9))).drew (World.ownsRow.drew (own_made0 wr _)) hg1 (Nat.le_refl _) (by first | (simp; done) | (simp; omega)); have k0 := (hb0.cell (p := ⟨ab, ao + k * 3, none⟩) hadb').trans d0) | (refine step_append_any _ (by rfl) (.tmp 58) (.tmp 64) _ (by rfl) wr.heap.size 9 i0 _ 1 16 Tryd.underlying43 hi0 hz0 hz1 hz2 rfl (by omega) (.slice A1 ch.length cc1) ch.length (txC (ch.map (nmAt xs))) (by rfl) (hown1.alloc _) _ (some ⟨w1.heap.size, 0, none⟩) 1 1 [.string nm] (by rfl) (new_str1 w1 _ _) (by simp [Value.oneCell']) (by simp only [maxLen]; omega) (by omega) (by have := hb0.size; simp; omega) ?_; intro v2 w2 hown2 hg2 hat2; have hb : Below wr.heap.size wr w2 := below_own (hb0.alloc hb0.size _) (hown1.alloc _) hg2 (Nat.le_refl _) (by have := hb0.size; simp; omega); obtain ⟨A2, cc2, rfl, _⟩ := own_shape hown2; have k0 := (hb.cell (p := ⟨ab, ao + k * 3, none⟩) hadb').trans d0) | (refine step_append_any _ (by rfl) (.tmp 58) (.tmp 64) _ (by rfl) wr.heap.size 9 i0 _ 1 16 Tryd.underlying43 hi0 hz0 hz1 hz2 rfl (by omega) (.slice A1 ch.length cc1) ch.length (txC (ch.map (nmAt xs))) (by rfl) hown1 _ (some ⟨(wr.heap.size + 1), 0, none⟩) 1 1 [.string nm] (by rfl) rc1 (by simp [Value.oneCell']) (by simp only [maxLen]; omega) (by omega) hb1.size ?_; intro v2 w2 hown2 hg2 hat2; have hb : Below wr.heap.size wr w2 := below_own hb1 hown1 hg2 (Nat.le_refl _) hb1.size; obtain ⟨A2, cc2, rfl, _⟩ := own_shape hown2; have k0 := (hb.cell (p := ⟨ab, ao + k * 3, none⟩) hadb').trans d0) | (refine step_append_any _ (by rfl) (.tmp 58) (.tmp 64) _ (by rfl) wr.heap.size 9 i0 _ 1 16 Tryd.underlying43 hi0 hz0 hz1 hz2 rfl (by omega) (.slice A1 ch.length cc1) ch.length (txC (ch.map (nmAt xs))) (by rfl) hown1 _ (some ⟨wr.heap.size, 0, none⟩) 1 1 [.string nm] (by rfl) rc2 (by simp [Value.oneCell']) (by simp only [maxLen]; omega) (by omega) hb2.size ?_; intro v2 w2 hown2 hg2 hat2; have hb : Below wr.heap.size wr w2 := below_own hb2 hown1 hg2 (Nat.le_refl _) hb2.size; obtain ⟨A2, cc2, rfl, _⟩ := own_shape hown2; have k0 := (hb.cell (p := ⟨ab, ao + k * 3, none⟩) hadb').trans d0) | (go_at_call 57; refine (IHk.out A2 cc2 w2 (RX.out.below hb |>.more hb.size) (own_mono hown2 BZ) hb.size).mono ?_; rintro e w3 ⟨v3, rfl, hsp, bl3⟩; have k0 := ((hb.trans (bl3.mono hb.size)).cell (p := ⟨ab, ao + k * 3, none⟩) hadb').trans d0) | fail)
          all_goals
            go_wp2_with fail
            go_meet
            exact ⟨_, rfl, rfl, hsp, hb.trans (bl3.mono hb.size)⟩
        case rest =>
          obtain ⟨v, rfl, rfl, HSp, HBx⟩ := hcut
          have HBz := Lib.hid (BW.out.trans (HBx.out.mono BW.out.size))
          cases hq : fewI xs.length (goodB xs rule) m (ch ++ [k]) (k + 1)
          · have HNo := Lib.hid hq; clear hq
            go_wp2_with fail
            go_roundw
            case rel => exact ⟨k + 1, by omega, by omega, fun j a b => by
                by_cases hjk : j = k
                · subst hjk; exact HNo.out
                · exact HK.out j a (by omega), HBz.out, by go_num⟩
            case measure => simp [intOf]; omega
          · rename_i out
            have HS := Lib.hid (HFew.out.trans (seek_at (f := fun i => fewI xs.length (goodB xs rule) m (ch ++ [i]) (i + 1)) hk0 (by omega : k < fr + (xs.length - fr)) HK.out hq))
            have HV := Lib.hid (HSp.out out hq)
            clear hq
            go_wp2_with fail
            go_ret2
            exact ⟨_, by rw [HS.out]; rfl, (fun out' ho' => by rw [HS.out] at ho'; cases ho'; exact HV.out), HBz.out⟩
      · obtain rfl : k = xs.length := by omega
        have hs := seek_end (f := fun i => fewI xs.length (goodB xs rule) m (ch ++ [i]) (i + 1)) (c := xs.length - fr) (i := fr) (fun j a b => HK.out j a (by omega))
        have HS := Lib.hid hs; clear hs
        go_wp2_with fail
        go_ret2
        exact ⟨_, by rw [HFew.out, HS.out]; rfl, (fun out' ho' => by rw [HFew.out, HS.out] at ho'; cases ho'), BW.out⟩
end Go.Proofs.YtihhpmhigmegjaaDoor
namespace Go.Proofs.YtihhpmhigmegjaaDoor
open Go.ChangeShapes Go.WideShapes Go.ChangeAt Go.RowKit

theorem wt_of {xs : List Bal} (h : areB xs = true) : (∀ b ∈ xs, 0 ≤ b.weight) ∧ ∀ b ∈ xs, -1 ≤ b.choice ∧ b.choice ≤ 1 := by
  have := (fits_of h).2
  refine ⟨fun b hb => ?_, fun b hb => ?_⟩
  · have := this b hb; simp [balB, inB] at this; omega
  · have := this b hb; simp [balB, inB] at this; omega
def leastV (xs : List Bal) (rule : Int) : Int × Int := if vcodeB xs rule = 0 then leastT xs rule else (0, vcodeB xs rule)
theorem find_range {p : Nat → Bool} {n k : Nat} (hk : k < n) (h : ∀ j, j < k → p j = false) (hp : p k = true) : (List.range n).find? p = some k := by
  rw [List.find?_range_eq_some]
  exact ⟨hp, by simp; omega, fun j hj => by rw [h j hj]; rfl⟩
set_option maxRecDepth 100000 in
set_option maxHeartbeats 2000000 in
theorem specLeast_any (xs : List Bal) (rule : Int) (A : Option Addr) (c : Nat) (w : World) (h : HasBal w xs A) :
    Calls Tryd.prog 21 #[.slice A xs.length c, .int .i64 rule] w fun e w' => e = .returned (.tuple #[.int .i64 (leastV xs rule).1, .int .i64 (leastV xs rule).2]) ∧ Below w.heap.size w w' := by
  have H := Lib.hid h; clear h
  by_cases hc : vcodeB xs rule = 0
  · have HT := Lib.hid (show leastV xs rule = leastT xs rule by rw [leastV, if_pos hc])
    have HF := Lib.hid (fits_of (vcode_zero hc).1).1
    have hm := HF.out.1
    have HC := Lib.hid hc; clear hc
    cases hcar : carB xs rule
    all_goals
      have HQ := Lib.hid hcar; clear hcar
      go_enter Tryd.func21, Tryd.ntmps21
      go_wp2_with fail
      refine (specCode_any xs _ _ _ _ H.out).mono ?_; rw [HC.out]; rintro e w1 ⟨rfl, b1⟩
      have H1 := Lib.hid (H.out.below b1)
      go_wp2_with fail
      refine (specCar_any xs _ HF.out _ _ _ H1.out.1).mono ?_; rw [HQ.out]; rintro e w' ⟨rfl, rfl⟩
      go_wp2_with fail
      go_loopw [8] (fun v8 wr => ∃ k : Nat, k ≤ xs.length ∧ Hid (∀ j, j < k → turnS rule (!carB xs rule) (j + 1) [] xs = false) ∧ Hid (Below w.heap.size w wr) ∧ v8 = .int .i64 ((k : Int) + 1)) (fun i _ => xs.length + 1 - (intOf i).toNat)
      case atStart => exact ⟨0, by omega, fun j hj => by omega, b1, rfl⟩
      case round =>
        obtain ⟨k, hk, HK, BW, rfl⟩ := hrel
        by_cases hlt : k < xs.length
        · have R := Lib.hid ((H.out.1.below BW.out).more BW.out.size)
          have hk1 : IntKind.i64.wrap ((k : Int) + 1 + 1) = (k : Int) + 1 + 1 := IntWalk.i64_in _ (by omega)
          cases ht : turnS rule (!carB xs rule) (k + 1) [] xs
          all_goals
            have HX := Lib.hid ht; clear ht
            have DI := fun tgt (h : tgt = !carB xs rule) N (hN : N = ((k + 1 : Nat) : Int)) => (show Calls Tryd.prog 49 #[.slice A xs.length c, .int .i64 rule, .int .i64 0, .int .i64 N, .bool tgt] wr fun e w' => e = .returned (.bool (turnS rule (!carB xs rule) (k + 1) [] xs)) ∧ Below wr.heap.size wr w' from by subst h; exact turns_any rule _ (k + 1) N hN (by omega) xs HF.out 0 0 rfl (by omega) A c wr R.out)
            rw [HX.out] at DI
            have DI2 := Lib.hid DI; clear DI
            go_wp2_with fail
            have D3 := DI2.out _ rfl
            rw [HQ.out] at D3
            simp only [Bool.not_false, Bool.not_true] at D3
            with_reducible refine (D3 _ (by omega)).mono ?_
            clear D3
            rintro e w2 ⟨rfl, b3⟩
            have B3 := Lib.hid (BW.out.trans (b3.mono BW.out.size)); clear b3
            go_wp2_with fail
          · go_roundw
            case rel => exact ⟨k + 1, by omega, fun j hj => by
                by_cases hjk : j = k
                · subst hjk; exact HX.out
                · exact HK.out j (by omega), B3.out, by go_num⟩
            case measure => simp [intOf]; omega
          · have HL := Lib.hid (show leastV xs rule = ((k : Int) + 1, 0) by rw [HT.out, leastT, find_range hlt HK.out HX.out])
            go_ret2
            exact ⟨by rw [HL.out]; first | done | rfl, B3.out⟩
        · obtain rfl : k = xs.length := by omega
          have HL := Lib.hid (show leastV xs rule = (0, 4) by rw [HT.out, leastT, List.find?_eq_none.2 (fun m hm => by rw [HK.out m (by simpa using hm)]; decide)])
          go_wp2_with fail
          go_ret2
          exact ⟨by rw [HL.out]; first | done | rfl, BW.out⟩
  · have HT := Lib.hid (show leastV xs rule = (0, vcodeB xs rule) by rw [leastV, if_neg hc])
    have hne : (vcodeB xs rule != 0) = true := by rw [bne_iff_ne]; exact hc
    clear hc
    go_enter Tryd.func21, Tryd.ntmps21
    go_wp2_with fail
    refine (specCode_any xs _ _ _ _ H.out).mono ?_; rintro e w1 ⟨rfl, b1⟩
    go_wp2_with fail
    go_ret2
    exact ⟨by rw [HT.out]; first | done | rfl, b1⟩
end Go.Proofs.YtihhpmhigmegjaaDoor
namespace Go.Proofs.YtihhpmhigmegjaaDoor
open Go.ChangeShapes Go.WideShapes Go.ChangeAt Go.RowKit Go.Sort

theorem maj_few {xs : List Bal} {rule : Int} (hc : vcodeB xs rule = 0) : fewest xs.length (goodB xs rule) = if majL xs rule = [] then none else some (majL xs rule) := by
  have := best_fewest (n := xs.length) (good := goodB xs rule) (good_nil (fun b hb => (wt_of (vcode_zero hc).1).1 b hb))
  rw [majL, if_pos hc]
  exact this
set_option maxRecDepth 100000 in
set_option maxHeartbeats 2000000 in
theorem specMaj_any (xs : List Bal) (rule : Int) (A : Option Addr) (c : Nat) (w : World) (h : HasBal w xs A) :
    Calls Tryd.prog 25 #[.slice A xs.length c, .int .i64 rule] w fun e w' => ∃ v, e = .returned (.tuple #[v, .int .i64 (majC xs rule)]) ∧ w'.ownsRow w.heap.size 9 1 v (majN xs rule).length (txC (majN xs rule)) ∧ Below w.heap.size w w' := by
  have H := Lib.hid h; clear h
  by_cases hc : vcodeB xs rule = 0
  · have HMC := Lib.hid (show majC xs rule = if majL xs rule = [] then 4 else 0 by rw [majC, if_pos hc])
    have HA := Lib.hid (vcode_zero hc).1
    have HF := Lib.hid (fits_of HA.out).1
    have hm := HF.out.1
    have HFw := Lib.hid (maj_few hc)
    have HC := Lib.hid hc; clear hc
    go_enter Tryd.func25, Tryd.ntmps25
    go_wp2_with fail
    refine (specCode_any xs _ _ _ _ H.out).mono ?_; rw [HC.out]; rintro e w1 ⟨rfl, b1⟩
    have B1 := Lib.hid b1; clear b1
    go_wp2_with fail
    go_loopw [7] (fun v7 wr => ∃ k : Nat, k ≤ xs.length ∧ Hid (∀ j, 1 ≤ j → j < k + 1 → fewI xs.length (goodB xs rule) j [] 0 = none) ∧ Hid (Below w.heap.size w wr) ∧ v7 = .int .i64 ((k : Int) + 1)) (fun i _ => xs.length + 1 - (intOf i).toNat)
    case atStart => exact ⟨0, by omega, fun j a b => by omega, B1.out, rfl⟩
    case round =>
      obtain ⟨k, hk, HK, BW, rfl⟩ := hrel
      by_cases hlt : k < xs.length
      · have hk1 : IntKind.i64.wrap ((k : Int) + 1 + 1) = (k : Int) + 1 + 1 := IntWalk.i64_in _ (by omega)
        have hwz := BW.out.size
        have HFA := Lib.hid (few_any HA.out rule HF.out A c (k + 1) ((k : Int) + 1) (by push_cast; rfl) [] 0 0 rfl (by omega) (fun i hi => by simp at hi) (by simp; omega) w.heap.size (some ⟨wr.heap.size, 0, none⟩) 0 (wr.alloc (.cells #[] 9)) (((H.out.1.below BW.out).more hwz).alloc (Nat.le_refl _) _ |>.more (by simp)) (own_mono (own_made0 wr _) hwz) (by simp; omega))
        go_wp2_with fail
        refine HFA.out.mono ?_; rintro e w2 ⟨v, rfl, hsp, b2⟩
        have B2 := Lib.hid ((BW.out.alloc hwz (.cells #[] 9)).trans (b2.mono (by simp; omega)))
        have HSp := Lib.hid hsp
        clear hsp b2
        cases hq : fewI xs.length (goodB xs rule) (k + 1) [] 0
        · have HNo := Lib.hid hq; clear hq
          go_wp2_with fail
          go_roundw
          case rel => exact ⟨k + 1, by omega, fun j a b => by
              by_cases hjk : j = k + 1
              · subst hjk; exact HNo.out
              · exact HK.out j a (by omega), B2.out, by go_num⟩
          case measure => simp [intOf]; omega
        · rename_i out
          have HV := Lib.hid (HSp.out out hq)
          have hs : fewest xs.length (goodB xs rule) = some out := seek_at (by omega) (by omega) HK.out hq
          have HL := Lib.hid (show majL xs rule = out ∧ ¬ majL xs rule = [] by
            have := HFw.out
            rw [hs] at this
            split at this
            · cases this
            · rename_i h; exact ⟨(Option.some.inj this).symm, h⟩)
          have HCd := Lib.hid (show majC xs rule = 0 by rw [HMC.out, if_neg HL.out.2])
          have HNm := Lib.hid (show majN xs rule = out.map (nmAt xs) by rw [majN, HL.out.1])
          have HLn := Lib.hid (show (majN xs rule).length = out.length by rw [HNm.out, List.length_map])
          clear hq hs
          go_wp2_with fail
          go_ret2
          exact ⟨_, by rw [HCd.out]; rfl, by rw [HLn.out, HNm.out]; exact HV.out, B2.out⟩
      · obtain rfl : k = xs.length := by omega
        have HE := Lib.hid (show majL xs rule = [] by
          have := HFw.out
          rw [show fewest xs.length (goodB xs rule) = none from seek_end (fun j a b => HK.out j a (by omega))] at this
          split at this
          · rename_i h; exact h
          · cases this)
        have HCd := Lib.hid (show majC xs rule = 4 by rw [HMC.out, if_pos HE.out])
        have HNm := Lib.hid (show majN xs rule = [] by rw [majN, HE.out]; rfl)
        go_wp2_with fail
        go_ret2
        exact ⟨_, by rw [HCd.out]; rfl, by rw [HNm.out]; exact World.ownsRow_nil _ _ _ _, BW.out⟩
  · have HT := Lib.hid (show majN xs rule = [] by rw [majN, majL, if_neg hc]; rfl)
    have HMC := Lib.hid (show majC xs rule = vcodeB xs rule by rw [majC, if_neg hc])
    have hne : (vcodeB xs rule != 0) = true := by rw [bne_iff_ne]; exact hc
    clear hc
    go_enter Tryd.func25, Tryd.ntmps25
    go_wp2_with fail
    refine (specCode_any xs _ _ _ _ H.out).mono ?_; rintro e w1 ⟨rfl, b1⟩
    go_wp2_with fail
    go_ret2
    exact ⟨_, by rw [HMC.out]; rfl, by rw [HT.out]; exact World.ownsRow_nil _ _ _ _, b1⟩
theorem majN_len {w : World} {xs : List Bal} {A : Option Addr} {rule : Int} (h : HasBal w xs A) : (majN xs rule).length ≤ 1048576 := by
  rw [majN, List.length_map, majL]
  split
  · rename_i hc
    have := (fits_of (vcode_zero hc).1).1.1
    have := (best_inc (n := xs.length) (good := goodB xs rule) (2 ^ xs.length)).len (by omega)
    omega
  · simp
end Go.Proofs.YtihhpmhigmegjaaDoor
namespace Go.Proofs.YtihhpmhigmegjaaDoor
open Go.ChangeShapes Go.WideShapes Go.ChangeAt Go.RowKit Go.Sort

theorem withB_cons (b : Bal) (r : List Bal) (i : Nat) (ch : Int) : withB (b :: r) (i + 1) ch = b :: withB r i ch := by simp [withB]
theorem withB_head (b : Bal) (r : List Bal) (ch : Int) : withB (b :: r) 0 ch = b.withC ch :: r := by simp [withB, Bal.withC]
theorem vot_with : ∀ {xs z : List Bal}, Vot 1 xs z → ∃ i, i < xs.length ∧ ∃ ch : Int, -1 ≤ ch ∧ ch ≤ 1 ∧ z = withB xs i ch
  | [], z, h => by cases h
  | b :: r, z, h => by
    cases h with
    | keep _ h' =>
      obtain ⟨i, hi, ch, h1, h2, rfl⟩ := vot_with h'
      exact ⟨i + 1, by simp; omega, ch, h1, h2, (withB_cons b r i ch).symm⟩
    | chg _ ch h1 h2 _ h' =>
      obtain rfl := vot_zero h'
      exact ⟨0, by simp, ch, h1, h2, (withB_head b _ ch).symm⟩
theorem vot_same : ∀ r : List Bal, Vot 0 r r
  | [] => .nil
  | b :: r => .keep b (vot_same r)
theorem with_vot : ∀ (xs : List Bal) (i : Nat) (ch : Int), i < xs.length → -1 ≤ ch → ch ≤ 1 → withB xs i ch ≠ xs → Vot 1 xs (withB xs i ch)
  | [], i, ch, h, _, _, _ => by simp at h
  | b :: r, 0, ch, _, h1, h2, hne => by
    rw [withB_head] at hne ⊢
    refine .chg b ch h1 h2 (fun e => hne ?_) (vot_same r)
    rw [e]; rfl
  | b :: r, i + 1, ch, h, h1, h2, hne => by
    rw [withB_cons] at hne ⊢
    exact .keep b (with_vot r i ch (by simpa using h) h1 h2 (fun e => hne (by rw [e])))
theorem piv_some {xs : List Bal} {rule : Int} {i : Nat} (h : pivB xs rule i = true) : ∃ ch : Int, -1 ≤ ch ∧ ch ≤ 1 ∧ carB (withB xs i ch) rule ≠ carB xs rule := by
  unfold pivB at h
  simp only [Bool.or_eq_true, bne_iff_ne, ne_eq] at h
  rcases h with (h | h) | h
  · exact ⟨1, by omega, by omega, h⟩
  · exact ⟨-1, by omega, by omega, h⟩
  · exact ⟨0, by omega, by omega, h⟩
theorem least_piv {xs : List Bal} {rule : Int} (ha : areB xs = true) : leastT xs rule = (1, 0) ↔ ∃ i, i < xs.length ∧ pivB xs rule i = true := by
  obtain ⟨hw, hc⟩ := wt_of ha
  have key := turn_cnt (rule := rule) hw hc
  constructor
  · intro h
    unfold leastT at h
    split at h
    · rename_i m hf
      obtain rfl : m = 0 := by injection h with h _; omega
      have ht := List.find?_some hf
      obtain ⟨c, hc1, hcc⟩ := (key 1).1 ht
      obtain ⟨z, k, hz, hne, rfl⟩ := (cnt_iff xs [] 0 c hc).1 hcc
      have hk : k = 0 ∨ k = 1 := by omega
      rcases hk with rfl | rfl
      · rw [vot_zero hz] at hne; exact absurd rfl hne
      · obtain ⟨i, hi, ch, h1, h2, rfl⟩ := vot_with hz
        exact ⟨i, hi, piv_of h1 h2 (by simpa using hne)⟩
    · injection h with h _; omega
  · rintro ⟨i, hi, hp⟩
    obtain ⟨ch, h1, h2, hne⟩ := piv_some hp
    have hv := with_vot xs i ch hi h1 h2 (fun e => hne (by rw [e]))
    have ht : turnS rule (!carB xs rule) 1 [] xs = true := (key 1).2 ⟨1, by omega, (cnt_iff xs [] 0 1 hc).2 ⟨_, 1, hv, by simpa using hne, by simp⟩⟩
    have hf : (List.range xs.length).find? (fun m => turnS rule (!carB xs rule) (m + 1) [] xs) = some 0 := find_range (by omega) (fun j hj => by omega) ht
    unfold leastT
    rw [hf]; rfl
theorem pivL_pos {xs : List Bal} {rule : Int} : ∀ k, 0 < (pivL xs rule k).length ↔ ∃ i, i < k ∧ pivB xs rule i = true
  | 0 => by simp [pivL]
  | k + 1 => by
    have ih := pivL_pos (xs := xs) (rule := rule) k
    cases h : pivB xs rule k
    · rw [pivL_no h, ih]
      constructor
      · rintro ⟨i, hi, hp⟩; exact ⟨i, by omega, hp⟩
      · rintro ⟨i, hi, hp⟩
        by_cases e : i = k
        · subst e; rw [h] at hp; cases hp
        · exact ⟨i, by omega, hp⟩
    · rw [pivL_yes h]
      exact ⟨fun _ => ⟨k, by omega, h⟩, fun _ => by simp⟩
theorem maj_one {xs : List Bal} {rule : Int} (hz : vcodeB xs rule = 0) : decide (0 < (pivR xs rule).length) = (decide ((leastV xs rule).2 = 0) && decide ((leastV xs rule).1 = 1)) := by
  have ha := (vcode_zero hz).1
  have h1 : pivR xs rule = pivL xs rule xs.length := by unfold pivR; rw [if_pos hz]
  have h2 : leastV xs rule = leastT xs rule := by unfold leastV; rw [if_pos hz]
  rw [h1, h2, ← Bool.decide_and, decide_eq_decide, pivL_pos, ← least_piv ha]
  constructor
  · intro h; rw [h]; exact ⟨rfl, rfl⟩
  · rintro ⟨h, h'⟩; exact Prod.ext h' h
theorem castTo_get {xs : List Bal} {I : List Nat} : ∀ {m k : Nat}, k < m → m ≤ xs.length → (castTo xs I m)[k]? = xs[k]?.map (fun b => { b with choice := if k ∈ I then 1 else -1 })
  | 0, k, h, _ => by omega
  | m + 1, k, h, hm => by
    have hl := castTo_len xs I m (by omega)
    rw [castTo_step (by omega)]
    by_cases e : k = m
    · subst e
      rw [List.getElem?_append_right (by omega), hl, Nat.sub_self, List.getElem?_eq_getElem (show k < xs.length by omega)]; rfl
    · rw [List.getElem?_append_left (by omega)]
      exact castTo_get (by omega) (by omega)
theorem castB_get {xs : List Bal} {I : List Nat} (k : Nat) : (castB xs I)[k]? = xs[k]?.map (fun b => { b with choice := if k ∈ I then 1 else -1 }) := by
  by_cases h : k < xs.length
  · exact castTo_get h (Nat.le_refl _)
  · rw [List.getElem?_eq_none (by rw [castB_len]; omega), List.getElem?_eq_none (by omega)]; rfl
theorem areB_cast {xs : List Bal} {I : List Nat} (h : areB xs = true) : areB (castB xs I) = true := by
  have key : ∀ k, areTo xs k = true → areTo (castB xs I) k = true := by
    intro k
    induction k with
    | zero => intro _; rfl
    | succ k ih =>
      intro ht
      rw [areTo, Bool.and_eq_true] at ht ⊢
      refine ⟨ih ht.1, ?_⟩
      have hg := ht.2
      unfold goodAt at hg ⊢
      rw [castB_get]
      cases hx : xs[k]? with
      | none => rfl
      | some b =>
        rw [hx] at hg
        simp only [Option.map_some, Bool.and_eq_true] at hg ⊢
        refine ⟨?_, ?_⟩
        · have hb := hg.1
          unfold balB at hb ⊢
          simp only [Bool.and_eq_true] at hb ⊢
          refine ⟨hb.1, ?_, hb.2.2⟩
          split <;> decide
        · have hb := hg.2
          unfold ordB at hb ⊢
          cases k with
          | zero => rfl
          | succ j =>
            simp only at hb ⊢
            rw [castB_get]
            cases hj : xs[j]? with
            | none => rfl
            | some p => rw [hj] at hb; exact hb
  unfold areB at h ⊢
  rw [Bool.and_eq_true] at h ⊢
  rw [castB_len]
  exact ⟨key _ h.1, h.2⟩
theorem best_good {n : Nat} {good : List Nat → Bool} : ∀ m, bestI n good m ≠ [] → good (bestI n good m) = true
  | 0, h => absurd rfl h
  | m + 1, h => by
    unfold bestI at h ⊢
    split
    · rename_i hc; rw [Bool.and_eq_true] at hc; exact hc.2
    · rename_i hc; rw [if_neg hc] at h; exact best_good m h
theorem maj_car {xs : List Bal} {rule : Int} (h : majC xs rule = 0) : vcodeB xs rule = 0 ∧ carB (castB xs (majL xs rule)) rule = true := by
  unfold majC at h
  split at h
  · rename_i hz
    split at h
    · cases h
    · rename_i hn
      refine ⟨hz, ?_⟩
      have hm : majL xs rule = bestI xs.length (goodB xs rule) (2 ^ xs.length) := by unfold majL; rw [if_pos hz]
      rw [hm] at hn ⊢
      exact best_good _ hn
  · exact absurd h (by assumption)
theorem maj_in {xs : List Bal} {rule : Int} (h : majC xs rule = 0) {k : Nat} (hk : k < xs.length) : (nmAt xs k ∈ majN xs rule) ↔ k ∈ majL xs rule := by
  have hz := (maj_car h).1
  have ha := (vcode_zero hz).1
  have hI : ∀ i ∈ majL xs rule, i < xs.length := by
    have hm : majL xs rule = bestI xs.length (goodB xs rule) (2 ^ xs.length) := by unfold majL; rw [if_pos hz]
    rw [hm]
    exact fun i hi => ((best_inc _).mem i hi).2
  have := name_in ha hI hk
  rw [ixS_mem] at this
  exact this
theorem maj_vcode {xs : List Bal} {rule : Int} (hz : vcodeB xs rule = 0) (I : List Nat) : vcodeB (castB xs I) rule = 0 := by
  obtain ⟨h1, h2⟩ := vcode_zero hz
  unfold vcodeB
  rw [if_pos (areB_cast h1), if_pos h2]
end Go.Proofs.YtihhpmhigmegjaaDoor
namespace Go.Proofs.YtihhpmhigmegjaaDoor
open Go.ChangeShapes Go.WideShapes Go.ChangeAt Go.RowKit

/-- What the closure works on: five variables, its own ballots, and the list. -/
structure LSt (B : Nat) (tK : TypeId) (xs : List Bal) (rule : Int) (A : Option Addr) (c : Nat) (L O R M K : Nat) (OV : Option Addr) (cap : Nat) (w : World) (l : Int) (ys : List Bal) : Prop where
  bL : Blk w L 24 #[.slice A xs.length c]
  bO : Blk w O 24 #[.slice OV xs.length cap]
  bR : Blk w R 2 #[.int .i64 rule]
  bM : Blk w M 2 #[.int .i64 l]
  bK : Blk w K tK #[.func (.func 48) #[] #[.pointer (some ⟨L, 0, none⟩), .pointer (some ⟨O, 0, none⟩), .pointer (some ⟨R, 0, none⟩), .pointer (some ⟨M, 0, none⟩), .pointer (some ⟨K, 0, none⟩)]]
  own : w.ownsRow B 32 3 (.slice OV xs.length cap) xs.length (baC ys)
  len : ys.length = xs.length
  rd : Reads w B 3 A xs.length (baC xs)
  hB : B ≤ w.heap.size
  hM : B ≤ M
  dM : M ≠ L ∧ M ≠ O ∧ M ≠ R ∧ M ≠ K
  dg : ∀ k, (Value.slice OV xs.length cap).ownBlock = some k → k ≠ L ∧ k ≠ O ∧ k ≠ R ∧ k ≠ M ∧ k ≠ K
section
variable {B : Nat} {tK : TypeId} {xs ys : List Bal} {rule l : Int} {A OV : Option Addr} {c L O R M K cap : Nat} {w w' : World}
theorem LSt.below (h : LSt B tK xs rule A c L O R M K OV cap w l ys) (hb : Below w.heap.size w w') : LSt B tK xs rule A c L O R M K OV cap w' l ys :=
  ⟨h.bL.below hb h.bL.lt, h.bO.below hb h.bO.lt, h.bR.below hb h.bR.lt, h.bM.below hb h.bM.lt, h.bK.below hb h.bK.lt, own_below h.own hb, h.len, (h.rd.below (hb.mono h.hB)), Nat.le_trans h.hB hb.size, h.hM, h.dM, h.dg⟩
theorem LSt.least (h : LSt B tK xs rule A c L O R M K OV cap w l ys) (l' : Int) : LSt B tK xs rule A c L O R M K OV cap (w.setCell ⟨M, 0, none⟩ (.int .i64 l')) l' ys := by
  obtain ⟨d1, d2, d3, d4⟩ := h.dM
  refine ⟨h.bL.far (p := ⟨M, 0, none⟩) (fun e => d1 e.symm) _, h.bO.far (p := ⟨M, 0, none⟩) (fun e => d2 e.symm) _, h.bR.far (p := ⟨M, 0, none⟩) (fun e => d3 e.symm) _, ?_, h.bK.far (p := ⟨M, 0, none⟩) (fun e => d4 e.symm) _, ?_, h.len, h.rd.setCell (p := ⟨M, 0, none⟩) h.hM _, by simpa using h.hB, h.hM, h.dM, h.dg⟩
  · simpa using h.bM.set_ 0 (.int .i64 l')
  · refine h.own.kept (row := some M) ⟨rfl, rfl, rfl, by simp, fun i _ hne => ?_⟩ (.inr (fun e => (h.dg M e).2.2.2.1 rfl))
    exact Below.heap_setCell w ⟨M, 0, none⟩ _ i (fun e => hne (by rw [e]))
theorem LSt.put {g : Nat} (h : LSt B tK xs rule A c L O R M K (some ⟨g, 0, none⟩) cap w l ys) (hg : B ≤ g) (i : Nat) (hi : i < xs.length) (ch : Int) : LSt B tK xs rule A c L O R M K (some ⟨g, 0, none⟩) cap (w.setCell ⟨g, i * 3 + 1, none⟩ (.int .i64 ch)) l (withB ys i ch) := by
  obtain ⟨d1, d2, d3, d4, d5⟩ := h.dg g rfl
  have s := (h.own.stored (i * 3 + 1) (.int .i64 ch)).1
  rw [← baC_with ys i ch (by rw [h.len]; exact hi)] at s
  exact ⟨h.bL.far (p := ⟨g, _, none⟩) (fun e => d1 e.symm) _, h.bO.far (p := ⟨g, _, none⟩) (fun e => d2 e.symm) _, h.bR.far (p := ⟨g, _, none⟩) (fun e => d3 e.symm) _, h.bM.far (p := ⟨g, _, none⟩) (fun e => d4 e.symm) _, h.bK.far (p := ⟨g, _, none⟩) (fun e => d5 e.symm) _, s, by rw [withB_len]; exact h.len, h.rd.setCell (p := ⟨g, _, none⟩) hg _, by simpa using h.hB, h.hM, h.dM, h.dg⟩
end
theorem LeastOf.congr {l : Int} {D E : Int → Prop} (h : LeastOf l D) (he : ∀ c, D c ↔ E c) : LeastOf l E := by
  rcases h with ⟨rfl, h⟩ | ⟨h0, h1, h2⟩
  · exact .inl ⟨rfl, fun c hc => h c ((he c).2 hc)⟩
  · exact .inr ⟨h0, (he _).1 h1, fun c hc => h2 c ((he c).2 hc)⟩
theorem LeastOf.take {l k : Int} {D : Int → Prop} (h : LeastOf l D) (hk : 0 ≤ k) (hc : l < 0 ∨ k < l) : LeastOf k (fun c => D c ∨ c = k) := by
  rcases h with ⟨rfl, h⟩ | ⟨h0, h1, h2⟩
  · exact .inr ⟨hk, .inr rfl, fun c hc => by rcases hc with hc | rfl; exact absurd hc (h c); exact Int.le_refl _⟩
  · exact .inr ⟨hk, .inr rfl, fun c hc => by rcases hc with hc | rfl; (have := h2 c hc; omega); exact Int.le_refl _⟩
theorem LeastOf.leave {l k : Int} {D : Int → Prop} (h : LeastOf l D) (hc : ¬ (l < 0 ∨ k < l)) : LeastOf l (fun c => D c ∨ c = k) := by
  rcases h with ⟨rfl, h⟩ | ⟨h0, h1, h2⟩
  · omega
  · exact .inr ⟨h0, .inl h1, fun c hc => by rcases hc with hc | rfl; exact h2 c hc; omega⟩
end Go.Proofs.YtihhpmhigmegjaaDoor
namespace Go.Proofs.YtihhpmhigmegjaaDoor
open Go.ChangeShapes Go.WideShapes Go.ChangeAt Go.RowKit Go.Sort

theorem leaf_keep {l count rule : Int} {o : Bool} {ys : List Bal} {D : Int → Prop} (hl : LeastOf l D) (h : carB ys rule = o) : LeastOf l (fun c => D c ∨ Cnt o rule ys [] count c) :=
  hl.congr fun c => ⟨.inl, fun hc => by rcases hc with hc | hc; exact hc; rw [Cnt] at hc; exact absurd h hc.1⟩
theorem leaf_new {l count rule : Int} {o : Bool} {ys : List Bal} {D : Int → Prop} (hl : LeastOf l D) (h0 : 0 ≤ count) (h' : carB ys rule = !o) (hc : l < 0 ∨ count < l) : LeastOf count (fun c => D c ∨ Cnt o rule ys [] count c) :=
  have h : carB ys rule ≠ o := by rw [h']; cases o <;> decide
  (hl.take h0 hc).congr fun c => by rw [Cnt]; exact ⟨fun hc => hc.imp id (fun e => ⟨h, e⟩), fun hc => hc.imp id (fun e => e.2)⟩
theorem leaf_old {l count rule : Int} {o : Bool} {ys : List Bal} {D : Int → Prop} (hl : LeastOf l D) (h' : carB ys rule = !o) (hc : ¬ (l < 0 ∨ count < l)) : LeastOf l (fun c => D c ∨ Cnt o rule ys [] count c) :=
  have h : carB ys rule ≠ o := by rw [h']; cases o <;> decide
  (hl.leave hc).congr fun c => by rw [Cnt]; exact ⟨fun hc => hc.imp id (fun e => ⟨h, e⟩), fun hc => hc.imp id (fun e => e.2)⟩
set_option maxRecDepth 100000 in
set_option maxHeartbeats 1000000 in
theorem leaf_any {B : Nat} {tK : TypeId} {xs ys : List Bal} {rule l : Int} {A OV : Option Addr} {c L O R M K cap : Nat} (D : Int → Prop) (hfx : Fits xs) (hfy : Fits ys) (I count : Int) (hI : I = xs.length) (h0 : 0 ≤ count) (h1 : count ≤ 10) (hl : LeastOf l D) (w : World) (h : LSt B tK xs rule A c L O R M K OV cap w l ys) :
    Calls Tryd.prog 48 #[.int .i64 I, .int .i64 count, .pointer (some ⟨L, 0, none⟩), .pointer (some ⟨O, 0, none⟩), .pointer (some ⟨R, 0, none⟩), .pointer (some ⟨M, 0, none⟩), .pointer (some ⟨K, 0, none⟩)] w fun e w' =>
      e = .returned (.tuple #[]) ∧ ∃ l', LSt B tK xs rule A c L O R M K OV cap w' l' ys ∧ LeastOf l' (fun c => D c ∨ Cnt (carB xs rule) rule ys [] count c) ∧ Below B w w' := by
  have cL := h.bL.cell 0
  have cO := h.bO.cell 0
  have cR := h.bR.cell 0
  have cM := h.bM.cell 0
  have fM := h.bM.frozen 0
  simp only [List.getElem?_toArray, List.getElem?_cons_zero] at cL cO cR cM
  have gL := cell_regrown cL
  have gO := cell_regrown cO
  have gR := cell_regrown cR
  have gM := cell_regrown cM
  have H := Lib.hid h; clear h
  have HL := Lib.hid hl; clear hl
  have hm := hfx.1
  have r1 : ∀ d os, Calls Tryd.prog 32 #[.slice OV xs.length cap, .int .i64 rule] (grow (redrawn w d) os) (fun e w'' => e = .returned (.bool (carB ys rule)) ∧ ∃ p : Regrown, w'' = grow (redrawn w p.d) p.os) := fun d os => Calls.regrown_of (by
    have h2 := H.out.below (below_regrown w d os)
    have := implCar_any ys rule hfy OV cap (grow (redrawn w d) os)
    rw [h2.len] at this
    exact this (Reads.of_own h2.own))
  have r2 : ∀ d os, Calls Tryd.prog 32 #[.slice A xs.length c, .int .i64 rule] (grow (redrawn w d) os) (fun e w'' => e = .returned (.bool (carB xs rule)) ∧ ∃ p : Regrown, w'' = grow (redrawn w p.d) p.os) := fun d os => Calls.regrown_of (by
    have h2 := H.out.below (below_regrown w d os)
    exact implCar_any xs rule hfx A c _ (h2.rd.more h2.hB))
  have HFx := Lib.hid hfx; have HFy := Lib.hid hfy; clear hfx hfy
  subst hI
  cases q1 : carB ys rule <;> cases q2 : carB xs rule
  all_goals
    have Q1 := Lib.hid q1; have Q2 := Lib.hid q2
    rw [q1] at r1; rw [q2] at r2
    clear q1 q2
    cases c1 : decide (l < 0) <;> cases c2 : decide (count < l)
  all_goals
    go_enter Tryd.func48, Tryd.ntmps48
    go_wp2_with fail
    refine wp_region_quiet_below (by kernel_rfl) (by kernel_rfl) ?_; (repeat (first | go_big_quiet_step ((first | with_reducible exact r1 _ _ | with_reducible exact r2 _ _)))); refine wpQuiet_nil ?_; intro _ hw'; obtain ⟨⟨dq, osq⟩, rfl⟩ := hw'
    have H2 := Lib.hid (H.out.below (below_regrown w dq osq))
    have B2 := Lib.hid ((below_regrown w dq osq).mono H.out.hB)
    have f2 := H2.out.bM.frozen 0
    have g2 := gM dq osq
    clear gM gL gO gR r1 r2 fM cM cL cO cR
    go_wp2_with fail
    refine bodyPost_ret (results_none rfl _ _ _) rfl ?_
    simp only [decide_eq_true_eq, decide_eq_false_iff_not] at c1 c2
    first
      | exact ⟨rfl, l, H2.out, leaf_keep HL.out Q1.out, B2.out⟩
      | exact ⟨rfl, count, H2.out.least count, leaf_new HL.out h0 Q1.out (.inl c1), B2.out.setCell (p := ⟨M, 0, none⟩) H.out.hM _⟩
      | exact ⟨rfl, count, H2.out.least count, leaf_new HL.out h0 Q1.out (.inr c2), B2.out.setCell (p := ⟨M, 0, none⟩) H.out.hM _⟩
      | exact ⟨rfl, l, H2.out, leaf_old HL.out Q1.out (fun h => h.elim c1 c2), B2.out⟩
      | fail
end Go.Proofs.YtihhpmhigmegjaaDoor
namespace Go.Proofs.YtihhpmhigmegjaaDoor
open Go.ChangeShapes Go.WideShapes Go.ChangeAt Go.RowKit Go.Sort

def Same (xs ys : List Bal) : Prop := ys.map (fun b => b.withC 0) = xs.map (fun b => b.withC 0)
theorem withC_twice (b : Bal) (a c : Int) : (b.withC a).withC c = b.withC c := rfl
theorem same_at {xs ys : List Bal} (h : Same xs ys) {i : Nat} (hi : i < xs.length) (hi' : i < ys.length) (ch : Int) : ys[i].withC ch = xs[i].withC ch := by
  have e : (ys.map (fun b => b.withC 0))[i]? = (xs.map (fun b => b.withC 0))[i]? := by rw [show ys.map (fun b => b.withC 0) = _ from h]
  simp only [List.getElem?_map, List.getElem?_eq_getElem hi, List.getElem?_eq_getElem hi', Option.map_some, Option.some.injEq] at e
  have := congrArg (fun b => Bal.withC b ch) e
  simpa [withC_twice] using this
theorem same_with {xs ys : List Bal} (h : Same xs ys) {i : Nat} (hi : i < ys.length) (ch : Int) : Same xs (withB ys i ch) := by
  unfold Same at h ⊢
  rw [← h]
  have hi' : i < (ys.map (fun b => b.withC 0)).length := by simpa using hi
  have e3 := List.take_append_drop i (ys.map (fun b => b.withC 0))
  rw [List.drop_eq_getElem_cons hi'] at e3
  rw [with_split hi]
  simpa [withC_twice] using e3
theorem take_with_i {ys : List Bal} {i : Nat} {ch : Int} (hi : i < ys.length) : (withB ys i ch).take i = ys.take i := by
  rw [with_split hi, List.append_assoc, List.take_left' (by simp; omega)]
/-- What a round of the closure adds. -/
def CntTo (o : Bool) (rule : Int) (p : List Bal) (b : Bal) (r : List Bal) (count c : Int) (ch : Int) : Prop := ∃ a : Int, -1 ≤ a ∧ a < ch ∧ Cnt o rule (p ++ [b.withC a]) r (count + if a = b.choice then 0 else 1) c

theorem cntTo_step {o : Bool} {rule : Int} {p : List Bal} {b : Bal} {r : List Bal} {count z ch : Int} (h : -1 ≤ ch) : CntTo o rule p b r count z (ch + 1) ↔ CntTo o rule p b r count z ch ∨ Cnt o rule (p ++ [b.withC ch]) r (count + if ch = b.choice then 0 else 1) z := by
  constructor
  · rintro ⟨a, h1, h2, h3⟩
    by_cases hac : a = ch
    · subst hac; exact .inr h3
    · exact .inl ⟨a, h1, by omega, h3⟩
  · rintro (⟨a, h1, h2, h3⟩ | h3)
    · exact ⟨a, h1, by omega, h3⟩
    · exact ⟨ch, h, by omega, h3⟩
theorem cntTo_all {o : Bool} {rule : Int} {p : List Bal} {xs : List Bal} {i : Nat} (hi : i < xs.length) {count z : Int} : CntTo o rule p xs[i] (xs.drop (i + 1)) count z 2 ↔ Cnt o rule p (xs.drop i) count z := by
  rw [List.drop_eq_getElem_cons hi, Cnt]
  exact ⟨fun ⟨a, h1, h2, h3⟩ => ⟨a, h1, by omega, h3⟩, fun ⟨a, h1, h2, h3⟩ => ⟨a, h1, by omega, h3⟩⟩
set_option maxRecDepth 100000 in
set_option maxHeartbeats 1000000 in
theorem walk_any {B : Nat} {tK : TypeId} {xs : List Bal} {rule : Int} {A OV : Option Addr} {c L O R M K cap : Nat} (hfx : Fits xs) (m : Nat) : ∀ (i : Nat) (I count : Int) (_ : I = i) (_ : i + m = xs.length) (_ : 0 ≤ count) (_ : count ≤ i) (l : Int) (ys : List Bal) (_ : Fits ys) (_ : Same xs ys) (D : Int → Prop) (_ : LeastOf l D) (w : World) (_ : LSt B tK xs rule A c L O R M K OV cap w l ys),
    Calls Tryd.prog 48 #[.int .i64 I, .int .i64 count, .pointer (some ⟨L, 0, none⟩), .pointer (some ⟨O, 0, none⟩), .pointer (some ⟨R, 0, none⟩), .pointer (some ⟨M, 0, none⟩), .pointer (some ⟨K, 0, none⟩)] w fun e w' =>
      e = .returned (.tuple #[]) ∧ ∃ l' ys', LSt B tK xs rule A c L O R M K OV cap w' l' ys' ∧ Fits ys' ∧ Same xs ys' ∧ ys'.take i = ys.take i ∧ LeastOf l' (fun c => D c ∨ Cnt (carB xs rule) rule (ys.take i) (xs.drop i) count c) ∧ Below B w w' := by
  induction m with
  | zero =>
    intro i I count hI him h0 h1 l ys hfy hs D hl w h
    have hm := hfx.1
    refine (leaf_any D hfx hfy I count (by omega) h0 (by omega) hl w h).mono ?_
    rintro e w' ⟨rfl, l', h', hl', hb⟩
    have hly := h.len
    exact ⟨rfl, l', ys, h', hfy, hs, rfl, by rw [List.take_of_length_le (by omega), List.drop_of_length_le (by omega)]; exact hl', hb⟩
  | succ m ih =>
    intro i I count hI him h0 h1 l ys hfy hs D hl w h
    have hm := hfx.1
    have hlt : i < xs.length := by omega
    obtain ⟨g, cap', hv, hbg, hgl⟩ := h.own.form (by omega)
    simp only [Value.slice.injEq, true_and] at hv
    obtain ⟨rfl, rfl⟩ := hv
    obtain ⟨ab, ao, rfl, hadb, hcell⟩ := h.rd.2 (by omega)
    have IH := Lib.hid ih; clear ih
    have H := Lib.hid h
    have hIn : (I == (xs.length : Int)) = false := by simp; omega
    have hI1 : IntKind.i64.wrap (I + 1) = I + 1 := IntWalk.i64_in _ (by omega)
    have hc1 : IntKind.i64.wrap (count + 1) = count + 1 := IntWalk.i64_in _ (by omega)
    have cL := h.bL.cell 0
    simp only [List.getElem?_toArray, List.getElem?_cons_zero] at cL
    clear h hcell
    subst hI
    go_enter Tryd.func48, Tryd.ntmps48
    go_wp2_with fail
    go_loopw [9] (fun v9 wr => ∃ (ch l' : Int) (ys' : List Bal), -1 ≤ ch ∧ ch ≤ 2 ∧ Hid (LSt B tK xs rule (some ⟨ab, ao, none⟩) c L O R M K (some ⟨g, 0, none⟩) cap wr l' ys') ∧ Hid (Fits ys' ∧ Same xs ys' ∧ ys'.take i = ys.take i) ∧ Hid (LeastOf l' (fun z => D z ∨ CntTo (carB xs rule) rule (ys.take i) xs[i] (xs.drop (i + 1)) count z ch)) ∧ Hid (Below B w wr) ∧ v9 = .int .i64 ch) (fun v _ => (2 - intOf v).toNat)
    case atStart => exact ⟨-1, l, ys, by omega, by omega, H.out, ⟨hfy, hs, rfl⟩, hl.congr (fun z => ⟨.inl, fun hz => hz.elim id (fun ⟨a, h1, h2, _⟩ => by omega)⟩), Below.refl _ _, rfl⟩
    case round =>
      obtain ⟨ch, l', ys', hch1, hch2, HS, HY, HL, BW, rfl⟩ := hrel
      by_cases hle : ch ≤ 1
      · have bO := HS.out.bO.cell 0
        simp only [List.getElem?_toArray, List.getElem?_cons_zero] at bO
        have hly := HS.out.len
        have q0 := HS.out.own.cellAt (i * 3 + 1) (by omega)
        rw [List.getElem?_eq_getElem (by rw [baC_len]; omega)] at q0
        have f0 := HS.out.own.frozenAt (i * 3 + 1)
        generalize (baC ys')[i * 3 + 1]'(by rw [baC_len]; omega) = u0 at q0
        have HP := Lib.hid (HS.out.put hbg i hlt ch)
        have BP := Lib.hid (BW.out.setCell (p := ⟨g, i * 3 + 1, none⟩) hbg (.int .i64 ch))
        go_upto_region 7 with (fail)
        generalize wr.setCell ⟨g, i * 3 + 1, none⟩ (.int .i64 ch) = W0 at HP BP
        clear q0 f0 bO
        have kL := HP.out.bL.cell 0
        have kK := HP.out.bK.cell 0
        simp only [List.getElem?_toArray, List.getElem?_cons_zero] at kL kK
        obtain ⟨ab', ao', hA, _, hcell⟩ := HP.out.rd.2 (by omega)
        cases hA
        have k1 := hcell _ _ (baC_get xs i hlt).2.1
        rw [← Nat.add_assoc] at k1
        clear hcell
        obtain ⟨b, hb⟩ : ∃ b, xs[i].choice = b := ⟨_, rfl⟩
        rw [hb] at k1
        have HBc := Lib.hid hb; clear hb
        by_cases hcb : ch = b
        · have hd : (ch == b) = true := by simpa using hcb
          have HE := Lib.hid (show (count + if ch = xs[i].choice then 0 else 1) = count by rw [HBc.out, if_pos hcb]; simp)
          clear hcb
          go_wp2_with fail
          with_reducible refine (IH.out (i + 1) _ count (by omega) (by omega) (by omega) (by omega) l' (withB ys' i ch) (fits_with HY.out.1 i ch) (same_with HY.out.2.1 (by omega) ch) _ HL.out W0 HP.out).mono ?_
          rintro e w2 ⟨rfl, l2, ys2, hs2, hf2, hsm2, ht2, hl2, hb2⟩
          have HS2 := Lib.hid hs2; have HB2 := Lib.hid (BP.out.trans hb2)
          have HT2 := Lib.hid (show ys2.take i = ys.take i by
            have := congrArg (List.take i) ht2
            rw [List.take_take, List.take_take, Nat.min_eq_left (by omega), take_with_i (by omega)] at this
            exact this.trans HY.out.2.2)
          have HL2 := Lib.hid (hl2.congr (E := fun z => D z ∨ CntTo (carB xs rule) rule (ys.take i) xs[i] (xs.drop (i + 1)) count z (ch + 1)) (fun z => by
            rw [take_with (by omega), HY.out.2.2, same_at HY.out.2.1 hlt, cntTo_step hch1, HE.out, or_assoc]))
          clear hs2 hb2 hl2 ht2
          go_wp2_with fail
          go_roundw
          case rel => exact ⟨ch + 1, l2, ys2, by omega, by omega, HS2.out, ⟨hf2, hsm2, HT2.out⟩, HL2.out, HB2.out, by go_num⟩
          case measure => simp [intOf]; omega
        · have hd : (ch == b) = false := by simpa using hcb
          have HE := Lib.hid (show (count + if ch = xs[i].choice then 0 else 1) = count + 1 by rw [HBc.out, if_neg hcb])
          clear hcb
          go_wp2_with fail
          with_reducible refine (IH.out (i + 1) _ (count + 1) (by omega) (by omega) (by omega) (by omega) l' (withB ys' i ch) (fits_with HY.out.1 i ch) (same_with HY.out.2.1 (by omega) ch) _ HL.out W0 HP.out).mono ?_
          rintro e w2 ⟨rfl, l2, ys2, hs2, hf2, hsm2, ht2, hl2, hb2⟩
          have HS2 := Lib.hid hs2; have HB2 := Lib.hid (BP.out.trans hb2)
          have HT2 := Lib.hid (show ys2.take i = ys.take i by
            have := congrArg (List.take i) ht2
            rw [List.take_take, List.take_take, Nat.min_eq_left (by omega), take_with_i (by omega)] at this
            exact this.trans HY.out.2.2)
          have HL2 := Lib.hid (hl2.congr (E := fun z => D z ∨ CntTo (carB xs rule) rule (ys.take i) xs[i] (xs.drop (i + 1)) count z (ch + 1)) (fun z => by
            rw [take_with (by omega), HY.out.2.2, same_at HY.out.2.1 hlt, cntTo_step hch1, HE.out, or_assoc]))
          clear hs2 hb2 hl2 ht2
          go_wp2_with fail
          go_roundw
          case rel => exact ⟨ch + 1, l2, ys2, by omega, by omega, HS2.out, ⟨hf2, hsm2, HT2.out⟩, HL2.out, HB2.out, by go_num⟩
          case measure => simp [intOf]; omega
      · obtain rfl : ch = 2 := by omega
        go_wp2_with fail
        refine bodyPost_end (results_none rfl _ _ _) rfl ?_
        exact ⟨rfl, l', ys', HS.out, HY.out.1, HY.out.2.1, HY.out.2.2, HL.out.congr (fun z => by rw [cntTo_all hlt]), BW.out⟩
end Go.Proofs.YtihhpmhigmegjaaDoor
namespace Go.Proofs.YtihhpmhigmegjaaDoor
open Go.ChangeShapes Go.WideShapes Go.ChangeAt Go.RowKit Go.Sort

set_option maxRecDepth 100000 in
set_option maxHeartbeats 1000000 in
theorem implLeast_any (xs : List Bal) (rule : Int) (A : Option Addr) (c : Nat) (hA : A = none → c = 0) (w : World) (h : HasBal w xs A) :
    Calls Tryd.prog 20 #[.slice A xs.length c, .int .i64 rule] w fun e w' => e = .returned (.tuple #[.int .i64 (leastV xs rule).1, .int .i64 (leastV xs rule).2]) ∧ Below w.heap.size w w' := by
  have H := Lib.hid h; clear h
  by_cases hc : vcodeB xs rule = 0
  · have HT := Lib.hid (show leastV xs rule = leastT xs rule by rw [leastV, if_pos hc])
    have HA := Lib.hid (vcode_zero hc).1
    have HF := Lib.hid (fits_of HA.out).1
    have hm := HF.out.1
    have HC := Lib.hid hc; clear hc
    have key : ∀ W0 : World, W0 = (w.alloc (.cells #[.slice A xs.length c] 24)).alloc (.cells #[.int .i64 rule] 2) → Blk W0 w.heap.size 24 #[.slice A xs.length c] ∧ Blk W0 (w.heap.size + 1) 2 #[.int .i64 rule] ∧ Below w.heap.size w W0 ∧ W0.heap.size = w.heap.size + 2 := by
      rintro W0 rfl
      refine ⟨(Blk.new _ _ _).alloc _, by have := Blk.new (w.alloc (.cells #[.slice A xs.length c] 24)) 2 #[.int .i64 rule]; simpa using this, ((Below.refl _ _).alloc (Nat.le_refl _) _).alloc (by simp) _, by simp⟩
    have hmf : ∀ (fn : Fn) (first cap : Array Value) (w : World), (Instr.makeFunc fn first cap).run Tryd.prog w = .ok (.func fn first cap) w := fun _ _ _ _ => rfl
    go_enter Tryd.func20, Tryd.ntmps20
    go_wp2_with fail
    generalize hW : (w.alloc (.cells #[.slice A xs.length c] 24)).alloc (.cells #[.int .i64 rule] 2) = W0
    obtain ⟨bL, bR, bb, hsz⟩ := key W0 hW.symm
    clear hW key
    refine (implCode_any xs rule A c W0 (H.out.below bb)).mono ?_; rw [HC.out]; rintro e w1 ⟨rfl, b1⟩
    have bL1 := bL.below b1 bL.lt; have bR1 := bR.below b1 bR.lt
    have c1 := bL1.cell 0
    have c2 := bR1.cell 0
    simp only [List.getElem?_toArray, List.getElem?_cons_zero] at c1 c2
    have z1 := bL1.lt; have z2 := bR1.lt
    have n1 : ¬ w.heap.size = w1.heap.size := by omega
    have n2 : ¬ w.heap.size + 1 = w1.heap.size := by omega
    go_wp2_with fail
    have bM := Blk.new w1 2 #[.int .i64 (-1)]
    have bA2 : Below w1.heap.size w1 (w1.alloc (.cells #[.int .i64 (-1)] 2)) := (Below.refl _ _).alloc (Nat.le_refl _) _
    generalize w1.alloc (.cells #[.int .i64 (-1)] 2) = W2 at bM bA2 ⊢
    have b0 : Below w.heap.size w w1 := bb.trans (b1.mono bb.size)
    have B2 := Lib.hid (b0.trans (bA2.mono b0.size))
    refine (clone_bal A xs.length c (baC xs) W2 (H.out.below B2.out).1 (baC_one xs) (by omega) hA).mono ?_; rintro e w3 ⟨v, rfl, own, b3⟩
    obtain ⟨OV, cap, rfl, _⟩ := own_shape own
    have bM3 := bM.below b3 bM.lt
    have bL3 := (bL1.below bA2 bL1.lt).below b3 (by have := bM.lt; omega)
    have bR3 := (bR1.below bA2 bR1.lt).below b3 (by have := bM.lt; omega)
    have B3 := Lib.hid (B2.out.trans (b3.mono B2.out.size))
    go_wp2_with fail
    have zz : w.heap.size ≤ w3.heap.size := B3.out.size
    have zM := bM.lt
    have z3 := b3.size
    have zA := bA2.size
    have zb := b1.size
    have hown := own.lt
    have own4 := own_below (own_below own (((Below.refl w3.heap.size w3).alloc (Nat.le_refl _) (.cells #[.slice OV xs.length cap] 24)))) ((Below.refl _ _).alloc (Nat.le_refl _) (.cells #[Value.func (Fn.func 48) #[] #[.pointer (some ⟨w.heap.size, 0, none⟩), .pointer (some ⟨w3.heap.size, 0, none⟩), .pointer (some ⟨w.heap.size + 1, 0, none⟩), .pointer (some ⟨w1.heap.size, 0, none⟩), .pointer (some ⟨w3.heap.size + 1, 0, none⟩)]] 64))
    have B4 := Lib.hid ((B3.out.alloc B3.out.size (.cells #[.slice OV xs.length cap] 24)).alloc (by simp; omega) (.cells #[Value.func (Fn.func 48) #[] #[.pointer (some ⟨w.heap.size, 0, none⟩), .pointer (some ⟨w3.heap.size, 0, none⟩), .pointer (some ⟨w.heap.size + 1, 0, none⟩), .pointer (some ⟨w1.heap.size, 0, none⟩), .pointer (some ⟨w3.heap.size + 1, 0, none⟩)]] 64))
    have hrd := (H.out.below B4.out).1
    have hS := Lib.hid (LSt.mk (B := w.heap.size) (tK := 64) (xs := xs) (rule := rule) (A := A) (c := c) (L := w.heap.size) (O := w3.heap.size) (R := w.heap.size + 1) (M := w1.heap.size) (K := w3.heap.size + 1) (OV := OV) (cap := cap) (l := -1) (ys := xs)
      ((bL3.alloc _).alloc _) ((Blk.new _ _ _).alloc _) ((bR3.alloc _).alloc _) ((bM3.alloc _).alloc _) (by have := Blk.new (w3.alloc (.cells #[.slice OV xs.length cap] 24)) 64 #[Value.func (Fn.func 48) #[] #[.pointer (some ⟨w.heap.size, 0, none⟩), .pointer (some ⟨w3.heap.size, 0, none⟩), .pointer (some ⟨w.heap.size + 1, 0, none⟩), .pointer (some ⟨w1.heap.size, 0, none⟩), .pointer (some ⟨w3.heap.size + 1, 0, none⟩)]]; simpa using this)
      (own_mono own4 (by omega)) rfl (((H.out.1.below B3.out).alloc (by omega) _).alloc (by simp; omega) _) B4.out.size (by omega) ⟨by omega, by omega, by omega, by omega⟩ (fun k hk => by have := hown k hk; omega))
    generalize (w3.alloc (Obj.cells #[Value.slice OV xs.length cap] 24)).alloc (Obj.cells #[Value.func (Fn.func 48) #[] #[.pointer (some ⟨w.heap.size, 0, none⟩), .pointer (some ⟨w3.heap.size, 0, none⟩), .pointer (some ⟨w.heap.size + 1, 0, none⟩), .pointer (some ⟨w1.heap.size, 0, none⟩), .pointer (some ⟨w3.heap.size + 1, 0, none⟩)]] 64) = W4 at hS B4 ⊢
    clear own4 hown bM3 bL3 bR3 own b3 bM bA2 bL1 bR1 bL bR b1 bb c1 c2 hrd
    refine (walk_any HF.out xs.length 0 0 0 rfl (by omega) (Int.le_refl _) (Int.le_refl _) (-1) xs HF.out rfl (fun _ => False) (.inl ⟨rfl, fun _ h => h⟩) W4 hS.out).mono ?_
    rintro e w5 ⟨rfl, l', ys', hs5, _, _, _, hl5, b5⟩
    have HL5 := Lib.hid (hl5.congr (E := Cnt (carB xs rule) rule [] xs 0) (fun z => by simp))
    have B5 := Lib.hid (B4.out.trans b5)
    have k5 := hs5.bM.cell 0
    simp only [List.getElem?_toArray, List.getElem?_cons_zero] at k5
    have HV := Lib.hid (least_eq (wt_of HA.out).1 (wt_of HA.out).2 HL5.out)
    clear hs5 hl5 b5
    by_cases hneg : l' < 0
    · rw [if_pos hneg] at HV
      go_wp2_with fail
      go_ret2
      exact ⟨by rw [HT.out, HV.out]; first | done | rfl, B5.out⟩
    · rw [if_neg hneg] at HV
      go_wp2_with fail
      go_ret2
      exact ⟨by rw [HT.out, HV.out]; first | done | rfl, B5.out⟩
  · have HT := Lib.hid (show leastV xs rule = (0, vcodeB xs rule) by rw [leastV, if_neg hc])
    have hne : (vcodeB xs rule != 0) = true := by rw [bne_iff_ne]; exact hc
    clear hc
    go_enter Tryd.func20, Tryd.ntmps20
    go_wp2_with fail
    have bb : Below w.heap.size w ((w.alloc (.cells #[.slice A xs.length c] 24)).alloc (.cells #[.int .i64 rule] 2)) := ((Below.refl _ _).alloc (Nat.le_refl _) _).alloc (by simp) _
    refine (implCode_any xs rule A c _ (H.out.below bb)).mono ?_; rintro e w1 ⟨rfl, b1⟩
    go_wp2_with fail
    go_ret2
    exact ⟨by rw [HT.out]; first | done | rfl, bb.trans (b1.mono bb.size)⟩
end Go.Proofs.YtihhpmhigmegjaaDoor
namespace Go.Proofs.YtihhpmhigmegjaaDoor
open Go.ChangeShapes Go.WideShapes Go.ChangeAt Go.RowKit Go.Sort

theorem maj_car2 {xs : List Bal} {rule : Int} (h : majC xs rule = 0) : carT (castB xs (majL xs rule)) rule = #[.bool true, .int .i64 0] := by
  obtain ⟨h1, h2⟩ := maj_car h
  unfold carT
  rw [if_pos (maj_vcode h1 _), h2]
theorem maj_in2 {xs : List Bal} {rule : Int} (h : majC xs rule = 0) {k : Nat} (hk : k < xs.length) : inT (majN xs rule) xs[k].name = decide (k ∈ majL xs rule) := by
  unfold inT
  rw [decide_eq_decide, ixS_mem, ← nmAt_eq hk]
  exact maj_in h hk
theorem pivR_le {xs : List Bal} {rule : Int} : (pivR xs rule).length ≤ xs.length := by
  unfold pivR
  split
  · exact pivL_len _ _ _
  · simp
theorem majN_le {xs : List Bal} {rule : Int} : (majN xs rule).length ≤ xs.length := by
  unfold majN majL
  rw [List.length_map]
  split
  · have := (best_inc (n := xs.length) (good := goodB xs rule) (2 ^ xs.length)).len (Nat.zero_le _)
    omega
  · simp
set_option maxRecDepth 100000 in
set_option maxHeartbeats 8000000 in
theorem lawMajs_any (A : Option Addr) (n c : Nat) (w : World) (hn : n ≤ 9223372036854775807) (h : n ≤ 4096 → Code8 w A n) :
    Calls Tryd.prog 4 #[.slice A n c] w fun e w' => e = .returned (.bool true) ∧ Below w.heap.size w w' := by
  have HC := Lib.hid h; clear h
  by_cases hb : (4096 : Int) < n
  · have hd : decide ((4096 : Int) < n) = true := by simpa using hb
    have HD := Lib.hid hd; clear hd hb
    go_enter Tryd.func4, Tryd.ntmps4
    go_wp2_with fail
    refine (big_any A n c hn w).mono ?_; rw [HD.out]; rintro e w' ⟨rfl, rfl⟩
    go_wp2_with fail
    go_ret
    exact ⟨rfl, Below.refl _ _⟩
  · have hd : decide ((4096 : Int) < n) = false := by simpa using hb
    have HD := Lib.hid hd; clear hd
    have hc := HC.out (by omega)
    have Cd0 := Lib.hid hc; clear hc hb
    have B0 := Lib.hid (Below.refl w.heap.size w)
    go_enter Tryd.func4, Tryd.ntmps4
    go_wp2_with fail
    refine (big_any A n c hn w).mono ?_; rw [HD.out]; rintro e w' ⟨rfl, rfl⟩
    go_wp2_with fail
    refine (drawLea_any A n c w Cd0.out).mono ?_
    rintro e w1 ⟨L, r, Bq, dq, rfl, own, hsm1, hln1, b⟩
    have B1 := Lib.hid (B0.out.trans (b.mono B0.out.size))
    have Cd1 := Lib.hid (Cd0.out.below b)
    have OL1 := Lib.hid (own)
    clear b B0 Cd0
    clear Cd1
    clear own
    have hz1 : ∀ b ∈ L, b.name.size ≤ 9223372036854775807 := fun b hb => by have := hsm1 b hb; dsimp only [SmallB] at this; omega
    have HH1 := Lib.hid (fun W (h : W.ownsRow w.heap.size 32 3 (.slice Bq L.length dq) L.length (baC L)) => (⟨Reads.of_own h, by omega, hz1⟩ : HasBal W L Bq))
    clear hsm1
    have IL := Lib.hid (fun W (h : W.ownsRow w.heap.size 32 3 (.slice Bq L.length dq) L.length (baC L)) => implLeast_any L r Bq dq (own_none h) W (HH1.out W h))
    have SL := Lib.hid (fun W (h : W.ownsRow w.heap.size 32 3 (.slice Bq L.length dq) L.length (baC L)) => specLeast_any L r Bq dq W (HH1.out W h))
    have IP := Lib.hid (fun W (h : W.ownsRow w.heap.size 32 3 (.slice Bq L.length dq) L.length (baC L)) => implPiv_any L r Bq dq W (HH1.out W h))
    have SP := Lib.hid (fun W (h : W.ownsRow w.heap.size 32 3 (.slice Bq L.length dq) L.length (baC L)) => specPiv_any L r Bq dq W (HH1.out W h))
    have IM := Lib.hid (fun W (h : W.ownsRow w.heap.size 32 3 (.slice Bq L.length dq) L.length (baC L)) => implMaj_any L r Bq dq (own_none h) W (HH1.out W h))
    have SM := Lib.hid (fun W (h : W.ownsRow w.heap.size 32 3 (.slice Bq L.length dq) L.length (baC L)) => specMaj_any L r Bq dq W (HH1.out W h))
    have P1 := Lib.hid (fun h => maj_one (xs := L) (rule := r) h)
    have P2 := Lib.hid (fun h (k : Nat) (hk : k < L.length) => maj_in2 (xs := L) (rule := r) h hk)
    have IW := Lib.hid (fun (h0 : majC L r = 0) (C : Option Addr) (cc : Nat) W (h : Reads W W.heap.size 3 C (castB L (majL L r)).length (baC (castB L (majL L r)))) => (maj_car2 h0) ▸ implIsCar_any (castB L (majL L r)) r C cc W ⟨h, by rw [castB_len]; omega, fun b hb => by obtain ⟨b', hb', _, e⟩ := castTo_mem L _ _ b hb; rw [e]; exact hz1 b' hb'⟩)
    have HS := Lib.hid (fun (k : Nat) (hk : k < L.length) => castTo_step (I := majL L r) hk)
    have HB := Lib.hid (show castB L (majL L r) = castTo L (majL L r) L.length from rfl)
    have HBl := Lib.hid (castB_len L (majL L r))
    have hPl := pivR_le (xs := L) (rule := r)
    have hMl := majN_le (xs := L) (rule := r)
    clear hz1 HH1
    generalize pivR L r = P at *
    generalize majN L r = M at *
    generalize majC L r = mc at *
    generalize majL L r = I at *
    generalize leastV L r = lv at *
    generalize vcodeB L r = vc at *
    obtain ⟨ln, lc⟩ := lv
    dsimp only at P1 IL SL
    go_wp2_with fail
    refine (IL.out _ OL1.out).mono ?_
    rintro e w2 ⟨rfl, b⟩
    clear IL
    have B2 := Lib.hid (B1.out.trans (b.mono B1.out.size))
    have OL2 := Lib.hid (own_below OL1.out b)
    clear b B1 OL1
    go_wp2_with fail
    refine (SL.out _ OL2.out).mono ?_
    rintro e w3 ⟨rfl, b⟩
    clear SL
    have B3 := Lib.hid (B2.out.trans (b.mono B2.out.size))
    have OL3 := Lib.hid (own_below OL2.out b)
    clear b B2 OL2
    go_wp2_with fail
    refine (IP.out _ OL3.out).mono ?_
    rintro e w4 ⟨v, rfl, own, b⟩
    clear IP
    obtain ⟨AP, cP, rfl, _⟩ := own_shape own
    have B4 := Lib.hid (B3.out.trans (b.mono B3.out.size))
    have OL4 := Lib.hid (own_below OL3.out b)
    have OP4 := Lib.hid (own)
    clear b B3 OL3
    clear own
    go_wp2_with fail
    refine (SP.out _ OL4.out).mono ?_
    rintro e w5 ⟨v, rfl, own, b⟩
    clear SP
    obtain ⟨AQ, cQ, rfl, _⟩ := own_shape own
    have B5 := Lib.hid (B4.out.trans (b.mono B4.out.size))
    have OL5 := Lib.hid (own_below OL4.out b)
    have OP5 := Lib.hid (own_below OP4.out b)
    have OQ5 := Lib.hid (own)
    clear b B4 OL4 OP4
    clear own
    go_wp2_with fail
    refine (IM.out _ OL5.out).mono ?_
    rintro e w6 ⟨v, rfl, own, b⟩
    clear IM
    obtain ⟨AM, cM, rfl, _⟩ := own_shape own
    have B6 := Lib.hid (B5.out.trans (b.mono B5.out.size))
    have OL6 := Lib.hid (own_below OL5.out b)
    have OP6 := Lib.hid (own_below OP5.out b)
    have OQ6 := Lib.hid (own_below OQ5.out b)
    have OM6 := Lib.hid (own)
    clear b B5 OL5 OP5 OQ5
    clear own
    go_wp2_with fail
    refine (SM.out _ OL6.out).mono ?_
    rintro e w7 ⟨v, rfl, own, b⟩
    clear SM
    obtain ⟨AN, cN, rfl, _⟩ := own_shape own
    have B7 := Lib.hid (B6.out.trans (b.mono B6.out.size))
    have OL7 := Lib.hid (own_below OL6.out b)
    have OP7 := Lib.hid (own_below OP6.out b)
    have OQ7 := Lib.hid (own_below OQ6.out b)
    have OM7 := Lib.hid (own_below OM6.out b)
    have ON7 := Lib.hid (own)
    clear b B6 OL6 OP6 OQ6 OM6
    clear own
    go_wp2_with fail
    refine (likeTx_same P (by omega) AP AQ cP cQ _ (Reads.of_own OP7.out) (Reads.of_own OQ7.out)).mono ?_
    rintro e w8 ⟨rfl, b⟩
    have B8 := Lib.hid (B7.out.trans (b.mono B7.out.size))
    have OL8 := Lib.hid (own_below OL7.out b)
    have OP8 := Lib.hid (own_below OP7.out b)
    have OQ8 := Lib.hid (own_below OQ7.out b)
    have OM8 := Lib.hid (own_below OM7.out b)
    have ON8 := Lib.hid (own_below ON7.out b)
    clear b B7 OL7 OP7 OQ7 OM7 ON7
    clear OP8
    clear OQ8
    go_wp2_with fail
    refine (likeTx_same M (by omega) AM AN cM cN _ (Reads.of_own OM8.out) (Reads.of_own ON8.out)).mono ?_
    rintro e w9 ⟨rfl, b⟩
    have B9 := Lib.hid (B8.out.trans (b.mono B8.out.size))
    have OL9 := Lib.hid (own_below OL8.out b)
    have OM9 := Lib.hid (own_below OM8.out b)
    have ON9 := Lib.hid (own_below ON8.out b)
    clear b B8 OL8 OM8 ON8
    clear ON9
    go_upto_region 12 with (fail)
    go_cut [108] (fun v wx => v = .bool false ∧ Below w9.heap.size w9 wx)
    case first =>
      generalize P.length = pl at *
      by_cases hvc : vc = 0
      · subst hvc
        have h1 := P1.out rfl
        clear P1 P2 IW HS HB HBl
        by_cases hp : 0 < pl
        · have hp1 : (0 : Int) < (pl : Int) := by omega
          rw [decide_eq_true hp] at h1
          have h2 : lc = 0 ∧ ln = 1 := by simpa using h1.symm
          obtain ⟨rfl, rfl⟩ := h2
          clear h1
          go_wp2_with fail
          go_meet
          exact ⟨rfl, Below.refl _ _⟩
        · have hp1 : ¬ (0 : Int) < (pl : Int) := by omega
          rw [decide_eq_false hp] at h1
          by_cases hlc : lc = 0
          · subst hlc
            have hln2 : (ln == 1) = false := by simpa using h1.symm
            clear h1
            go_wp2_with fail
            go_meet
            exact ⟨rfl, Below.refl _ _⟩
          · have hlc1 : (lc == 0) = false := by simpa using hlc
            clear h1
            go_wp2_with fail
            go_meet
            exact ⟨rfl, Below.refl _ _⟩
      · have hvc1 : (vc == 0) = false := by simpa using hvc
        clear P1 P2 IW HS HB HBl
        go_wp2_with fail
        go_meet
        exact ⟨rfl, Below.refl _ _⟩
    case rest =>
      obtain ⟨rfl, b⟩ := hcut
      generalize wc = w10 at *
      clear wc P1
      have B10 := Lib.hid (B9.out.trans (b.mono B9.out.size))
      have OL10 := Lib.hid (own_below OL9.out b)
      have OM10 := Lib.hid (own_below OM9.out b)
      clear b B9 OL9 OM9
      by_cases hmc : mc = 0
      rotate_left
      · have hmc1 : (mc != 0) = true := by simpa using hmc
        clear P2 IW HS HB HBl
        go_wp2_with fail
        go_ret
        exact ⟨rfl, B10.out⟩
      subst hmc
      have P2' := Lib.hid (P2.out rfl); have IW' := Lib.hid (IW.out rfl)
      clear P2 IW
      obtain ⟨i0, hi0, hz0, hz1, hz2⟩ := info_parts infoBal
      have OW := Lib.hid (World.ownsRow_made (e := 32) (base := w10.heap.size) (size := 3) w10 #[] 0 (Nat.le_refl _) (by decide) rfl)
      have BA := Lib.hid (show Below w10.heap.size w10 (w10.alloc (.cells #[] 32)) from (Below.refl _ _).alloc (Nat.le_refl _) _)
      go_wp2_with fail
      go_loopw [17, 18] (fun v17 v18 wr => ∃ (k : Nat) (Vq : Option Addr) (vq : Nat), k ≤ L.length ∧ v17 = .slice Vq k vq ∧ Hid (wr.ownsRow w10.heap.size 32 3 (.slice Vq k vq) k (baC (castTo L I k))) ∧ Hid (Below w10.heap.size w10 wr) ∧ v18 = .int .i64 (k : Int)) (fun _ v _ => L.length - (intOf v).toNat)
      case atStart => exact ⟨0, _, 0, by omega, rfl, OW.out, BA.out, rfl⟩
      case round =>
        clear OW BA
        obtain ⟨k, Vq, vq, hk, rfl, OV, BW, rfl⟩ := hrel
        have OL := Lib.hid (own_below OL10.out BW.out); have OM := Lib.hid (own_below OM10.out BW.out)
        have hwr := BW.out.size
        by_cases hlt : k < L.length
        · obtain ⟨ab, ao, rfl, hadb, hcell⟩ := (Reads.of_own OL.out).2 (by omega)
          obtain ⟨e0, e1, e2⟩ := baC_get L k hlt
          have c0 := hcell _ _ e0
          have c1 := hcell _ _ e1
          have c2 := hcell _ _ e2
          rw [← Nat.add_assoc] at c1 c2
          clear hcell e0 e1 e2
          have HS1 := Lib.hid (HS.out k hlt)
          have HI1 := Lib.hid (P2'.out k hlt)
          generalize L[k] = x at c0 c1 c2 HS1 HI1
          obtain ⟨xn, xc, xw⟩ := x
          dsimp only at c0 c1 c2 HS1 HI1
          have k1 : (0 : Int) ≤ (k : Int) := by omega
          have k2 : (k : Int) < (L.length : Int) := by omega
          go_upto_region 21 with (fail)
          have T1 := Lib.hid (blks_one wr 32 #[.string xn, .int .i64 xc, .int .i64 xw])
          generalize hW1 : wr.alloc (.cells #[.string xn, .int .i64 xc, .int .i64 xw] 32) = W1
          obtain ⟨kb, bw, hsz⟩ := T1.out W1 hW1.symm
          clear hW1 T1 c0 c1 c2
          have fz := kb.frozen 1
          obtain ⟨q0, q1, q2⟩ := cells_3 kb
          have KB := Lib.hid kb; have BX := Lib.hid bw; have hsz1 := Nat.le_of_eq hsz.symm
          clear kb bw hsz
          go_upto_region 22 with (fail)
          clear fz q0 q1 q2
          generalize hW2 : W1.setCell ⟨wr.heap.size, 1, none⟩ (.int .i64 (-1)) = W2
          have K2 := Lib.hid (show Blk W2 wr.heap.size 32 #[.string xn, .int .i64 (-1), .int .i64 xw] by rw [← hW2]; simpa using KB.out.set_ 1 (.int .i64 (-1)))
          have BX2 := Lib.hid (show Below wr.heap.size wr W2 by rw [← hW2]; exact BX.out.setCell (by simp) _)
          have hz2' : wr.heap.size + 1 ≤ W2.heap.size := by rw [← hW2]; simpa [World.setCell] using hsz1
          clear hW2 KB BX
          obtain ⟨q0, q1, q2⟩ := cells_3 K2.out
          have HT := Lib.hid (hasText_any M xn (by omega) AM cM W2 (Reads.of_own (own_below OM.out BX2.out)))
          rw [HI1.out] at HT
          go_wp2_with fail
          by_cases hin : k ∈ I
          · rw [decide_eq_true hin] at HT
            rw [if_pos hin] at HS1
            refine HT.out.mono ?_
            rintro e w3 ⟨rfl, b⟩
            have K3 := Lib.hid (K2.out.below b K2.out.lt)
            have BX3 := Lib.hid (BX2.out.trans (b.mono BX2.out.size))
            have hz3 := b.size
            clear b q0 q1 q2 HT K2 BX2
            have fz := K3.out.frozen 1
            obtain ⟨q0, q1, q2⟩ := cells_3 K3.out
            go_upto_region 24 with (fail)
            clear fz q0 q1 q2
            generalize hW4 : w3.setCell ⟨wr.heap.size, 1, none⟩ (.int .i64 1) = w4
            have K4 := Lib.hid (show Blk w4 wr.heap.size 32 #[.string xn, .int .i64 1, .int .i64 xw] by rw [← hW4]; simpa using K3.out.set_ 1 (.int .i64 1))
            have BX4 := Lib.hid (show Below wr.heap.size wr w4 by rw [← hW4]; exact BX3.out.setCell (by simp) _)
            have hz4 : wr.heap.size + 1 ≤ w4.heap.size := by rw [← hW4]; simp [World.setCell]; omega
            clear hW4 K3 BX3
            have OV4 := Lib.hid (own_below OV.out BX4.out)
            obtain ⟨q0, q1, q2⟩ := cells_3 K4.out
            go_wp2_with (at_builtin; refine wpList_append_any _ rfl (.tmp 128) (.tmp 130) _ rfl w10.heap.size 32 i0 _ 3 32 Tryd.underlying24 hi0 hz0 hz1 hz2 rfl (by omega) (.slice Vq k vq) k (baC (castTo L I k)) rfl (OV4.out.alloc _) _ (some ⟨w4.heap.size, 0, none⟩) 1 1 [.string xn, .int .i64 1, .int .i64 xw] rfl (new_vs _ _ _ _ rfl) (by simp [Value.oneCell']) (by simp only [maxLen]; omega) (by omega) (by simp; omega) ?_; intro v5 w5 hown5 hg5 hat5; obtain ⟨V5, d5, rfl, _⟩ := own_shape hown5)
            have HO5 := Lib.hid (show w5.ownsRow w10.heap.size 32 3 (.slice V5 (k + 1) d5) (k + 1) (baC (castTo L I (k + 1))) by rw [HS1.out]; simpa [baC, Bal.cells] using hown5)
            have HB5 := Lib.hid (below_own ((BW.out.trans (BX4.out.mono BW.out.size)).alloc (by omega) _) (OV4.out.alloc _) hg5 (Nat.le_refl _) (by simp; omega))
            clear hown5 hg5 hat5
            go_roundw
            case rel => exact ⟨k + 1, V5, d5, by omega, rfl, HO5.out, HB5.out, by go_num⟩
            case measure => simp [intOf]; omega
          · rw [decide_eq_false hin] at HT
            rw [if_neg hin] at HS1
            refine HT.out.mono ?_
            rintro e w4 ⟨rfl, b⟩
            have K4 := Lib.hid (K2.out.below b K2.out.lt)
            have BX4 := Lib.hid (BX2.out.trans (b.mono BX2.out.size))
            have hz3 := b.size
            have hz4 : wr.heap.size + 1 ≤ w4.heap.size := by omega
            clear b q0 q1 q2 HT K2 BX2
            have OV4 := Lib.hid (own_below OV.out BX4.out)
            obtain ⟨q0, q1, q2⟩ := cells_3 K4.out
            go_wp2_with (at_builtin; refine wpList_append_any _ rfl (.tmp 128) (.tmp 130) _ rfl w10.heap.size 32 i0 _ 3 32 Tryd.underlying24 hi0 hz0 hz1 hz2 rfl (by omega) (.slice Vq k vq) k (baC (castTo L I k)) rfl (OV4.out.alloc _) _ (some ⟨w4.heap.size, 0, none⟩) 1 1 [.string xn, .int .i64 (-1), .int .i64 xw] rfl (new_vs _ _ _ _ rfl) (by simp [Value.oneCell']) (by simp only [maxLen]; omega) (by omega) (by simp; omega) ?_; intro v5 w5 hown5 hg5 hat5; obtain ⟨V5, d5, rfl, _⟩ := own_shape hown5)
            have HO5 := Lib.hid (show w5.ownsRow w10.heap.size 32 3 (.slice V5 (k + 1) d5) (k + 1) (baC (castTo L I (k + 1))) by rw [HS1.out]; simpa [baC, Bal.cells] using hown5)
            have HB5 := Lib.hid (below_own ((BW.out.trans (BX4.out.mono BW.out.size)).alloc (by omega) _) (OV4.out.alloc _) hg5 (Nat.le_refl _) (by simp; omega))
            clear hown5 hg5 hat5
            go_roundw
            case rel => exact ⟨k + 1, V5, d5, by omega, rfl, HO5.out, HB5.out, by go_num⟩
            case measure => simp [intOf]; omega
        · obtain rfl : k = L.length := by omega
          have OVR := Lib.hid (Reads.of_own OV.out)
          have BB := Lib.hid (B10.out.trans (BW.out.mono B10.out.size))
          have IW2 := Lib.hid (IW'.out Vq vq wr)
          rw [HBl.out, HB.out] at IW2
          have IW3 := Lib.hid (IW2.out OVR.out)
          clear IW2 HS HB HBl OL OM
          go_wp2_with fail
          refine IW3.out.mono ?_
          rintro e w3 ⟨rfl, b⟩
          go_wp2_with fail
          go_ret
          exact ⟨rfl, BB.out.trans (b.mono BB.out.size)⟩
end Go.Proofs.YtihhpmhigmegjaaDoor
