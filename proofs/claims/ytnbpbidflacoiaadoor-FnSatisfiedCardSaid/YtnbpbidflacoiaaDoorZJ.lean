/- DrawCountSatisfied of the reference. -/
import Derived.Test.YtnbpbidflacoiaaDoorRows
import Derived.Test.YtnbpbidflacoiaaDoorL0
import Derived.Test.YtnbpbidflacoiaaDoorM0
import Derived.WalkKit
import Derived.ProofKit
import Derived.OpenShut
import Derived.BigQuiet
import Derived.Outline
import Derived.WalkSpells
import Derived.WalkLawsBesides
import Derived.Deep.DeepCutAuto
import Derived.Test.YtnbpbidflacoiaaDoorZI
namespace Go.Proofs.YtnbpbidflacoiaaDoor
open Go.ChangeShapes Go.WideShapes Go.ChangeAt Go.RowKit

/-- A row of drawn descriptions. -/
def isDs (N : Nat) : Value → World → Prop := fun v w => ∃ (L : List Dsc) (Bq : Option Addr) (dq base : Nat), v = .slice Bq L.length dq ∧ w.ownsRow base 25 6 (.slice Bq L.length dq) L.length (dsC L) ∧ N ≤ base ∧ (∀ s ∈ L, s.Ok) ∧ L.length ≤ 20
theorem stable_Ds (g : Nat) {N : Nat} (h : g < N) : StableS (fun w w' => Only w w' g) (isDs N) := fun _ _ _ ho ⟨L, Bq, dq, base, e, own, hb, r⟩ => ⟨L, Bq, dq, base, e, own_only own ho (by omega), hb, r⟩
/-- Drawn sites, descriptions and a point. -/
def DrawnCnt (w : World) (e : Ending) (w' : World) : Prop := ∃ (L : List Sit) (M : List Dsc) (px py : Int) (Bq Bm : Option Addr) (dq dm : Nat), e = .returned (.tuple #[.slice Bq L.length dq, .slice Bm M.length dm, .agg #[.int .i64 px, .int .i64 py]]) ∧ w'.ownsRow w.heap.size 81 3 (.slice Bq L.length dq) L.length (siC L) ∧ w'.ownsRow w.heap.size 25 6 (.slice Bm M.length dm) M.length (dsC M) ∧ (∀ s ∈ L, SmallSt s) ∧ L.length ≤ 30 ∧ (∀ s ∈ M, s.Ok) ∧ M.length ≤ 20 ∧ Below w.heap.size w w'
set_option maxRecDepth 100000 in
set_option maxHeartbeats 4000000 in
theorem drawCnt_any (A : Option Addr) (n c : Nat) (w : World) (h : Code8 w A n) :
    Calls Tryd.prog 30 #[.slice A n c] w (DrawnCnt w) := by
  have mixed : Tryd.prog.follows Departure.mixedOrders = true := by kernel_rfl
  have HC := Lib.hid h; clear h
  have KN := Lib.hid (blks_one w 52 #[.int .i64 0, .int .i64 0])
  go_enter Tryd.func30, Tryd.ntmps30
  go_wp2_with fail
  generalize hW : (w.alloc (.cells #[.int .i64 0, .int .i64 0] 52)) = W
  obtain ⟨b0s, bw, hwz⟩ := KN.out W hW.symm
  have hwz := Nat.le_of_eq hwz.symm
  clear hW KN
  refine (codeB A n c w W HC.out bw).mono ?_
  rintro e w1 ⟨g, rfl, hs1, hgb, b1⟩
  obtain ⟨B, hBe⟩ : ∃ B, B = w.heap.size := ⟨_, rfl⟩
  rw [← hBe] at hs1
  have hB1 : B ≤ w.heap.size := by omega
  have hB0 : w.heap.size ≤ B := by omega
  have hB2 : B ≤ w1.heap.size := by have := b1.size; omega
  have hgl := hs1.lt
  have N1 := Lib.hid (only_of_below (bw.trans (b1.mono bw.size)) : Only w w1 g)
  have Ks1 := Lib.hid (b0s.below b1 b0s.lt)
  have S1 := Lib.hid hs1
  have HC1 := Lib.hid (Code8.below HC.out (bw.trans (b1.mono bw.size)))
  clear b0s bw hs1 b1 hBe hwz HC
  go_wp2_with fail
  refine (drawDoes_any A n c w1 HC1.out).mono ?_
  rintro e w2 ⟨L, ⟨kd, ct, un, dr, a, b⟩, px, py, Bq, dq, rfl, own, HL, hl, ok, b2⟩
  unfold Dsc.val
  dsimp only
  obtain ⟨wb, hwb⟩ : ∃ wb, wb = w1.heap.size := ⟨_, rfl⟩
  rw [← hwb] at own
  have hgw : g < wb := by omega
  have O2 := Lib.hid own
  have HL := Lib.hid HL
  clear own HC1 ok
  have szw := hgb
  have Ks2 := Lib.hid (Ks1.out.below b2 Ks1.out.lt)
  have S2 := Lib.hid (S1.out.below b2)
  have N2 := Lib.hid (only_trans N1.out (only_of_below b2))
  have szq2 : w1.heap.size ≤ w2.heap.size := b2.size
  clear b2 S1 N1 Ks1
  have HNEs := Lib.hid (show ∀ k, (Value.slice Bq L.length dq).ownBlock = some k → k ≠ w.heap.size from fun k hk => by have := (own_lt O2.out k hk).1; omega)
  go_upto_region 3 with (fail)
  generalize hW3 : (w2.alloc (.cells #[.int .i64 kd, .int .i64 ct, .string un, .int .i64 dr, .string a, .string b] 25)).alloc (.cells #[.int .i64 px, .int .i64 py] 52) = w3
  have bw : Below w2.heap.size w2 w3 := by rw [← hW3]; exact ((Below.refl _ _).alloc (Nat.le_refl _) _).alloc (by simp) _
  have kp : Blk w3 (w2.heap.size + 1) 52 #[.int .i64 px, .int .i64 py] := by rw [← hW3]; exact (by simpa using Blk.new (w2.alloc (.cells #[.int .i64 kd, .int .i64 ct, .string un, .int .i64 dr, .string a, .string b] 25)) 52 #[.int .i64 px, .int .i64 py])
  have O3 := Lib.hid (own_below O2.out bw)
  have Kp3 := Lib.hid kp
  clear hW3 kp O2
  have Ks3 := Lib.hid (Ks2.out.below bw Ks2.out.lt)
  have S3 := Lib.hid (S2.out.below bw)
  have N3 := Lib.hid (only_trans N2.out (only_of_below bw))
  have szq3 : w2.heap.size ≤ w3.heap.size := bw.size
  clear bw S2 N2 Ks2
  have hWB : B ≤ w3.heap.size := by omega
  have hgW : g < w3.heap.size := by omega
  have hS0 : SrcOnly w3 B g w3.drew := SrcOnly.drew ⟨S3.out, only_refl _ _⟩
  refine' wp_region_slots (SrcOnly w3 B g) (fun w w' => Only w w' g) [isV (.slice Bq L.length dq), isV (.pointer (some ⟨g, 0, none⟩)), isDs w3.heap.size, isV (.agg #[.int .i64 px, .int .i64 py]), isV (.slice Bq L.length dq), isDs w3.heap.size] mixed (by kernel_rfl) (by kernel_rfl) hS0 ?_ _ _ ?_ ?_ ?_
  · exact AllStable.cons (stable_V _ _) (AllStable.cons (stable_V _ _) (AllStable.cons (stable_Ds g (by omega)) (AllStable.cons (stable_V _ _) (AllStable.cons (stable_V _ _) (AllStable.cons (stable_Ds g (by omega)) (AllStable.nil))))))
  rotate_left 2
  · intro f; simp only [List.length_cons, List.length_nil, Nat.reduceAdd, List.take_succ_cons, List.take_zero, lay, List.setIfInBounds_toArray, List.set_cons_succ, List.set_cons_zero, Nat.reduceAdd]; exact rfl
  · refine AllTo.cons ?_ ?_
    · intro f v4 hS hT K hK
      simp only [Act.put, List.setIfInBounds_toArray, List.set_cons_succ, List.set_cons_zero] at hK
      go_simp
      exact hK.out _ _ (rfl) hS (only_refl _ _)
    refine AllTo.cons ?_ ?_
    · intro f v4 hS hT K hK
      simp only [Act.put, List.setIfInBounds_toArray, List.set_cons_succ, List.set_cons_zero] at hK
      go_simp
      exact hK.out _ _ (rfl) hS (only_refl _ _)
    refine AllTo.cons ?_ ?_
    · intro f v4 hS hT K hK
      have e0 := hT 1 _ rfl rfl
      dsimp only [isV] at e0
      simp only [Act.put, List.setIfInBounds_toArray, List.set_cons_succ, List.set_cons_zero, e0] at hK
      go_simp
      refine (listD_any B g v4 hS.1 (Nat.le_trans hWB hS.2.size)).mono ?_
      rintro e w1 ⟨M, Bm, dm, rfl, own2, HM, hm, hs1, ho1⟩
      exact hK.out _ _ (⟨M, Bm, dm, v4.heap.size, rfl, own2, hS.2.size, HM, hm⟩) (hS.go hs1 ho1) ho1
    refine AllTo.cons ?_ ?_
    · intro f v4 hS hT K hK
      have hc0 : v4.cell? ⟨(w2.heap.size + 1), 0, none⟩ = some (.int .i64 px) := by rw [(Kp3.out.grown hS.2 (by intro e; injection e with e; omega)).cell]; rfl
      have hc1 : v4.cell? ⟨(w2.heap.size + 1), 1, none⟩ = some (.int .i64 py) := by rw [(Kp3.out.grown hS.2 (by intro e; injection e with e; omega)).cell]; rfl
      simp only [Act.put, List.setIfInBounds_toArray, List.set_cons_succ, List.set_cons_zero] at hK
      go_simp
      exact hK.out _ _ (rfl) hS (only_refl _ _)
    refine AllTo.cons ?_ ?_
    · intro f v4 hS hT K hK
      have e0 := hT 0 _ rfl rfl
      dsimp only [isV] at e0
      simp only [Act.put, List.setIfInBounds_toArray, List.set_cons_succ, List.set_cons_zero, e0] at hK
      go_simp
      exact hK.out _ _ (rfl) hS (only_refl _ _)
    refine AllTo.cons ?_ ?_
    · intro f v4 hS hT K hK
      obtain ⟨M, Bm, dm, base, e0, own2, hbase, HM, hm⟩ := hT 2 _ rfl rfl
      simp only [Act.put, List.setIfInBounds_toArray, List.set_cons_succ, List.set_cons_zero, e0] at hK
      go_simp
      exact hK.out _ _ (⟨M, Bm, dm, base, rfl, own2, hbase, HM, hm⟩) hS (only_refl _ _)
    exact AllTo.nil
  · intro f v4 hS hT K hK
    skip
    have Ks4 := Lib.hid (Ks3.out.grown hS.2 (by intro e; injection e with e; omega))
    have Kp4 := Lib.hid (Kp3.out.grown hS.2 (by intro e; injection e with e; omega))
    have S4 := Lib.hid hS.1
    have N4 := Lib.hid (only_trans N3.out hS.2)
    have szq4 := hS.2.size
    have O4 := Lib.hid (own_only O3.out hS.2 hgw)
    clear O3
    clear hS S3 N3 Ks3 Kp3
    have e17 := hT 4 _ rfl
    obtain ⟨M, Bm, dm, base, e19, own2, hbase, HM, hm⟩ := hT 5 _ rfl
    have e20 := hT 3 _ rfl
    dsimp only [isV] at e17 e20
    obtain ⟨f0, f1, f2, f3, f4, f5⟩ := facts_2 Ks4.out
    have HNM : ∀ k, (Value.slice Bm M.length dm).ownBlock = some k → k ≠ w.heap.size := fun k hk => by have := (own_lt own2 k hk).1; omega
    obtain ⟨kq, kept⟩ := stored_2 Ks4.out S4.out N4.out (by omega) (by omega) (by omega) (.int .i64 px) (.int .i64 py) _ rfl
    have OG := Lib.hid (kept.own O4.out HNEs.out)
    have OM := Lib.hid (kept.own own2 HNM)
    have NG := Lib.hid kept.only
    obtain ⟨q0, q1⟩ := cells_2 kq
    clear kq kept own2 HNM
    go_simp
    refine hK.out _ _ ?_
    clear hT hK K
    go_wp2_with fail
    exact bodyPost_ret (v := .tuple #[.slice Bq L.length dq, .slice Bm M.length dm, .agg #[.int .i64 px, .int .i64 py]]) (by simp [results, Tryd.results30, go_sem, e17, e19, f4, f5, q0, q1]) rfl ⟨L, M, px, py, Bq, Bm, dq, dm, rfl, own_mono OG.out (by omega), own_mono OM.out (by omega), HL.out, hl, HM, hm, only_below NG.out (by omega) (Nat.le_refl _)⟩
end Go.Proofs.YtnbpbidflacoiaaDoor
