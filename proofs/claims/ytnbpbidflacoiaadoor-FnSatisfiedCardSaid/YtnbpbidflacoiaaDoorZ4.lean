/- DrawOpposite, DrawReplacePlaceIn, DrawLengthOf of the reference. -/
import Derived.Test.YtnbpbidflacoiaaDoorRows
import Derived.Test.YtnbpbidflacoiaaDoorL0
import Derived.Test.YtnbpbidflacoiaaDoorM0
import Derived.WalkKit
import Derived.ProofKit
import Derived.OpenShut
import Derived.BigQuiet
import Derived.Outline
import Derived.WalkSpells
import Derived.WalkLawsBesides
import Derived.Deep.DeepCutAuto
import Derived.Test.YtnbpbidflacoiaaDoorRT
import Derived.Test.YtnbpbidflacoiaaDoorRU
import Derived.Test.YtnbpbidflacoiaaDoorZ3
namespace Go.Proofs.YtnbpbidflacoiaaDoor
open Go.ChangeShapes Go.WideShapes Go.ChangeAt Go.RowKit

set_option maxRecDepth 100000 in
/-- l01From over a base that lies lower than the world. -/
theorem from_anyB (bs : List UInt8) (A : Option Addr) (c B : Nat) (w : World) (hB : B ≤ w.heap.size) (hr : Reads w B 1 A bs.length (byC bs)) (hn : bs.length ≤ 4096) :
    Calls Tryd.prog 41 #[.slice A bs.length c] w fun e w' => ∃ g, e = .returned (.pointer (some ⟨g, 0, none⟩)) ∧ Src w' B g ∧ w.heap.size ≤ g ∧ Below w.heap.size w w' := by
  have HR := Lib.hid hr; clear hr
  go_enter Tryd.func41, Tryd.ntmps41
  go_wp2_with fail
  go_loopw [4] (fun v4 wr => ∃ (k : Nat) (seed : Int), k ≤ bs.length ∧ 0 ≤ seed ∧ seed < 2147483647 ∧ Hid (Blk wr w.heap.size 91 #[.slice A bs.length c, .int .i64 0, .int .i64 seed]) ∧ Hid (Below w.heap.size w wr) ∧ v4 = .int .i64 k) (fun i _ => bs.length - (intOf i).toNat)
  case atStart => exact ⟨0, 51031, by omega, by omega, by omega, Blk.new _ _ _, (Below.refl _ _).alloc (Nat.le_refl _) _, rfl⟩
  case round =>
    obtain ⟨k, seed, hk, hs0, hs1, HB, BW, rfl⟩ := hrel
    by_cases hlt : k < bs.length ∧ k < 64
    · obtain ⟨hlt, h64⟩ := hlt
      obtain ⟨ab, ao, rfl, hadb, hcell⟩ := (HR.out.below (BW.out.mono hB)).2 (by omega)
      have c0 := hcell _ _ (byC_get bs k hlt)
      clear hcell
      have hby : bs[k].toNat < 256 := bs[k].toNat_lt
      generalize bs[k].toNat = b at c0 hby
      obtain ⟨c1, c2, c3, c4, c5⟩ := three_cells HB.out
      have e1 : IntKind.i64.wrap (seed * 73) = seed * 73 := IntWalk.i64_in _ (by omega)
      have e2 : IntKind.i64.wrap (seed * 73 + b) = seed * 73 + b := IntWalk.i64_in _ (by omega)
      have e3 : (seed * 73 + (b : Int)).tmod 2147483647 = (seed * 73 + b) % 2147483647 := Int.tmod_eq_emod_of_nonneg (by omega)
      go_wp2_with fail
      go_still_tail 15, (by kernel_rfl)
      change wpList _ _ _ _ _ (World.drew _)
      go_wp2_with fail
      go_roundw
      case rel =>
        refine ⟨k + 1, (seed * 73 + b) % 2147483647, by omega, by omega, by omega, ?_, BW.out.drew.setCell (Nat.le_refl _) _, by go_num⟩
        refine Lib.hid ?_
        simpa [World.setCell_drew] using (HB.out.set_ 2 _).drew
      case measure => simp [intOf]; omega
    · go_wp2_with fail
      all_goals
        go_ret
        exact ⟨w.heap.size, rfl, ⟨bs, A, c, 0, seed, (HR.out.below (BW.out.mono hB)), hn, by omega, hs0, hs1, hB, HB.out⟩, Nat.le_refl _, BW.out⟩
theorem codeB (A : Option Addr) (n c : Nat) (w W : World) (h : Code8 w A n) (hb : Below w.heap.size w W) :
    Calls Tryd.prog 41 #[.slice A n c] W fun e w' => ∃ g, e = .returned (.pointer (some ⟨g, 0, none⟩)) ∧ Src w' w.heap.size g ∧ W.heap.size ≤ g ∧ Below W.heap.size W w' := by
  obtain ⟨bs, rfl, h2, h3⟩ := h
  exact from_anyB bs A c w.heap.size W hb.size (h3.below hb) h2
abbrev set6 (w : World) (r : Nat) (v0 v1 v2 v3 v4 v5 : Value) : World := (((((w.setCell ⟨r, 0, none⟩ v0).setCell ⟨r, 1, none⟩ v1).setCell ⟨r, 2, none⟩ v2).setCell ⟨r, 3, none⟩ v3).setCell ⟨r, 4, none⟩ v4).setCell ⟨r, 5, none⟩ v5
theorem set6_blk {w : World} {r : Nat} {t : TypeId} {z0 z1 z2 z3 z4 z5 : Value} (h : Blk w r t #[z0, z1, z2, z3, z4, z5]) (v0 v1 v2 v3 v4 v5 : Value) : Blk (set6 w r v0 v1 v2 v3 v4 v5) r t #[v0, v1, v2, v3, v4, v5] := by
  simpa using (((((h.set_ 0 v0).set_ 1 v1).set_ 2 v2).set_ 3 v3).set_ 4 v4).set_ 5 v5
theorem set6_only (w : World) (r : Nat) (v0 v1 v2 v3 v4 v5 : Value) : Only w (set6 w r v0 v1 v2 v3 v4 v5) r :=
  only_set (only_set (only_set (only_set (only_set (only_set (only_refl w r) 0 v0) 1 v1) 2 v2) 3 v3) 4 v4) 5 v5
/-- The worlds of a region that draws from g and stores one struct into r. -/
structure SB (w0 W : World) (B g r c : Nat) (t : TypeId) (V : Array Value) (v : World) : Prop where
  src : Src v B g
  only : Only w0 v g
  sz : W.heap.size ≤ v.heap.size
  cB : Blk v c t V
  rB : ∃ z0 z1 z2 z3 z4 z5, Blk v r t #[z0, z1, z2, z3, z4, z5]
  cg : c ≠ g
  rg : r ≠ g
  cr : c ≠ r
  w0r : w0.heap.size ≤ r
  br : B ≤ r
def R2 (g r : Nat) (v0 v1 v2 v3 v4 v5 : Value) (w w' : World) : Prop := Only w w' g ∨ w' = set6 w r v0 v1 v2 v3 v4 v5
section
variable {w0 W v : World} {B g r c : Nat} {t : TypeId} {V : Array Value} {v0 v1 v2 v3 v4 v5 : Value}
theorem SB.go {v' : World} (h : SB w0 W B g r c t V v) (hs : Src v' B g) (ho : Only v v' g) : SB w0 W B g r c t V v' := by
  obtain ⟨z0, z1, z2, z3, z4, z5, hr⟩ := h.rB
  exact ⟨hs, only_trans h.only ho, Nat.le_trans h.sz ho.size, h.cB.grown ho (by intro e; injection e with e; exact h.cg e), ⟨z0, z1, z2, z3, z4, z5, hr.grown ho (by intro e; injection e with e; exact h.rg e)⟩, h.cg, h.rg, h.cr, h.w0r, h.br⟩
theorem SB.drew (h : SB w0 W B g r c t V v) : SB w0 W B g r c t V v.drew :=
  h.go (h.src.below (Below.refl v.heap.size v).drew) (only_drewN (only_refl v g) 1)
theorem SB.alloc (h : SB w0 W B g r c t V v) (o : Obj) : SB w0 W B g r c t V (v.alloc o) :=
  h.go (h.src.alloc o) (only_of_below ((Below.refl _ _).alloc (Nat.le_refl _) _))
theorem SB.stored (h : SB w0 W B g r c t V v) (v0 v1 v2 v3 v4 v5 : Value) : SB w0 W B g r c t V (set6 v r v0 v1 v2 v3 v4 v5) ∧ Blk (set6 v r v0 v1 v2 v3 v4 v5) r t #[v0, v1, v2, v3, v4, v5] := by
  obtain ⟨z0, z1, z2, z3, z4, z5, hr⟩ := h.rB
  obtain ⟨s, o⟩ := six_new h.only h.src h.w0r h.rg h.br v0 v1 v2 v3 v4 v5
  have ho := set6_only v r v0 v1 v2 v3 v4 v5
  exact ⟨⟨s, o, Nat.le_trans h.sz ho.size, h.cB.grown ho (by intro e; injection e with e; exact h.cr e), ⟨v0, v1, v2, v3, v4, v5, set6_blk hr v0 v1 v2 v3 v4 v5⟩, h.cg, h.rg, h.cr, h.w0r, h.br⟩, set6_blk hr v0 v1 v2 v3 v4 v5⟩
theorem stable_or {p : Value → World → Prop} (h1 : StableS (fun w w' => Only w w' g) p) (h2 : StableS (fun w w' => Only w w' r) p) : StableS (R2 g r v0 v1 v2 v3 v4 v5) p := by
  intro w w' v h hp
  rcases h with h | rfl
  · exact h1 _ _ _ h hp
  · exact h2 _ _ _ (set6_only w r v0 v1 v2 v3 v4 v5) hp
theorem stable_st (hg : r ≠ g) : StableS (R2 g r v0 v1 v2 v3 v4 v5) (fun _ w => Blk w r t #[v0, v1, v2, v3, v4, v5]) := by
  intro w w' v h hp
  rcases h with h | rfl
  · exact hp.grown h (by intro e; injection e with e; exact hg e)
  · exact set6_blk hp v0 v1 v2 v3 v4 v5
end

/-- A drawn description and a code. -/
def DrawnOpp (w : World) (e : Ending) (w' : World) : Prop := ∃ (d : Dsc) (s : ByteArray), e = .returned (.tuple #[d.val, .string s]) ∧ d.Ok ∧ s.size ≤ 100 ∧ Below w.heap.size w w'
set_option maxRecDepth 100000 in
set_option maxHeartbeats 1000000 in
theorem drawOpp_any (A : Option Addr) (n c : Nat) (w : World) (h : Code8 w A n) :
    Calls Tryd.prog 9 #[.slice A n c] w (DrawnOpp w) := by
  have mixed : Tryd.prog.follows Departure.mixedOrders = true := by kernel_rfl
  have HC := Lib.hid h; clear h
  have KN := Lib.hid (blks_one w 25 #[.int .i64 0, .int .i64 0, .string ⟨#[]⟩, .int .i64 0, .string ⟨#[]⟩, .string ⟨#[]⟩])
  go_enter Tryd.func9, Tryd.ntmps9
  go_wp2_with fail
  generalize hW : w.alloc (.cells #[.int .i64 0, .int .i64 0, .string ⟨#[]⟩, .int .i64 0, .string ⟨#[]⟩, .string ⟨#[]⟩] 25) = W
  obtain ⟨b0, bw, hwz⟩ := KN.out W hW.symm
  have hwz := Nat.le_of_eq hwz.symm
  clear hW KN
  refine (codeB A n c w W HC.out bw).mono ?_
  rintro e w1 ⟨g, rfl, hs1, hgb, b1⟩
  obtain ⟨B, hBe⟩ : ∃ B, B = w.heap.size := ⟨_, rfl⟩
  rw [← hBe] at hs1
  have hB1 : B ≤ w.heap.size := by omega
  have hB0 : w.heap.size ≤ B := by omega
  have hB2 : B ≤ w1.heap.size := by have := b1.size; omega
  have hgl := hs1.lt
  have N1 := Lib.hid (only_of_below (bw.trans (b1.mono bw.size)) : Only w w1 g)
  have Kr1 := Lib.hid (b0.below b1 b0.lt)
  have S1 := Lib.hid hs1
  clear b0 bw hs1 b1 hBe hwz HC
  go_wp2_with fail
  refine (drawD_any B g w1 S1.out hB2).mono ?_
  rintro e w2 ⟨⟨kd, ct, un, dr, a, b⟩, rfl, ok, hs2, ho2⟩
  unfold Dsc.val
  dsimp only
  have oka : a.size ≤ 9223372036854775807 := ok.2.1
  have Kr2 := Lib.hid ((Kr1.out).grown ho2 (by intro e; injection e with e; omega))
  have N2 := Lib.hid (only_trans N1.out ho2)
  have S2 := Lib.hid hs2
  have szq2 : w1.heap.size ≤ w2.heap.size := by have := ho2.size; (try simp at this); omega
  clear ho2 hs2 S1 N1 Kr1
  go_upto_region 3 with (fail)
  generalize hW3 : w2.alloc (.cells #[.int .i64 kd, .int .i64 ct, .string un, .int .i64 dr, .string a, .string b] 25) = w3
  have Kc3 := Lib.hid (show Blk w3 w2.heap.size 25 #[.int .i64 kd, .int .i64 ct, .string un, .int .i64 dr, .string a, .string b] by rw [← hW3]; exact Blk.new _ _ _)
  have Kr3 := Lib.hid (show Blk w3 w.heap.size 25 #[.int .i64 0, .int .i64 0, .string ⟨#[]⟩, .int .i64 0, .string ⟨#[]⟩, .string ⟨#[]⟩] by rw [← hW3]; exact Kr2.out.alloc _)
  have S3 := Lib.hid (show Src w3 B g by rw [← hW3]; exact S2.out.alloc _)
  have N3 := Lib.hid (show Only w w3 g by rw [← hW3]; exact only_trans N2.out (only_of_below ((Below.refl _ _).alloc (Nat.le_refl _) _)))
  have szq3 : w2.heap.size + 1 ≤ w3.heap.size := Kc3.out.lt
  clear hW3 S2 N2 Kr2
  have hWB : B ≤ w3.heap.size := by omega
  have hgW : g < w3.heap.size := by omega
  have hS0 : SB w w3 B g w.heap.size w2.heap.size 25 #[.int .i64 kd, .int .i64 ct, .string un, .int .i64 dr, .string a, .string b] w3.drew := SB.drew ⟨S3.out, N3.out, Nat.le_refl _, Kc3.out, ⟨_, _, _, _, _, _, Kr3.out⟩, by omega, by omega, by omega, Nat.le_refl _, by omega⟩
  refine' wp_region_slots (SB w w3 B g w.heap.size w2.heap.size 25 #[.int .i64 kd, .int .i64 ct, .string un, .int .i64 dr, .string a, .string b]) (R2 g w.heap.size (.int .i64 kd) (.int .i64 ct) (.string un) (.int .i64 dr) (.string a) (.string b)) [isV (.agg #[.int .i64 kd, .int .i64 ct, .string un, .int .i64 dr, .string a, .string b]), isRow 9 w3.heap.size [.string ⟨#[100, 101, 118, 97]⟩, .string ⟨#[101, 108, 121]⟩, .string ⟨#[97, 115, 104]⟩, .string ⟨#[111, 102]⟩, .string ⟨#[]⟩], isV (.pointer (some ⟨g, 0, none⟩)), isInt (0) (4), isAt 9 w3.heap.size [.string ⟨#[100, 101, 118, 97]⟩, .string ⟨#[101, 108, 121]⟩, .string ⟨#[97, 115, 104]⟩, .string ⟨#[111, 102]⟩, .string ⟨#[]⟩], isStr 100, (fun _ wz => Blk wz w.heap.size 25 #[.int .i64 kd, .int .i64 ct, .string un, .int .i64 dr, .string a, .string b])] mixed (by kernel_rfl) (by kernel_rfl) hS0 ?_ _ _ ?_ ?_ ?_
  · exact AllStable.cons (stable_or (stable_V _ _) (stable_V _ _)) (AllStable.cons (stable_or (stable_Row _ (by omega) _ _) (stable_Row _ (by omega) _ _)) (AllStable.cons (stable_or (stable_V _ _) (stable_V _ _)) (AllStable.cons (stable_or (stable_Int _ _ _) (stable_Int _ _ _)) (AllStable.cons (stable_or (stable_At _ (by omega) _ _) (stable_At _ (by omega) _ _)) (AllStable.cons (stable_or (stable_Str _ _) (stable_Str _ _)) (AllStable.cons (stable_st (t := 25) (r := w.heap.size) (g := g) (v0 := .int .i64 kd) (v1 := .int .i64 ct) (v2 := .string un) (v3 := .int .i64 dr) (v4 := .string a) (v5 := .string b) (by omega)) (AllStable.nil)))))))
  rotate_left 2
  · intro f; simp only [lay, List.setIfInBounds_toArray, List.set_cons_succ, List.set_cons_zero, Nat.reduceAdd]; exact rfl
  · refine AllTo.cons ?_ ?_
    · intro f v4 hS hT K hK
      have hc0 : v4.cell? ⟨w2.heap.size, 0, none⟩ = some (.int .i64 kd) := by rw [(hS.cB).cell]; rfl
      have hc1 : v4.cell? ⟨w2.heap.size, 1, none⟩ = some (.int .i64 ct) := by rw [(hS.cB).cell]; rfl
      have hc2 : v4.cell? ⟨w2.heap.size, 2, none⟩ = some (.string un) := by rw [(hS.cB).cell]; rfl
      have hc3 : v4.cell? ⟨w2.heap.size, 3, none⟩ = some (.int .i64 dr) := by rw [(hS.cB).cell]; rfl
      have hc4 : v4.cell? ⟨w2.heap.size, 4, none⟩ = some (.string a) := by rw [(hS.cB).cell]; rfl
      have hc5 : v4.cell? ⟨w2.heap.size, 5, none⟩ = some (.string b) := by rw [(hS.cB).cell]; rfl
      simp only [Act.put, List.setIfInBounds_toArray, List.set_cons_succ, List.set_cons_zero] at hK
      go_simp
      exact hK.out _ _ (rfl) hS (Or.inl (only_refl _ _))
    refine AllTo.cons ?_ ?_
    · intro f v4 hS hT K hK
      simp only [Act.put, List.setIfInBounds_toArray, List.set_cons_succ, List.set_cons_zero] at hK
      go_simp
      exact hK.out _ _ ⟨v4.heap.size, rfl, hS.sz, Blk.new _ _ _⟩ (hS.alloc _) (Or.inl (only_of_below ((Below.refl _ _).alloc (Nat.le_refl _) _)))
    refine AllTo.cons ?_ ?_
    · intro f v4 hS hT K hK
      simp only [Act.put, List.setIfInBounds_toArray, List.set_cons_succ, List.set_cons_zero] at hK
      go_simp
      exact hK.out _ _ (rfl) hS (Or.inl (only_refl _ _))
    refine AllTo.cons ?_ ?_
    · intro f v4 hS hT K hK
      have e0 := hT 2 _ rfl rfl
      dsimp only [isV] at e0
      simp only [Act.put, List.setIfInBounds_toArray, List.set_cons_succ, List.set_cons_zero, e0] at hK
      go_simp
      refine (draw_any 5 B g v4 hS.src (Nat.le_trans hWB hS.sz)).mono ?_
      rintro e w1 ⟨x, rfl, x0, x1, _, hs1, ho1⟩
      exact hK.out _ _ ⟨x, rfl, x0, by have := x1 (by omega); omega⟩ (hS.go hs1 ho1) (Or.inl ho1)
    refine AllTo.cons ?_ ?_
    · intro f v4 hS hT K hK
      obtain ⟨ba, ea, na, ka⟩ := hT 1 _ rfl rfl
      obtain ⟨xi, ei, li, ui⟩ := hT 3 _ rfl rfl
      obtain ⟨k, rfl⟩ : ∃ k : Nat, xi = k := ⟨xi.toNat, by omega⟩
      have hkn : (k : Int) < 5 := by omega
      simp only [Act.put, List.setIfInBounds_toArray, List.set_cons_succ, List.set_cons_zero, ea, ei] at hK
      go_simp
      exact hK.out _ _ ⟨ba, k, rfl, by simp; omega, na, ka⟩ hS (Or.inl (only_refl _ _))
    refine AllTo.cons ?_ ?_
    · intro f v4 hS hT K hK
      obtain ⟨ba, ia, ea, ta, na, ka⟩ := hT 4 _ rfl rfl
      obtain ⟨s, hc, hsz⟩ := strs_at (n := 100) rfl ka ta
      simp only [Act.put, List.setIfInBounds_toArray, List.set_cons_succ, List.set_cons_zero, ea] at hK
      go_simp
      exact hK.out _ _ (⟨s, rfl, hsz⟩) hS (Or.inl (only_refl _ _))
    refine AllTo.cons ?_ ?_
    · intro f v4 hS hT K hK
      have e0 := hT 0 _ rfl rfl
      dsimp only [isV] at e0
      obtain ⟨z0, z1, z2, z3, z4, z5, hr⟩ := hS.rB
      obtain ⟨g0, g1, g2, g3, g4, g5, g6, g7, g8, g9, g10, g11, g12, g13, g14, g15, g16, g17⟩ := six_facts hr
      obtain ⟨hs6, hb6⟩ := hS.stored (.int .i64 kd) (.int .i64 ct) (.string un) (.int .i64 dr) (.string a) (.string b)
      simp only [Act.put, List.setIfInBounds_toArray, List.set_cons_succ, List.set_cons_zero, e0] at hK
      go_simp
      exact hK.out (.bool true) (set6 v4 w.heap.size (.int .i64 kd) (.int .i64 ct) (.string un) (.int .i64 dr) (.string a) (.string b)) hb6 hs6 (Or.inr rfl)
    exact AllTo.nil
  · intro f v4 hS hT K hK
    obtain ⟨s, e5, hsz⟩ := hT 5 _ rfl
    have hR := hT 6 _ rfl
    go_simp
    refine hK.out _ _ ?_
    clear hT hK K e5
    obtain ⟨m0, m1, m2, m3, m4, m5⟩ := six_cells hR
    go_wp2_with fail
    exact bodyPost_ret (v := .tuple #[.agg #[.int .i64 kd, .int .i64 ct, .string un, .int .i64 dr, .string a, .string b], .string s]) (by simp [results, Tryd.results9, go_sem, m0, m1, m2, m3, m4, m5]) rfl ⟨⟨kd, ct, un, dr, a, b⟩, s, rfl, ok, hsz, only_below hS.only (by omega) (Nat.le_refl _)⟩
/-- A drawn description and two codes. -/
def DrawnRep (w : World) (e : Ending) (w' : World) : Prop := ∃ (d : Dsc) (s t : ByteArray), e = .returned (.tuple #[d.val, .string s, .string t]) ∧ d.Ok ∧ s.size ≤ 9223372036854775807 ∧ t.size ≤ 100 ∧ Below w.heap.size w w'
set_option maxRecDepth 100000 in
set_option maxHeartbeats 1000000 in
theorem drawRep_any (A : Option Addr) (n c : Nat) (w : World) (h : Code8 w A n) :
    Calls Tryd.prog 15 #[.slice A n c] w (DrawnRep w) := by
  have mixed : Tryd.prog.follows Departure.mixedOrders = true := by kernel_rfl
  have HC := Lib.hid h; clear h
  have KN := Lib.hid (blks_one w 25 #[.int .i64 0, .int .i64 0, .string ⟨#[]⟩, .int .i64 0, .string ⟨#[]⟩, .string ⟨#[]⟩])
  go_enter Tryd.func15, Tryd.ntmps15
  go_wp2_with fail
  generalize hW : w.alloc (.cells #[.int .i64 0, .int .i64 0, .string ⟨#[]⟩, .int .i64 0, .string ⟨#[]⟩, .string ⟨#[]⟩] 25) = W
  obtain ⟨b0, bw, hwz⟩ := KN.out W hW.symm
  have hwz := Nat.le_of_eq hwz.symm
  clear hW KN
  refine (codeB A n c w W HC.out bw).mono ?_
  rintro e w1 ⟨g, rfl, hs1, hgb, b1⟩
  obtain ⟨B, hBe⟩ : ∃ B, B = w.heap.size := ⟨_, rfl⟩
  rw [← hBe] at hs1
  have hB1 : B ≤ w.heap.size := by omega
  have hB0 : w.heap.size ≤ B := by omega
  have hB2 : B ≤ w1.heap.size := by have := b1.size; omega
  have hgl := hs1.lt
  have N1 := Lib.hid (only_of_below (bw.trans (b1.mono bw.size)) : Only w w1 g)
  have Kr1 := Lib.hid (b0.below b1 b0.lt)
  have S1 := Lib.hid hs1
  clear b0 bw hs1 b1 hBe hwz HC
  go_wp2_with fail
  refine (drawD_any B g w1 S1.out hB2).mono ?_
  rintro e w2 ⟨⟨kd, ct, un, dr, a, b⟩, rfl, ok, hs2, ho2⟩
  unfold Dsc.val
  dsimp only
  have oka : a.size ≤ 9223372036854775807 := ok.2.1
  have Kr2 := Lib.hid ((Kr1.out).grown ho2 (by intro e; injection e with e; omega))
  have N2 := Lib.hid (only_trans N1.out ho2)
  have S2 := Lib.hid hs2
  have szq2 : w1.heap.size ≤ w2.heap.size := by have := ho2.size; (try simp at this); omega
  clear ho2 hs2 S1 N1 Kr1
  go_upto_region 3 with (fail)
  generalize hW3 : w2.alloc (.cells #[.int .i64 kd, .int .i64 ct, .string un, .int .i64 dr, .string a, .string b] 25) = w3
  have Kc3 := Lib.hid (show Blk w3 w2.heap.size 25 #[.int .i64 kd, .int .i64 ct, .string un, .int .i64 dr, .string a, .string b] by rw [← hW3]; exact Blk.new _ _ _)
  have Kr3 := Lib.hid (show Blk w3 w.heap.size 25 #[.int .i64 0, .int .i64 0, .string ⟨#[]⟩, .int .i64 0, .string ⟨#[]⟩, .string ⟨#[]⟩] by rw [← hW3]; exact Kr2.out.alloc _)
  have S3 := Lib.hid (show Src w3 B g by rw [← hW3]; exact S2.out.alloc _)
  have N3 := Lib.hid (show Only w w3 g by rw [← hW3]; exact only_trans N2.out (only_of_below ((Below.refl _ _).alloc (Nat.le_refl _) _)))
  have szq3 : w2.heap.size + 1 ≤ w3.heap.size := Kc3.out.lt
  clear hW3 S2 N2 Kr2
  have hWB : B ≤ w3.heap.size := by omega
  have hgW : g < w3.heap.size := by omega
  have hS0 : SrcOnly w3 B g w3.drew := SrcOnly.drew ⟨S3.out, only_refl _ _⟩
  refine' wp_region_slots (SrcOnly w3 B g) (fun w w' => Only w w' g) [isV (.pointer (some ⟨w2.heap.size, 4, none⟩)), isV (.string a), isRowT 9 w3.heap.size 5 9223372036854775807, isV (.pointer (some ⟨g, 0, none⟩)), isInt (0) (4), isAtT 9 w3.heap.size 5 9223372036854775807, isStr 9223372036854775807] mixed (by kernel_rfl) (by kernel_rfl) hS0 ?_ _ _ ?_ ?_ ?_
  · exact AllStable.cons (stable_V _ _) (AllStable.cons (stable_V _ _) (AllStable.cons (stable_RowT _ (by omega) _ _) (AllStable.cons (stable_V _ _) (AllStable.cons (stable_Int _ _ _) (AllStable.cons (stable_AtT _ (by omega) _ _) (AllStable.cons (stable_Str _ _) (AllStable.nil)))))))
  rotate_left 2
  · intro f; simp only [lay, List.setIfInBounds_toArray, List.set_cons_succ, List.set_cons_zero, Nat.reduceAdd]; exact rfl
  · refine AllTo.cons ?_ ?_
    · intro f v4 hS hT K hK
      simp only [Act.put, List.setIfInBounds_toArray, List.set_cons_succ, List.set_cons_zero] at hK
      go_simp
      exact hK.out _ _ (rfl) hS (only_refl _ _)
    refine AllTo.cons ?_ ?_
    · intro f v4 hS hT K hK
      have ea := hT 0 _ rfl rfl
      dsimp only [isV] at ea
      have hc : v4.cell? ⟨w2.heap.size, 4, none⟩ = some (.string a) := by rw [(Kc3.out.grown hS.2 (by intro e; injection e with e; omega)).cell]; rfl
      simp only [Act.put, List.setIfInBounds_toArray, List.set_cons_succ, List.set_cons_zero, ea] at hK
      go_simp
      exact hK.out _ _ (rfl) hS (only_refl _ _)
    refine AllTo.cons ?_ ?_
    · intro f v4 hS hT K hK
      have ep4 := hT 1 _ rfl rfl
      dsimp only [isV] at ep4
      simp only [Act.put, List.setIfInBounds_toArray, List.set_cons_succ, List.set_cons_zero, ep4] at hK
      go_simp
      exact hK.out _ _ ⟨[.string ⟨#[97, 115, 104]⟩, .string ⟨#[98, 114, 105, 103]⟩, .string ⟨#[100, 101, 118, 97]⟩, .string ⟨#[]⟩, .string a], v4.heap.size, rfl, rfl, strsB_of (by simp only [List.mem_cons, List.not_mem_nil, or_false]; rintro v (rfl | rfl | rfl | rfl | rfl) <;> first | exact ⟨_, rfl, by assumption⟩ | exact ⟨_, rfl, by decide⟩), hS.2.size, Blk.new _ _ _⟩ (hS.alloc _).1 (hS.alloc _).2
    refine AllTo.cons ?_ ?_
    · intro f v4 hS hT K hK
      simp only [Act.put, List.setIfInBounds_toArray, List.set_cons_succ, List.set_cons_zero] at hK
      go_simp
      exact hK.out _ _ (rfl) hS (only_refl _ _)
    refine AllTo.cons ?_ ?_
    · intro f v4 hS hT K hK
      have e0 := hT 3 _ rfl rfl
      dsimp only [isV] at e0
      simp only [Act.put, List.setIfInBounds_toArray, List.set_cons_succ, List.set_cons_zero, e0] at hK
      go_simp
      refine (draw_any 5 B g v4 hS.1 (Nat.le_trans hWB hS.2.size)).mono ?_
      rintro e w1 ⟨x, rfl, x0, x1, _, hs1, ho1⟩
      exact hK.out _ _ ⟨x, rfl, x0, by have := x1 (by omega); omega⟩ (hS.go hs1 ho1) ho1
    refine AllTo.cons ?_ ?_
    · intro f v4 hS hT K hK
      obtain ⟨csa, ba, ea, la, ta, na, ka⟩ := hT 2 _ rfl rfl
      obtain ⟨xi, ei, li, ui⟩ := hT 4 _ rfl rfl
      obtain ⟨k, rfl⟩ : ∃ k : Nat, xi = k := ⟨xi.toNat, by omega⟩
      have hkn : (k : Int) < 5 := by omega
      simp only [Act.put, List.setIfInBounds_toArray, List.set_cons_succ, List.set_cons_zero, ea, ei] at hK
      go_simp
      exact hK.out _ _ ⟨csa, ba, k, rfl, by omega, la, ta, na, ka⟩ hS (only_refl _ _)
    refine AllTo.cons ?_ ?_
    · intro f v4 hS hT K hK
      obtain ⟨csa, ba, ia, ea, ta, la, ya, na, ka⟩ := hT 5 _ rfl rfl
      obtain ⟨s, hc, hsz⟩ := strs_at (n := 9223372036854775807) ya ka (by rw [la]; exact ta)
      simp only [Act.put, List.setIfInBounds_toArray, List.set_cons_succ, List.set_cons_zero, ea] at hK
      go_simp
      exact hK.out _ _ (⟨s, rfl, hsz⟩) hS (only_refl _ _)
    exact AllTo.nil
  · intro f v4 hS hT K hK
    skip
    have Kr4 := Lib.hid (Kr3.out.grown hS.2 (by intro e; injection e with e; omega))
    have Kc4 := Lib.hid (Kc3.out.grown hS.2 (by intro e; injection e with e; omega))
    have S4 := Lib.hid hS.1
    have N4 := Lib.hid (only_trans N3.out hS.2)
    have szq4 := hS.2.size
    clear hS S3 N3 Kr3 Kc3
    obtain ⟨s, e6, hsz⟩ := hT 6 _ rfl
    go_simp
    refine hK.out _ _ ?_
    clear hT hK K e6
    obtain ⟨m0, m1, m2, m3, m4, m5⟩ := six_cells Kc4.out
    go_upto_region 4 with (fail)
    clear m0 m1 m2 m3 m4 m5
    have hWB : B ≤ v4.heap.size := by omega
    have hgW : g < v4.heap.size := by omega
    have hS0 : SB w v4 B g w.heap.size w2.heap.size 25 #[.int .i64 kd, .int .i64 ct, .string un, .int .i64 dr, .string a, .string b] v4.drew := SB.drew ⟨S4.out, N4.out, Nat.le_refl _, Kc4.out, ⟨_, _, _, _, _, _, Kr4.out⟩, by omega, by omega, by omega, Nat.le_refl _, by omega⟩
    refine' wp_region_slots (SB w v4 B g w.heap.size w2.heap.size 25 #[.int .i64 kd, .int .i64 ct, .string un, .int .i64 dr, .string a, .string b]) (R2 g w.heap.size (.int .i64 kd) (.int .i64 ct) (.string un) (.int .i64 dr) (.string a) (.string b)) [isV (.agg #[.int .i64 kd, .int .i64 ct, .string un, .int .i64 dr, .string a, .string b]), isV (.string s), isRow 9 v4.heap.size [.string ⟨#[101, 108, 121]⟩, .string ⟨#[100, 101, 118, 97]⟩, .string ⟨#[97, 115, 104]⟩, .string ⟨#[111, 102]⟩], isV (.pointer (some ⟨g, 0, none⟩)), isInt (0) (3), isAt 9 v4.heap.size [.string ⟨#[101, 108, 121]⟩, .string ⟨#[100, 101, 118, 97]⟩, .string ⟨#[97, 115, 104]⟩, .string ⟨#[111, 102]⟩], isStr 100, (fun _ wz => Blk wz w.heap.size 25 #[.int .i64 kd, .int .i64 ct, .string un, .int .i64 dr, .string a, .string b]), isV (.string s)] mixed (by kernel_rfl) (by kernel_rfl) hS0 ?_ _ _ ?_ ?_ ?_
    · exact AllStable.cons (stable_or (stable_V _ _) (stable_V _ _)) (AllStable.cons (stable_or (stable_V _ _) (stable_V _ _)) (AllStable.cons (stable_or (stable_Row _ (by omega) _ _) (stable_Row _ (by omega) _ _)) (AllStable.cons (stable_or (stable_V _ _) (stable_V _ _)) (AllStable.cons (stable_or (stable_Int _ _ _) (stable_Int _ _ _)) (AllStable.cons (stable_or (stable_At _ (by omega) _ _) (stable_At _ (by omega) _ _)) (AllStable.cons (stable_or (stable_Str _ _) (stable_Str _ _)) (AllStable.cons (stable_st (t := 25) (r := w.heap.size) (g := g) (v0 := .int .i64 kd) (v1 := .int .i64 ct) (v2 := .string un) (v3 := .int .i64 dr) (v4 := .string a) (v5 := .string b) (by omega)) (AllStable.cons (stable_or (stable_V _ _) (stable_V _ _)) (AllStable.nil)))))))))
    rotate_left 2
    · intro f; simp only [lay, List.setIfInBounds_toArray, List.set_cons_succ, List.set_cons_zero, Nat.reduceAdd]; exact rfl
    · refine AllTo.cons ?_ ?_
      · intro f v5 hS hT K hK
        have hc0 : v5.cell? ⟨w2.heap.size, 0, none⟩ = some (.int .i64 kd) := by rw [(hS.cB).cell]; rfl
        have hc1 : v5.cell? ⟨w2.heap.size, 1, none⟩ = some (.int .i64 ct) := by rw [(hS.cB).cell]; rfl
        have hc2 : v5.cell? ⟨w2.heap.size, 2, none⟩ = some (.string un) := by rw [(hS.cB).cell]; rfl
        have hc3 : v5.cell? ⟨w2.heap.size, 3, none⟩ = some (.int .i64 dr) := by rw [(hS.cB).cell]; rfl
        have hc4 : v5.cell? ⟨w2.heap.size, 4, none⟩ = some (.string a) := by rw [(hS.cB).cell]; rfl
        have hc5 : v5.cell? ⟨w2.heap.size, 5, none⟩ = some (.string b) := by rw [(hS.cB).cell]; rfl
        simp only [Act.put, List.setIfInBounds_toArray, List.set_cons_succ, List.set_cons_zero] at hK
        go_simp
        exact hK.out _ _ (rfl) hS (Or.inl (only_refl _ _))
      refine AllTo.cons ?_ ?_
      · intro f v5 hS hT K hK
        simp only [Act.put, List.setIfInBounds_toArray, List.set_cons_succ, List.set_cons_zero] at hK
        go_simp
        exact hK.out _ _ (rfl) hS (Or.inl (only_refl _ _))
      refine AllTo.cons ?_ ?_
      · intro f v5 hS hT K hK
        simp only [Act.put, List.setIfInBounds_toArray, List.set_cons_succ, List.set_cons_zero] at hK
        go_simp
        exact hK.out _ _ ⟨v5.heap.size, rfl, hS.sz, Blk.new _ _ _⟩ (hS.alloc _) (Or.inl (only_of_below ((Below.refl _ _).alloc (Nat.le_refl _) _)))
      refine AllTo.cons ?_ ?_
      · intro f v5 hS hT K hK
        simp only [Act.put, List.setIfInBounds_toArray, List.set_cons_succ, List.set_cons_zero] at hK
        go_simp
        exact hK.out _ _ (rfl) hS (Or.inl (only_refl _ _))
      refine AllTo.cons ?_ ?_
      · intro f v5 hS hT K hK
        have e0 := hT 3 _ rfl rfl
        dsimp only [isV] at e0
        simp only [Act.put, List.setIfInBounds_toArray, List.set_cons_succ, List.set_cons_zero, e0] at hK
        go_simp
        refine (draw_any 4 B g v5 hS.src (Nat.le_trans hWB hS.sz)).mono ?_
        rintro e w1 ⟨x, rfl, x0, x1, _, hs1, ho1⟩
        exact hK.out _ _ ⟨x, rfl, x0, by have := x1 (by omega); omega⟩ (hS.go hs1 ho1) (Or.inl ho1)
      refine AllTo.cons ?_ ?_
      · intro f v5 hS hT K hK
        obtain ⟨ba, ea, na, ka⟩ := hT 2 _ rfl rfl
        obtain ⟨xi, ei, li, ui⟩ := hT 4 _ rfl rfl
        obtain ⟨k, rfl⟩ : ∃ k : Nat, xi = k := ⟨xi.toNat, by omega⟩
        have hkn : (k : Int) < 4 := by omega
        simp only [Act.put, List.setIfInBounds_toArray, List.set_cons_succ, List.set_cons_zero, ea, ei] at hK
        go_simp
        exact hK.out _ _ ⟨ba, k, rfl, by simp; omega, na, ka⟩ hS (Or.inl (only_refl _ _))
      refine AllTo.cons ?_ ?_
      · intro f v5 hS hT K hK
        obtain ⟨ba, ia, ea, ta, na, ka⟩ := hT 5 _ rfl rfl
        obtain ⟨s, hc, hsz⟩ := strs_at (n := 100) rfl ka ta
        simp only [Act.put, List.setIfInBounds_toArray, List.set_cons_succ, List.set_cons_zero, ea] at hK
        go_simp
        exact hK.out _ _ (⟨s, rfl, hsz⟩) hS (Or.inl (only_refl _ _))
      refine AllTo.cons ?_ ?_
      · intro f v5 hS hT K hK
        have e0 := hT 0 _ rfl rfl
        dsimp only [isV] at e0
        obtain ⟨z0, z1, z2, z3, z4, z5, hr⟩ := hS.rB
        obtain ⟨g0, g1, g2, g3, g4, g5, g6, g7, g8, g9, g10, g11, g12, g13, g14, g15, g16, g17⟩ := six_facts hr
        obtain ⟨hs6, hb6⟩ := hS.stored (.int .i64 kd) (.int .i64 ct) (.string un) (.int .i64 dr) (.string a) (.string b)
        simp only [Act.put, List.setIfInBounds_toArray, List.set_cons_succ, List.set_cons_zero, e0] at hK
        go_simp
        exact hK.out (.bool true) (set6 v5 w.heap.size (.int .i64 kd) (.int .i64 ct) (.string un) (.int .i64 dr) (.string a) (.string b)) hb6 hs6 (Or.inr rfl)
      refine AllTo.cons ?_ ?_
      · intro f v5 hS hT K hK
        have e0 := hT 1 _ rfl rfl
        dsimp only [isV] at e0
        simp only [Act.put, List.setIfInBounds_toArray, List.set_cons_succ, List.set_cons_zero, e0] at hK
        go_simp
        exact hK.out _ _ (rfl) hS (Or.inl (only_refl _ _))
      exact AllTo.nil
    · intro f v5 hS hT K hK
      obtain ⟨q, e6, hqz⟩ := hT 6 _ rfl
      have hR := hT 7 _ rfl
      have e8 := hT 8 _ rfl
      dsimp only [isV] at e8
      go_simp
      refine hK.out _ _ ?_
      clear hT hK K e6
      obtain ⟨m0, m1, m2, m3, m4, m5⟩ := six_cells hR
      go_wp2_with fail
      exact bodyPost_ret (v := .tuple #[.agg #[.int .i64 kd, .int .i64 ct, .string un, .int .i64 dr, .string a, .string b], .string s, .string q]) (by simp [results, Tryd.results15, go_sem, m0, m1, m2, m3, m4, m5, e8]) rfl ⟨⟨kd, ct, un, dr, a, b⟩, s, q, rfl, ok, hsz, hqz, only_below hS.only (by omega) (Nat.le_refl _)⟩
/-- A drawn description. -/
def DrawnLen (w : World) (e : Ending) (w' : World) : Prop := ∃ d : Dsc, e = .returned d.val ∧ d.Ok ∧ Below w.heap.size w w'
set_option maxRecDepth 100000 in
set_option maxHeartbeats 1000000 in
theorem drawLen_any (A : Option Addr) (n c : Nat) (w : World) (h : Code8 w A n) :
    Calls Tryd.prog 18 #[.slice A n c] w (DrawnLen w) := by
  have mixed : Tryd.prog.follows Departure.mixedOrders = true := by kernel_rfl
  have HC := Lib.hid h; clear h
  have KN := Lib.hid (blks_one w 25 #[.int .i64 0, .int .i64 0, .string ⟨#[]⟩, .int .i64 0, .string ⟨#[]⟩, .string ⟨#[]⟩])
  go_enter Tryd.func18, Tryd.ntmps18
  go_wp2_with fail
  generalize hW : w.alloc (.cells #[.int .i64 0, .int .i64 0, .string ⟨#[]⟩, .int .i64 0, .string ⟨#[]⟩, .string ⟨#[]⟩] 25) = W
  obtain ⟨b0, bw, hwz⟩ := KN.out W hW.symm
  have hwz := Nat.le_of_eq hwz.symm
  clear hW KN
  refine (codeB A n c w W HC.out bw).mono ?_
  rintro e w1 ⟨g, rfl, hs1, hgb, b1⟩
  obtain ⟨B, hBe⟩ : ∃ B, B = w.heap.size := ⟨_, rfl⟩
  rw [← hBe] at hs1
  have hB1 : B ≤ w.heap.size := by omega
  have hB0 : w.heap.size ≤ B := by omega
  have hB2 : B ≤ w1.heap.size := by have := b1.size; omega
  have hgl := hs1.lt
  have N1 := Lib.hid (only_of_below (bw.trans (b1.mono bw.size)) : Only w w1 g)
  have Kr1 := Lib.hid (b0.below b1 b0.lt)
  have S1 := Lib.hid hs1
  clear b0 bw hs1 b1 hBe hwz HC
  go_wp2_with fail
  refine (drawD_any B g w1 S1.out hB2).mono ?_
  rintro e w2 ⟨⟨kd, ct, un, dr, a, b⟩, rfl, ok, hs2, ho2⟩
  unfold Dsc.val
  dsimp only
  have oka : a.size ≤ 9223372036854775807 := ok.2.1
  have Kr2 := Lib.hid ((Kr1.out).grown ho2 (by intro e; injection e with e; omega))
  have N2 := Lib.hid (only_trans N1.out ho2)
  have S2 := Lib.hid hs2
  have szq2 : w1.heap.size ≤ w2.heap.size := by have := ho2.size; (try simp at this); omega
  clear ho2 hs2 S1 N1 Kr1
  obtain ⟨g0, g1, g2, g3, g4, g5, g6, g7, g8, g9, g10, g11, g12, g13, g14, g15, g16, g17⟩ := six_facts Kr2.out
  go_wp2_with fail
  exact bodyPost_ret (v := .agg #[.int .i64 kd, .int .i64 ct, .string un, .int .i64 dr, .string a, .string b]) (by simp [results, Tryd.results18, go_sem, g12, g13, g14, g15, g16, g17]) rfl ⟨⟨kd, ct, un, dr, a, b⟩, rfl, ok, ((((((only_below N2.out (by omega) (Nat.le_refl _)).setCell (p := ⟨_, 0, none⟩) (Nat.le_refl _) _).setCell (p := ⟨_, 1, none⟩) (Nat.le_refl _) _).setCell (p := ⟨_, 2, none⟩) (Nat.le_refl _) _).setCell (p := ⟨_, 3, none⟩) (Nat.le_refl _) _).setCell (p := ⟨_, 4, none⟩) (Nat.le_refl _) _).setCell (p := ⟨_, 5, none⟩) (Nat.le_refl _) _⟩
end Go.Proofs.YtnbpbidflacoiaaDoor
