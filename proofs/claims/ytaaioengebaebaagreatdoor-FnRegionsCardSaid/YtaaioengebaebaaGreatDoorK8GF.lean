/- l15Good, l15Draw of the reference: a drawn point. l29Sites of the reference: drawn sites. -/
import Derived.Test.YtaaioengebaebaaGreatDoorRows
import Derived.Test.YtaaioengebaebaaGreatDoorK8GA
import Derived.WalkKit
import Derived.ProofKit
import Derived.OpenShut
import Derived.BigQuiet
import Derived.Outline
import Derived.WalkSpells
import Derived.WalkLawsBesides
import Derived.Deep.DeepCutAuto
import Derived.Test.YtaaioengebaebaaGreatDoorK8GB
import Derived.Test.YtaaioengebaebaaGreatDoorK8GD
import Derived.Deep.AppendLies
namespace Go.Proofs.YtaaioengebaebaaGreatDoor
open Go.ChangeShapes Go.WideShapes Go.ChangeAt Go.RowKit

/-- A drawn point. -/
def DrawnPt (w : World) (B g : Nat) (e : Ending) (w' : World) : Prop := ∃ x y : Int, e = .returned (.agg #[.int .i64 x, .int .i64 y]) ∧ (-1001 ≤ x ∧ x ≤ 1001) ∧ (-1001 ≤ y ∧ y ≤ 1001) ∧ Src w' B g ∧ Only w w' g
set_option maxRecDepth 100000 in
set_option maxHeartbeats 1000000 in
theorem goodPt_any (B g : Nat) (w : World) (hs : Src w B g) (hB : B ≤ w.heap.size) :
    Calls Tryz.prog 119 #[.pointer (some ⟨g, 0, none⟩)] w (DrawnPt w B g) := by
  have hgl := hs.lt
  have HS := Lib.hid hs; clear hs
  have KN := Lib.hid (blks_one w 32 #[.int .i64 0, .int .i64 0])
  go_enter Tryz.func119, Tryz.ntmps119
  go_wp2_with fail
  generalize hW : w.alloc (.cells #[.int .i64 0, .int .i64 0] 32) = w1
  obtain ⟨b0, bw, hwz⟩ := KN.out w1 hW.symm
  have szq1 : w.heap.size + 1 ≤ w1.heap.size := Nat.le_of_eq hwz.symm
  have Kr1 := Lib.hid b0
  have N1 := Lib.hid (only_of_below bw : Only w w1 g)
  have S1 := Lib.hid (HS.out.below bw)
  clear hW KN b0 bw hwz HS
  go_wp2_with fail
  refine (draw_any 3 B g w1 S1.out (by omega)).mono ?_
  rintro e w2 ⟨x, rfl, x0, x1, _, hs2, ho2⟩
  have hx := x1 (by omega)
  clear x1
  have Kr2 := Lib.hid ((Kr1.out).grown ho2 (by intro e; injection e with e; omega))
  have N2 := Lib.hid (only_trans N1.out ho2)
  have S2 := Lib.hid hs2
  have szq2 : w1.heap.size ≤ w2.heap.size := by have := ho2.size; (try simp at this); omega
  clear ho2 hs2 S1 N1 Kr1
  by_cases hx0 : x = 0
  · subst hx0
    go_wp2_with fail
    refine (draw_any 2001 B g w2 S2.out (by omega)).mono ?_
    rintro e w3 ⟨p, rfl, p0, p1, _, hs3, ho3⟩
    have hp := p1 (by omega)
    clear p1
    have Kr3 := Lib.hid ((Kr2.out).grown ho3 (by intro e; injection e with e; omega))
    have N3 := Lib.hid (only_trans N2.out ho3)
    have S3 := Lib.hid hs3
    have szq3 : w2.heap.size ≤ w3.heap.size := by have := ho3.size; (try simp at this); omega
    clear ho3 hs3 S2 N2 Kr2
    have hp1 : IntKind.i64.wrap (p - 1000) = p - 1000 := IntWalk.i64_in _ (by omega)
    go_wp2_with fail
    refine (draw_any 2001 B g w3 S3.out (by omega)).mono ?_
    rintro e w4 ⟨q, rfl, q0, q1, _, hs4, ho4⟩
    have hq := q1 (by omega)
    clear q1
    have Kr4 := Lib.hid ((Kr3.out).grown ho4 (by intro e; injection e with e; omega))
    have N4 := Lib.hid (only_trans N3.out ho4)
    have S4 := Lib.hid hs4
    have szq4 : w3.heap.size ≤ w4.heap.size := by have := ho4.size; (try simp at this); omega
    clear ho4 hs4 S3 N3 Kr3
    have hq1 : IntKind.i64.wrap (q - 1000) = q - 1000 := IntWalk.i64_in _ (by omega)
    obtain ⟨f0, f1, f2, f3, f4, f5⟩ := facts_2 Kr4.out
    obtain ⟨kq, kept⟩ := stored_2 Kr4.out S4.out N4.out (Nat.le_refl _) (by omega) hB (.int .i64 (p - 1000)) (.int .i64 (q - 1000)) _ rfl
    obtain ⟨q0, q1⟩ := cells_2 kq
    have KS := Lib.hid kept.src; have KO := Lib.hid kept.only
    clear kq kept
    go_wp2_with fail
    exact bodyPost_ret (v := .agg #[.int .i64 (p - 1000), .int .i64 (q - 1000)]) (by simp [results, Tryz.results119, go_sem, f4, f5, q0, q1]) rfl ⟨p - 1000, q - 1000, rfl, by omega, by omega, KS.out, KO.out⟩
  · have hx1 : (x == 0) = false := by simpa using hx0
    go_wp2_with fail
    refine (draw_any 9 B g w2 S2.out (by omega)).mono ?_
    rintro e w3 ⟨p, rfl, p0, p1, _, hs3, ho3⟩
    have hp := p1 (by omega)
    clear p1
    have Kr3 := Lib.hid ((Kr2.out).grown ho3 (by intro e; injection e with e; omega))
    have N3 := Lib.hid (only_trans N2.out ho3)
    have S3 := Lib.hid hs3
    have szq3 : w2.heap.size ≤ w3.heap.size := by have := ho3.size; (try simp at this); omega
    clear ho3 hs3 S2 N2 Kr2
    have hp1 : IntKind.i64.wrap (p - 4) = p - 4 := IntWalk.i64_in _ (by omega)
    go_wp2_with fail
    refine (draw_any 9 B g w3 S3.out (by omega)).mono ?_
    rintro e w4 ⟨q, rfl, q0, q1, _, hs4, ho4⟩
    have hq := q1 (by omega)
    clear q1
    have Kr4 := Lib.hid ((Kr3.out).grown ho4 (by intro e; injection e with e; omega))
    have N4 := Lib.hid (only_trans N3.out ho4)
    have S4 := Lib.hid hs4
    have szq4 : w3.heap.size ≤ w4.heap.size := by have := ho4.size; (try simp at this); omega
    clear ho4 hs4 S3 N3 Kr3
    have hq1 : IntKind.i64.wrap (q - 4) = q - 4 := IntWalk.i64_in _ (by omega)
    obtain ⟨f0, f1, f2, f3, f4, f5⟩ := facts_2 Kr4.out
    obtain ⟨kq, kept⟩ := stored_2 Kr4.out S4.out N4.out (Nat.le_refl _) (by omega) hB (.int .i64 (p - 4)) (.int .i64 (q - 4)) _ rfl
    obtain ⟨q0, q1⟩ := cells_2 kq
    have KS := Lib.hid kept.src; have KO := Lib.hid kept.only
    clear kq kept
    go_wp2_with fail
    exact bodyPost_ret (v := .agg #[.int .i64 (p - 4), .int .i64 (q - 4)]) (by simp [results, Tryz.results119, go_sem, f4, f5, q0, q1]) rfl ⟨p - 4, q - 4, rfl, by omega, by omega, KS.out, KO.out⟩
set_option maxRecDepth 100000 in
set_option maxHeartbeats 1000000 in
theorem drawPt_any (B g : Nat) (w : World) (hs : Src w B g) (hB : B ≤ w.heap.size) :
    Calls Tryz.prog 94 #[.pointer (some ⟨g, 0, none⟩)] w (DrawnPt w B g) := by
  have hgl := hs.lt
  have HS := Lib.hid hs; clear hs
  have KN := Lib.hid (blks_one w 32 #[.int .i64 0, .int .i64 0])
  go_enter Tryz.func94, Tryz.ntmps94
  go_wp2_with fail
  generalize hW : w.alloc (.cells #[.int .i64 0, .int .i64 0] 32) = w1
  obtain ⟨b0, bw, hwz⟩ := KN.out w1 hW.symm
  have szq1 : w.heap.size + 1 ≤ w1.heap.size := Nat.le_of_eq hwz.symm
  have Kr1 := Lib.hid b0
  have N1 := Lib.hid (only_of_below bw : Only w w1 g)
  have S1 := Lib.hid (HS.out.below bw)
  clear hW KN b0 bw hwz HS
  go_wp2_with fail
  refine (goodPt_any B g w1 S1.out (by omega)).mono ?_
  rintro e w2 ⟨x, y, rfl, hbx, hby, hs2, ho2⟩
  have Kr2 := Lib.hid ((Kr1.out).grown ho2 (by intro e; injection e with e; omega))
  have N2 := Lib.hid (only_trans N1.out ho2)
  have S2 := Lib.hid hs2
  have szq2 : w1.heap.size ≤ w2.heap.size := by have := ho2.size; (try simp at this); omega
  clear ho2 hs2 S1 N1 Kr1
  go_upto_region 2 with (fail)
  generalize hW3 : w2.alloc (.cells #[.int .i64 x, .int .i64 y] 32) = w3
  have Kc3 := Lib.hid (show Blk w3 w2.heap.size 32 #[.int .i64 x, .int .i64 y] by rw [← hW3]; exact Blk.new _ _ _)
  have Kr3 := Lib.hid (show Blk w3 w.heap.size 32 #[.int .i64 0, .int .i64 0] by rw [← hW3]; exact Kr2.out.alloc _)
  have S3 := Lib.hid (show Src w3 B g by rw [← hW3]; exact S2.out.alloc _)
  have N3 := Lib.hid (show Only w w3 g by rw [← hW3]; exact only_trans N2.out (only_of_below ((Below.refl _ _).alloc (Nat.le_refl _) _)))
  have szq3 : w2.heap.size + 1 ≤ w3.heap.size := Kc3.out.lt
  clear hW3 S2 N2 Kr2
  go_wp2_with fail
  refine (draw_any 40 B g w3 S3.out (by omega)).mono ?_
  rintro e w4 ⟨z, rfl, z0, z1, _, hs4, ho4⟩
  have hz := z1 (by omega)
  clear z1
  have Kr4 := Lib.hid ((Kr3.out).grown ho4 (by intro e; injection e with e; omega))
  have Kc4 := Lib.hid ((Kc3.out).grown ho4 (by intro e; injection e with e; omega))
  have N4 := Lib.hid (only_trans N3.out ho4)
  have S4 := Lib.hid hs4
  have szq4 : w3.heap.size ≤ w4.heap.size := by have := ho4.size; (try simp at this); omega
  clear ho4 hs4 S3 N3 Kr3 Kc3
  by_cases hz0 : z = 0
  · subst hz0
    go_wp2_with fail
    refine (pick_any [1000, 1001, -1001] w4.heap.size 3 B g (w4.alloc (.cells #[.int .i64 1000, .int .i64 1001, .int .i64 (-1001)] 2)) (S4.out.alloc _) (by simp; omega) (by simp) (by simp) (Blk.new _ _ _) (by omega)).mono ?_
    rintro e w5 ⟨p, rfl, hp, hs5, ho5⟩
    simp only [List.mem_cons, List.not_mem_nil, or_false] at hp
    have Kr5 := Lib.hid ((Kr4.out.alloc _).grown ho5 (by intro e; injection e with e; omega))
    have Kc5 := Lib.hid ((Kc4.out.alloc _).grown ho5 (by intro e; injection e with e; omega))
    have N5 := Lib.hid (only_trans (only_trans N4.out (only_of_below ((Below.refl _ _).alloc (Nat.le_refl _) _))) ho5)
    have S5 := Lib.hid hs5
    have szq5 : w4.heap.size + 1 ≤ w5.heap.size := by have := ho5.size; (try simp at this); omega
    clear ho5 hs5 S4 N4 Kr4 Kc4
    obtain ⟨c0, c1⟩ := cells_2 Kc5.out
    have fz := Kc5.out.frozen 0
    go_upto_region 4 with (fail)
    clear c0 c1 fz
    generalize hw : w5.setCell ⟨w2.heap.size, 0, none⟩ (.int .i64 p) = w6
    obtain ⟨kq, kept⟩ := cell_2_0 Kc5.out S5.out N5.out (by omega) (by omega) (by omega) (.int .i64 p) w6 hw.symm
    have Kr6 := Lib.hid (kept.blk (by omega) Kr5.out)
    have Kc6 := Lib.hid kq
    have S6 := Lib.hid kept.src
    have N6 := Lib.hid kept.only
    have szq6 := Nat.le_of_eq kept.size.symm
    clear kq kept hw S5 N5 Kr5 Kc5
    obtain ⟨c0, c1⟩ := cells_2 Kc6.out
    obtain ⟨f0, f1, f2, f3, f4, f5⟩ := facts_2 Kr6.out
    obtain ⟨kq, kept⟩ := stored_2 Kr6.out S6.out N6.out (Nat.le_refl _) (by omega) hB (.int .i64 (p)) (.int .i64 (y)) _ rfl
    obtain ⟨q0, q1⟩ := cells_2 kq
    have KS := Lib.hid kept.src; have KO := Lib.hid kept.only
    clear kq kept
    go_wp2_with fail
    exact bodyPost_ret (v := .agg #[.int .i64 (p), .int .i64 (y)]) (by simp [results, Tryz.results94, go_sem, f4, f5, q0, q1]) rfl ⟨p, y, rfl, by omega, by omega, KS.out, KO.out⟩
  · have hz1 : (z == 0) = false := by simpa using hz0
    obtain ⟨c0, c1⟩ := cells_2 Kc4.out
    obtain ⟨f0, f1, f2, f3, f4, f5⟩ := facts_2 Kr4.out
    obtain ⟨kq, kept⟩ := stored_2 Kr4.out S4.out N4.out (Nat.le_refl _) (by omega) hB (.int .i64 (x)) (.int .i64 (y)) _ rfl
    obtain ⟨q0, q1⟩ := cells_2 kq
    have KS := Lib.hid kept.src; have KO := Lib.hid kept.only
    clear kq kept
    go_wp2_with fail
    exact bodyPost_ret (v := .agg #[.int .i64 (x), .int .i64 (y)]) (by simp [results, Tryz.results94, go_sem, f4, f5, q0, q1]) rfl ⟨x, y, rfl, by omega, by omega, KS.out, KO.out⟩
end Go.Proofs.YtaaioengebaebaaGreatDoor
namespace Go.Proofs.YtaaioengebaebaaGreatDoor
open Go.ChangeShapes Go.WideShapes Go.ChangeAt Go.RowKit

theorem only_own {a b c : World} {g : Nat} {row : Option Nat} (h : Only a b g) (k : b.grownBy c row) (hr : ∀ j, row = some j → a.heap.size ≤ j) : Only a c g :=
  ⟨k.os.trans h.os, k.tape.trans h.tape, k.output.trans h.output, Nat.le_trans h.size k.size, fun i hi _ => (k.block i (Nat.lt_of_lt_of_le hi h.size) (by intro e; have := hr i e.symm; omega)).trans (h.block i hi ‹_›)⟩
theorem new_vs (w : World) (t : TypeId) (cs : List Value) (n : Nat) (hn : cs.length = n) : Reads (w.alloc (.cells cs.toArray t)) (w.alloc (.cells cs.toArray t)).heap.size n (some ⟨w.heap.size, 0, none⟩) 1 cs :=
  ⟨by omega, fun _ => ⟨w.heap.size, 0, rfl, by simp, fun j v hv => by
    rw [Nat.zero_add, (Blk.new w t cs.toArray).cell]; simpa using hv⟩⟩
theorem own_type {w : World} {base : Nat} {e t : TypeId} {size n b : Nat} {v : Value} {xs : List Value} {cs : Array Value} (h : w.ownsRow base e size v n xs) (hb : Blk w b t cs) (ht : t ≠ e) : ∀ k, v.ownBlock = some k → k ≠ b := by
  intro k hk hkb
  subst hkb
  rcases h.2 with ⟨rfl, _⟩ | ⟨g, cap, cur, rfl, _, hc, _⟩
  · cases hk
  · have hk : g = k := by injection hk
    subst hk
    unfold Blk at hb
    rw [hc] at hb
    injection hb with hb
    injection hb with _ h2
    exact ht h2.symm
/-- A small site. -/
def SmallSt (s : Sit) : Prop := s.name.size ≤ 200 ∧ (-1001 ≤ s.x ∧ s.x ≤ 1001) ∧ (-1001 ≤ s.y ∧ s.y ≤ 1001)
/-- Drawn sites. -/
def DrawnSt (w : World) (B g : Nat) (e : Ending) (w' : World) : Prop := ∃ (L : List Sit) (Bq : Option Addr) (dq : Nat), e = .returned (.slice Bq L.length dq) ∧ w'.ownsRow w.heap.size 77 3 (.slice Bq L.length dq) L.length (siC L) ∧ (∀ s ∈ L, SmallSt s) ∧ L.length ≤ 30 ∧ Src w' B g ∧ Only w w' g
set_option maxRecDepth 100000 in
set_option maxHeartbeats 2000000 in
theorem listSt_any (B g : Nat) (w : World) (hs : Src w B g) (hB : B ≤ w.heap.size) :
    Calls Tryz.prog 66 #[.pointer (some ⟨g, 0, none⟩)] w (DrawnSt w B g) := by
  have mixed : Tryz.prog.follows Departure.mixedOrders = true := by kernel_rfl
  obtain ⟨i0, hi0, hz0, hz1, hz2⟩ := info_parts infoSit
  have hgl := hs.lt
  have HS := Lib.hid hs; clear hs
  have OW := Lib.hid (own_below (World.ownsRow_made (e := 77) (base := w.heap.size) (size := 3) w #[] 0 (Nat.le_refl _) (by decide) rfl) ((Below.refl _ _).alloc (Nat.le_refl _) (.cells #[.string ⟨#[97, 115, 104]⟩, .string ⟨#[98, 114, 105, 103]⟩, .string ⟨#[99, 111, 114, 107]⟩, .string ⟨#[100, 101, 118, 97]⟩, .string ⟨#[101, 108, 121]⟩] 9)))
  have KN := Lib.hid (blks_two w 77 9 #[] #[.string ⟨#[97, 115, 104]⟩, .string ⟨#[98, 114, 105, 103]⟩, .string ⟨#[99, 111, 114, 107]⟩, .string ⟨#[100, 101, 118, 97]⟩, .string ⟨#[101, 108, 121]⟩])
  go_enter Tryz.func66, Tryz.ntmps66
  go_wp2_with fail
  generalize hW : (w.alloc (.cells #[] 77)).alloc (.cells #[.string ⟨#[97, 115, 104]⟩, .string ⟨#[98, 114, 105, 103]⟩, .string ⟨#[99, 111, 114, 107]⟩, .string ⟨#[100, 101, 118, 97]⟩, .string ⟨#[101, 108, 121]⟩] 9) = W at OW ⊢
  obtain ⟨_, b1, bw, hwz⟩ := KN.out W hW.symm
  have K0 := Lib.hid b1
  have N0 := Lib.hid (only_of_below bw : Only w W g)
  have S0 := Lib.hid (HS.out.below bw)
  clear hW KN bw b1
  go_loopw [3, 5] (fun v3 v5 wr => ∃ (L : List Sit) (n k : Nat) (Bq : Option Addr) (dq : Nat), n ≤ k ∧ k ≤ 5 ∧ Hid (L.length = n) ∧ Hid (∀ s ∈ L, SmallSt s) ∧ v3 = .slice Bq n dq ∧ Hid (wr.ownsRow w.heap.size 77 3 (.slice Bq n dq) n (siC L)) ∧ Hid (Src wr B g) ∧ Hid (Only w wr g) ∧ Hid (Blk wr (w.heap.size + 1) 9 #[.string ⟨#[97, 115, 104]⟩, .string ⟨#[98, 114, 105, 103]⟩, .string ⟨#[99, 111, 114, 107]⟩, .string ⟨#[100, 101, 118, 97]⟩, .string ⟨#[101, 108, 121]⟩]) ∧ v5 = .int .i64 (k : Int)) (fun _ i _ => 5 - (intOf i).toNat)
  case atStart => exact ⟨[], 0, 0, _, 0, by omega, by omega, rfl, (fun s h => by cases h), rfl, OW.out, S0.out, N0.out, K0.out, rfl⟩
  case round =>
    clear OW S0 N0 K0
    obtain ⟨L, n, k, Bq, dq, hnk, hk5, HN, HL, rfl, HO, S1, N1, Ktx1, rfl⟩ := hrel
    have hwB : w.heap.size ≤ wr.heap.size := N1.out.size
    have htl := Ktx1.out.lt
    by_cases hlt : (k : Int) < 5
    · skip
      have O1 := HO; clear HO
      go_wp2_with fail
      refine (draw_any 8 B g wr S1.out (by omega)).mono ?_
      rintro e w2 ⟨x, rfl, x0, x1, _, hs2, ho2⟩
      have hx := x1 (by omega)
      clear x1
      have O2 := Lib.hid (own_only O1.out ho2 hgl)
      clear O1
      have Ktx2 := Lib.hid ((Ktx1.out).grown ho2 (by intro e; injection e with e; omega))
      have N2 := Lib.hid (only_trans N1.out ho2)
      have S2 := Lib.hid hs2
      have szq2 : wr.heap.size ≤ w2.heap.size := by have := ho2.size; (try simp at this); omega
      clear ho2 hs2 S1 N1 Ktx1
      by_cases hx0 : 0 < x
      · skip
        go_upto_region 7 with (fail)
        have hWB : B ≤ w2.heap.size := by omega
        have hgW : g < w2.heap.size := by omega
        have hS0 : SrcOnly w2 B g w2.drew := SrcOnly.drew ⟨S2.out, only_refl _ _⟩
        refine' wp_region_keep (SrcOnly w2 B g) (fun w w' => Only w w' g) [isV (.slice Bq n dq), isV (.slice (some ⟨w.heap.size + 1, 0, none⟩) 5 5), isV (.int .i64 (k : Int)), isAt 9 ((w.heap.size + 1)) [.string ⟨#[97, 115, 104]⟩, .string ⟨#[98, 114, 105, 103]⟩, .string ⟨#[99, 111, 114, 107]⟩, .string ⟨#[100, 101, 118, 97]⟩, .string ⟨#[101, 108, 121]⟩], isStr 100, isV (.pointer (some ⟨g, 0, none⟩)), isInt (0) (24), isInt (-12) (12), isV (.pointer (some ⟨g, 0, none⟩)), isInt (0) (24), isInt (-12) (12), (fun v _ => ∃ (y0 : Int) (y1 : Int), v = .agg #[.int .i64 y0, .int .i64 y1] ∧ -12 ≤ y0 ∧ y0 ≤ 12 ∧ -12 ≤ y1 ∧ y1 ≤ 12), (fun v _ => ∃ (y0 : ByteArray) (y1 : Int) (y2 : Int), v = .agg #[.string y0, .int .i64 y1, .int .i64 y2] ∧ y0.size ≤ 100 ∧ -12 ≤ y1 ∧ y1 ≤ 12 ∧ -12 ≤ y2 ∧ y2 ≤ 12), isRowP 77 w2.heap.size 1 (fun cs => ∃ (y0 : ByteArray) (y1 : Int) (y2 : Int), cs = [.string y0, .int .i64 y1, .int .i64 y2] ∧ y0.size ≤ 100 ∧ -12 ≤ y1 ∧ y1 ≤ 12 ∧ -12 ≤ y2 ∧ y2 ≤ 12)] mixed (by kernel_rfl) hS0 ?_ _ _ _ ?_ ?_ ?_
        · exact AllStable.cons (stable_V _ _) (AllStable.cons (stable_V _ _) (AllStable.cons (stable_V _ _) (AllStable.cons (stable_At _ (by omega) _ _) (AllStable.cons (stable_Str _ _) (AllStable.cons (stable_V _ _) (AllStable.cons (stable_Int _ _ _) (AllStable.cons (stable_Int _ _ _) (AllStable.cons (stable_V _ _) (AllStable.cons (stable_Int _ _ _) (AllStable.cons (stable_Int _ _ _) (AllStable.cons (stable_pure _) (AllStable.cons (stable_pure _) (AllStable.cons (stable_RowP _ (by omega) _ _) (AllStable.nil))))))))))))))
        rotate_left 3
        · intro f; simp only [List.length_cons, List.length_nil, Nat.reduceAdd, List.take_succ_cons, List.take_zero, lay, List.setIfInBounds_toArray, List.set_cons_succ, List.set_cons_zero, Nat.reduceAdd]; exact rfl
        · refine AllUpto.of 14 ?_ ?_ (by kernel_rfl) (by kernel_rfl)
          rotate_left
          · simp only [List.drop_succ_cons, List.drop_zero]; exact rfl
          simp only [List.take_succ_cons, List.take_zero]
          refine AllSteps.cons ?_ ?_
          · intro f v3 hS hT K hK
            simp only [Act.put, List.setIfInBounds_toArray, List.set_cons_succ, List.set_cons_zero] at hK
            go_simp
            exact hK.out _ _ (rfl) hS (only_refl _ _)
          refine AllSteps.cons ?_ ?_
          · intro f v3 hS hT K hK
            simp only [Act.put, List.setIfInBounds_toArray, List.set_cons_succ, List.set_cons_zero] at hK
            go_simp
            exact hK.out _ _ (rfl) hS (only_refl _ _)
          refine AllSteps.cons ?_ ?_
          · intro f v3 hS hT K hK
            simp only [Act.put, List.setIfInBounds_toArray, List.set_cons_succ, List.set_cons_zero] at hK
            go_simp
            exact hK.out _ _ (rfl) hS (only_refl _ _)
          refine AllSteps.cons ?_ ?_
          · intro f v3 hS hT K hK
            have ea := hT 1 _ rfl rfl
            dsimp only [isV] at ea
            have ei := hT 2 _ rfl rfl
            dsimp only [isV] at ei
            have hk0 : (0 : Int) ≤ (k : Int) := by omega
            have hkn : (k : Int) < 5 := by omega
            simp only [Act.put, List.setIfInBounds_toArray, List.set_cons_succ, List.set_cons_zero, ea, ei] at hK
            go_simp
            exact hK.out _ _ ⟨(w.heap.size + 1), k, rfl, by simp; omega, Nat.le_refl _, Ktx2.out.grown hS.2 (by intro e; injection e with e; omega)⟩ hS (only_refl _ _)
          refine AllSteps.cons ?_ ?_
          · intro f v3 hS hT K hK
            obtain ⟨ba, ia, ea, ta, na, ka⟩ := hT 3 _ rfl rfl
            obtain ⟨s, hc, hsz⟩ := strs_at (n := 100) rfl ka ta
            simp only [Act.put, List.setIfInBounds_toArray, List.set_cons_succ, List.set_cons_zero, ea] at hK
            go_simp
            exact hK.out _ _ (⟨s, rfl, hsz⟩) hS (only_refl _ _)
          refine AllSteps.cons ?_ ?_
          · intro f v3 hS hT K hK
            simp only [Act.put, List.setIfInBounds_toArray, List.set_cons_succ, List.set_cons_zero] at hK
            go_simp
            exact hK.out _ _ (rfl) hS (only_refl _ _)
          refine AllSteps.cons ?_ ?_
          · intro f v3 hS hT K hK
            have e0 := hT 5 _ rfl rfl
            dsimp only [isV] at e0
            simp only [Act.put, List.setIfInBounds_toArray, List.set_cons_succ, List.set_cons_zero, e0] at hK
            go_simp
            refine (draw_any 25 B g v3 hS.1 (Nat.le_trans hWB hS.2.size)).mono ?_
            rintro e w1 ⟨x, rfl, x0, x1, _, hs1, ho1⟩
            exact hK.out _ _ ⟨x, rfl, x0, by have := x1 (by omega); omega⟩ (hS.go hs1 ho1) ho1
          refine AllSteps.cons ?_ ?_
          · intro f v3 hS hT K hK
            obtain ⟨xa, ea, la, ua⟩ := hT 6 _ rfl rfl
            have hw : IntKind.i64.wrap (xa - 12) = xa - 12 := IntWalk.i64_in _ (by omega)
            simp only [Act.put, List.setIfInBounds_toArray, List.set_cons_succ, List.set_cons_zero, ea] at hK
            go_simp
            exact hK.out _ _ (⟨_, rfl, by omega, by omega⟩) hS (only_refl _ _)
          refine AllSteps.cons ?_ ?_
          · intro f v3 hS hT K hK
            simp only [Act.put, List.setIfInBounds_toArray, List.set_cons_succ, List.set_cons_zero] at hK
            go_simp
            exact hK.out _ _ (rfl) hS (only_refl _ _)
          refine AllSteps.cons ?_ ?_
          · intro f v3 hS hT K hK
            have e0 := hT 8 _ rfl rfl
            dsimp only [isV] at e0
            simp only [Act.put, List.setIfInBounds_toArray, List.set_cons_succ, List.set_cons_zero, e0] at hK
            go_simp
            refine (draw_any 25 B g v3 hS.1 (Nat.le_trans hWB hS.2.size)).mono ?_
            rintro e w1 ⟨x, rfl, x0, x1, _, hs1, ho1⟩
            exact hK.out _ _ ⟨x, rfl, x0, by have := x1 (by omega); omega⟩ (hS.go hs1 ho1) ho1
          refine AllSteps.cons ?_ ?_
          · intro f v3 hS hT K hK
            obtain ⟨xa, ea, la, ua⟩ := hT 9 _ rfl rfl
            have hw : IntKind.i64.wrap (xa - 12) = xa - 12 := IntWalk.i64_in _ (by omega)
            simp only [Act.put, List.setIfInBounds_toArray, List.set_cons_succ, List.set_cons_zero, ea] at hK
            go_simp
            exact hK.out _ _ (⟨_, rfl, by omega, by omega⟩) hS (only_refl _ _)
          refine AllSteps.cons ?_ ?_
          · intro f v3 hS hT K hK
            obtain ⟨xp0, ep0, lp0, up0⟩ := hT 7 _ rfl rfl
            obtain ⟨xp1, ep1, lp1, up1⟩ := hT 10 _ rfl rfl
            simp only [Act.put, List.setIfInBounds_toArray, List.set_cons_succ, List.set_cons_zero, ep0, ep1] at hK
            go_simp
            exact hK.out _ _ (⟨_, _, rfl, by omega, by omega, by omega, by omega⟩) hS (only_refl _ _)
          refine AllSteps.cons ?_ ?_
          · intro f v3 hS hT K hK
            obtain ⟨sp0, ep0, zp0⟩ := hT 4 _ rfl rfl
            obtain ⟨yp10, yp11, ep1, lp10, up10, lp11, up11⟩ := hT 11 _ rfl rfl
            simp only [Act.put, List.setIfInBounds_toArray, List.set_cons_succ, List.set_cons_zero, ep0, ep1] at hK
            go_simp
            exact hK.out _ _ (⟨_, _, _, rfl, by omega, by omega, by omega, by omega, by omega⟩) hS (only_refl _ _)
          refine AllSteps.cons ?_ ?_
          · intro f v3 hS hT K hK
            obtain ⟨yp00, yp01, yp02, ep0, zp00, lp01, up01, lp02, up02⟩ := hT 12 _ rfl rfl
            simp only [Act.put, List.setIfInBounds_toArray, List.set_cons_succ, List.set_cons_zero, ep0] at hK
            go_simp
            exact hK.out _ _ ⟨_, v3.heap.size, rfl, ⟨yp00, yp01, yp02, rfl, by assumption, by assumption, by assumption, by assumption, by assumption⟩, hS.2.size, Blk.new _ _ _⟩ (hS.alloc _).1 (hS.alloc _).2
          exact AllSteps.nil
        · intro f v3 hS hT
          skip
          have Ktx3 := Lib.hid (Ktx2.out.grown hS.2 (by intro e; injection e with e; omega))
          have S3 := Lib.hid hS.1
          have N3 := Lib.hid (only_trans N2.out hS.2)
          have szq3 := hS.2.size
          have O3 := Lib.hid (own_only O2.out hS.2 hgl)
          clear O2
          clear hS S2 N2 Ktx2
          have e0 := hT 0 _ rfl
          obtain ⟨cs, rb, e13, ⟨nm, px, py, rfl, hnm, hpx0, hpx1, hpy0, hpy1⟩, nb, kb⟩ := hT 13 _ rfl
          dsimp only [isV] at e0
          rw [e0, e13]
          clear e0 e13 hT
          have hrl := kb.lt
          go_wp2_with (at_builtin; refine wpList_append_any _ rfl (.tmp 18) (.tmp 31) _ rfl w.heap.size 77 i0 _ 3 32 Tryz.underlying35 hi0 hz0 hz1 hz2 rfl (by omega) (.slice Bq n dq) n (siC L) rfl O3.out _ (some ⟨rb, 0, none⟩) 1 1 [.string nm, .int .i64 px, .int .i64 py] rfl (blk_rd (n := 1) (size := 3) kb rfl) (by simp [Value.oneCell']) (by simp only [maxLen]; omega) (by omega) (by (try simp); omega) ?_; intro v9 w9 hown9 hg9 hat9; obtain ⟨B9, d9, rfl, _⟩ := own_shape hown9)
          have hlo : ∀ k, (Value.slice Bq n dq).ownBlock = some k → w.heap.size ≤ k := fun k hk => (own_lt O3.out k hk).1
          have hnt := own_type O3.out Ktx3.out (by decide)
          have S9 := Lib.hid (S3.out.grown hg9 (by intro e; have := hlo g e; omega) (fun k hk => by have := hlo k hk; omega))
          have N9 := Lib.hid (only_own N3.out hg9 hlo)
          have Ktx9 := Lib.hid (Ktx3.out.grown hg9 (fun e => hnt _ e.symm rfl))
          have O9 := Lib.hid (show w9.ownsRow w.heap.size 77 3 (.slice B9 (n + 1) d9) (n + 1) (siC (L ++ [⟨nm, px, py⟩])) by simpa [siC, Sit.cells] using hown9)
          clear hown9 hg9 hat9 hlo hnt
          go_roundw
          case rel => exact ⟨L ++ [(⟨nm, px, py⟩ : Sit)], n + 1, k + 1, B9, d9, by omega, by omega, by have := HN.out; simp [Hid, this], (fun a ha => (List.mem_append.1 ha).elim (HL.out a) (fun h => by rw [List.mem_singleton] at h; rw [h]; exact (show SmallSt ⟨nm, px, py⟩ from ⟨by dsimp only; omega, by dsimp only; omega, by dsimp only; omega⟩))), rfl, O9.out, S9.out, N9.out, Ktx9.out, by go_num⟩
          case measure => simp [intOf]; omega
      · skip
        go_wp2_with fail
        go_roundw
        case rel => exact ⟨L, n, k + 1, Bq, dq, by omega, by omega, HN.out, HL.out, rfl, O2.out, S2.out, N2.out, Ktx2.out, by go_num⟩
        case measure => simp [intOf]; omega
    · skip
      have O1 := HO; clear HO
      go_wp2_with fail
      refine (draw_any 24 B g wr S1.out (by omega)).mono ?_
      rintro e w2 ⟨y, rfl, y0, y1, _, hs2, ho2⟩
      have hy := y1 (by omega)
      clear y1
      have O2 := Lib.hid (own_only O1.out ho2 hgl)
      clear O1
      have Ktx2 := Lib.hid ((Ktx1.out).grown ho2 (by intro e; injection e with e; omega))
      have N2 := Lib.hid (only_trans N1.out ho2)
      have S2 := Lib.hid hs2
      have szq2 : wr.heap.size ≤ w2.heap.size := by have := ho2.size; (try simp at this); omega
      clear ho2 hs2 S1 N1 Ktx1
      by_cases hy0 : y = 0
      · subst hy0
        go_upto_region 10 with (fail)
        have hWB : B ≤ w2.heap.size := by omega
        have hgW : g < w2.heap.size := by omega
        have hS0 : SrcOnly w2 B g w2.drew := SrcOnly.drew ⟨S2.out, only_refl _ _⟩
        refine' wp_region_keep (SrcOnly w2 B g) (fun w w' => Only w w' g) [isV (.slice Bq n dq), isRow 9 w2.heap.size [.string ⟨#[110, 101, 97, 114]⟩, .string ⟨#[122, 101, 100]⟩, .string ⟨#[97, 115, 104]⟩], isV (.pointer (some ⟨g, 0, none⟩)), isInt (0) (2), isAt 9 w2.heap.size [.string ⟨#[110, 101, 97, 114]⟩, .string ⟨#[122, 101, 100]⟩, .string ⟨#[97, 115, 104]⟩], isStr 100, isV (.pointer (some ⟨g, 0, none⟩)), (fun v _ => ∃ (y0 : Int) (y1 : Int), v = .agg #[.int .i64 y0, .int .i64 y1] ∧ -1001 ≤ y0 ∧ y0 ≤ 1001 ∧ -1001 ≤ y1 ∧ y1 ≤ 1001), (fun v _ => ∃ (y0 : ByteArray) (y1 : Int) (y2 : Int), v = .agg #[.string y0, .int .i64 y1, .int .i64 y2] ∧ y0.size ≤ 100 ∧ -1001 ≤ y1 ∧ y1 ≤ 1001 ∧ -1001 ≤ y2 ∧ y2 ≤ 1001), isRowP 77 w2.heap.size 1 (fun cs => ∃ (y0 : ByteArray) (y1 : Int) (y2 : Int), cs = [.string y0, .int .i64 y1, .int .i64 y2] ∧ y0.size ≤ 100 ∧ -1001 ≤ y1 ∧ y1 ≤ 1001 ∧ -1001 ≤ y2 ∧ y2 ≤ 1001)] mixed (by kernel_rfl) hS0 ?_ _ _ _ ?_ ?_ ?_
        · exact AllStable.cons (stable_V _ _) (AllStable.cons (stable_Row _ (by omega) _ _) (AllStable.cons (stable_V _ _) (AllStable.cons (stable_Int _ _ _) (AllStable.cons (stable_At _ (by omega) _ _) (AllStable.cons (stable_Str _ _) (AllStable.cons (stable_V _ _) (AllStable.cons (stable_pure _) (AllStable.cons (stable_pure _) (AllStable.cons (stable_RowP _ (by omega) _ _) (AllStable.nil))))))))))
        rotate_left 3
        · intro f; simp only [List.length_cons, List.length_nil, Nat.reduceAdd, List.take_succ_cons, List.take_zero, lay, List.setIfInBounds_toArray, List.set_cons_succ, List.set_cons_zero, Nat.reduceAdd]; exact rfl
        · refine AllUpto.of 10 ?_ ?_ (by kernel_rfl) (by kernel_rfl)
          rotate_left
          · simp only [List.drop_succ_cons, List.drop_zero]; exact rfl
          simp only [List.take_succ_cons, List.take_zero]
          refine AllSteps.cons ?_ ?_
          · intro f v3 hS hT K hK
            simp only [Act.put, List.setIfInBounds_toArray, List.set_cons_succ, List.set_cons_zero] at hK
            go_simp
            exact hK.out _ _ (rfl) hS (only_refl _ _)
          refine AllSteps.cons ?_ ?_
          · intro f v3 hS hT K hK
            simp only [Act.put, List.setIfInBounds_toArray, List.set_cons_succ, List.set_cons_zero] at hK
            go_simp
            exact hK.out _ _ ⟨v3.heap.size, rfl, hS.2.size, Blk.new _ _ _⟩ (hS.alloc _).1 (hS.alloc _).2
          refine AllSteps.cons ?_ ?_
          · intro f v3 hS hT K hK
            simp only [Act.put, List.setIfInBounds_toArray, List.set_cons_succ, List.set_cons_zero] at hK
            go_simp
            exact hK.out _ _ (rfl) hS (only_refl _ _)
          refine AllSteps.cons ?_ ?_
          · intro f v3 hS hT K hK
            have e0 := hT 2 _ rfl rfl
            dsimp only [isV] at e0
            simp only [Act.put, List.setIfInBounds_toArray, List.set_cons_succ, List.set_cons_zero, e0] at hK
            go_simp
            refine (draw_any 3 B g v3 hS.1 (Nat.le_trans hWB hS.2.size)).mono ?_
            rintro e w1 ⟨x, rfl, x0, x1, _, hs1, ho1⟩
            exact hK.out _ _ ⟨x, rfl, x0, by have := x1 (by omega); omega⟩ (hS.go hs1 ho1) ho1
          refine AllSteps.cons ?_ ?_
          · intro f v3 hS hT K hK
            obtain ⟨ba, ea, na, ka⟩ := hT 1 _ rfl rfl
            obtain ⟨xi, ei, li, ui⟩ := hT 3 _ rfl rfl
            obtain ⟨k, rfl⟩ : ∃ k : Nat, xi = k := ⟨xi.toNat, by omega⟩
            have hkn : (k : Int) < 3 := by omega
            simp only [Act.put, List.setIfInBounds_toArray, List.set_cons_succ, List.set_cons_zero, ea, ei] at hK
            go_simp
            exact hK.out _ _ ⟨ba, k, rfl, by simp; omega, na, ka⟩ hS (only_refl _ _)
          refine AllSteps.cons ?_ ?_
          · intro f v3 hS hT K hK
            obtain ⟨ba, ia, ea, ta, na, ka⟩ := hT 4 _ rfl rfl
            obtain ⟨s, hc, hsz⟩ := strs_at (n := 100) rfl ka ta
            simp only [Act.put, List.setIfInBounds_toArray, List.set_cons_succ, List.set_cons_zero, ea] at hK
            go_simp
            exact hK.out _ _ (⟨s, rfl, hsz⟩) hS (only_refl _ _)
          refine AllSteps.cons ?_ ?_
          · intro f v3 hS hT K hK
            simp only [Act.put, List.setIfInBounds_toArray, List.set_cons_succ, List.set_cons_zero] at hK
            go_simp
            exact hK.out _ _ (rfl) hS (only_refl _ _)
          refine AllSteps.cons ?_ ?_
          · intro f v3 hS hT K hK
            have e0 := hT 6 _ rfl rfl
            dsimp only [isV] at e0
            simp only [Act.put, List.setIfInBounds_toArray, List.set_cons_succ, List.set_cons_zero, e0] at hK
            go_simp
            refine (drawPt_any B g v3 hS.1 (Nat.le_trans hWB hS.2.size)).mono ?_
            rintro e w1 ⟨px, py, rfl, ⟨hx0, hx1⟩, ⟨hy0, hy1⟩, hs1, ho1⟩
            exact hK.out _ _ (⟨px, py, rfl, hx0, hx1, hy0, hy1⟩) (hS.go hs1 ho1) ho1
          refine AllSteps.cons ?_ ?_
          · intro f v3 hS hT K hK
            obtain ⟨sp0, ep0, zp0⟩ := hT 5 _ rfl rfl
            obtain ⟨yp10, yp11, ep1, lp10, up10, lp11, up11⟩ := hT 7 _ rfl rfl
            simp only [Act.put, List.setIfInBounds_toArray, List.set_cons_succ, List.set_cons_zero, ep0, ep1] at hK
            go_simp
            exact hK.out _ _ (⟨_, _, _, rfl, by omega, by omega, by omega, by omega, by omega⟩) hS (only_refl _ _)
          refine AllSteps.cons ?_ ?_
          · intro f v3 hS hT K hK
            obtain ⟨yp00, yp01, yp02, ep0, zp00, lp01, up01, lp02, up02⟩ := hT 8 _ rfl rfl
            simp only [Act.put, List.setIfInBounds_toArray, List.set_cons_succ, List.set_cons_zero, ep0] at hK
            go_simp
            exact hK.out _ _ ⟨_, v3.heap.size, rfl, ⟨yp00, yp01, yp02, rfl, by assumption, by assumption, by assumption, by assumption, by assumption⟩, hS.2.size, Blk.new _ _ _⟩ (hS.alloc _).1 (hS.alloc _).2
          exact AllSteps.nil
        · intro f v3 hS hT
          skip
          have Ktx3 := Lib.hid (Ktx2.out.grown hS.2 (by intro e; injection e with e; omega))
          have S3 := Lib.hid hS.1
          have N3 := Lib.hid (only_trans N2.out hS.2)
          have szq3 := hS.2.size
          have O3 := Lib.hid (own_only O2.out hS.2 hgl)
          clear O2
          clear hS S2 N2 Ktx2
          have e0 := hT 0 _ rfl
          obtain ⟨cs, rb, e9, ⟨nm, px, py, rfl, hnm, hpx0, hpx1, hpy0, hpy1⟩, nb, kb⟩ := hT 9 _ rfl
          dsimp only [isV] at e0
          rw [e0, e9]
          clear e0 e9 hT
          have hrl := kb.lt
          go_wp2_with (at_builtin; refine wpList_append_any _ rfl (.tmp 37) (.tmp 46) _ rfl w.heap.size 77 i0 _ 3 32 Tryz.underlying35 hi0 hz0 hz1 hz2 rfl (by omega) (.slice Bq n dq) n (siC L) rfl O3.out _ (some ⟨rb, 0, none⟩) 1 1 [.string nm, .int .i64 px, .int .i64 py] rfl (blk_rd (n := 1) (size := 3) kb rfl) (by simp [Value.oneCell']) (by simp only [maxLen]; omega) (by omega) (by (try simp); omega) ?_; intro v9 w9 hown9 hg9 hat9; obtain ⟨B9, d9, rfl, _⟩ := own_shape hown9)
          have hlo : ∀ k, (Value.slice Bq n dq).ownBlock = some k → w.heap.size ≤ k := fun k hk => (own_lt O3.out k hk).1
          have hnt := own_type O3.out Ktx3.out (by decide)
          have S9 := Lib.hid (S3.out.grown hg9 (by intro e; have := hlo g e; omega) (fun k hk => by have := hlo k hk; omega))
          have N9 := Lib.hid (only_own N3.out hg9 hlo)
          have Ktx9 := Lib.hid (Ktx3.out.grown hg9 (fun e => hnt _ e.symm rfl))
          have O9 := Lib.hid (show w9.ownsRow w.heap.size 77 3 (.slice B9 (n + 1) d9) (n + 1) (siC (L ++ [⟨nm, px, py⟩])) by simpa [siC, Sit.cells] using hown9)
          clear hown9 hg9 hat9 hlo hnt
          go_wp2_with fail
          go_ret
          have hn := HN.out
          subst hn
          exact ⟨L ++ [(⟨nm, px, py⟩ : Sit)], B9, d9, by first | rfl | simp, by first | exact O9.out | simpa using O9.out, (fun a ha => (List.mem_append.1 ha).elim (HL.out a) (fun h => by rw [List.mem_singleton] at h; rw [h]; exact (show SmallSt ⟨nm, px, py⟩ from ⟨by dsimp only; omega, by dsimp only; omega, by dsimp only; omega⟩))), by (try simp); omega, S9.out, N9.out⟩
      · have e0 : (y == 0) = false := by simpa using hy0
        by_cases hy1 : y = 1
        · subst hy1
          go_wp2_with fail
          go_loopw [3, 6] (fun v3 v6 wr => ∃ (L : List Sit) (n j : Nat) (Bq : Option Addr) (dq : Nat), n ≤ 5 + j ∧ j ≤ 12 ∧ Hid (L.length = n) ∧ Hid (∀ s ∈ L, SmallSt s) ∧ v3 = .slice Bq n dq ∧ Hid (wr.ownsRow w.heap.size 77 3 (.slice Bq n dq) n (siC L)) ∧ Hid (Src wr B g) ∧ Hid (Only w wr g) ∧ v6 = .int .i64 (j : Int)) (fun _ i _ => 12 - (intOf i).toNat)
          case atStart => exact ⟨L, n, 0, Bq, dq, by omega, by omega, HN.out, HL.out, rfl, O2.out, S2.out, N2.out, rfl⟩
          case round =>
            clear O2 S2 N2 Ktx2 HN HL
            obtain ⟨L, n, j, Bq, dq, hnj, hj12, HN, HL, rfl, HO, S1, N1, rfl⟩ := hrel
            have hwB : w.heap.size ≤ wr.heap.size := N1.out.size
            go_wp2_with fail
            refine (draw_any 2 B g wr S1.out (by omega)).mono ?_
            rintro e w2 ⟨z, rfl, z0, z1, _, hs2, ho2⟩
            have hzz := z1 (by omega)
            have O2 := Lib.hid (own_only HO.out ho2 hgl)
            have N2 := Lib.hid (only_trans N1.out ho2)
            have S2 := Lib.hid hs2
            have hz2' := N2.out.size
            have zw : IntKind.i64.wrap (10 + z) = 10 + z := IntWalk.i64_in _ (by omega)
            clear hs2 ho2 z1 HO N1 S1
            by_cases hlt : (n : Int) < 10 + z
            · by_cases hjt : (j : Int) < 12
              · have jw : IntKind.i64.wrap ((j : Int) + 1) = (j : Int) + 1 := IntWalk.i64_in _ (by omega)
                have j0 : (0 : Int) ≤ (j : Int) := by omega
                have j1 : (j : Int) ≤ (j : Int) + 1 := by omega
                have j2 : (j : Int) + 1 ≤ 12 := by omega
                obtain ⟨sq, hsq⟩ : ∃ s : ByteArray, s = ⟨#[122]⟩ ++ (⟨#[97, 98, 99, 100, 101, 102, 103, 104, 105, 106, 107, 108]⟩ : ByteArray).extract j (j + 1) := ⟨_, rfl⟩
                have hsz : sq.size ≤ 200 := by rw [hsq, ByteArray.size_append, ByteArray.size_extract]; have h1 : (⟨#[122]⟩ : ByteArray).size = 1 := rfl; have h2 : (⟨#[97, 98, 99, 100, 101, 102, 103, 104, 105, 106, 107, 108]⟩ : ByteArray).size = 12 := rfl; omega
                go_wp2_with (at_builtin; rw [← hsq]; refine wpList_append_any _ rfl (.tmp 62) (.tmp 69) _ rfl w.heap.size 77 i0 _ 3 32 Tryz.underlying35 hi0 hz0 hz1 hz2 rfl (by omega) (.slice Bq n dq) n (siC L) rfl (O2.out.alloc _) _ (some ⟨w2.heap.size, 0, none⟩) 1 1 [.string sq, .int .i64 0, .int .i64 0] rfl (new_vs _ _ _ _ rfl) (by simp [Value.oneCell']) (by simp only [maxLen]; omega) (by omega) (by simp; omega) ?_; intro v9 w9 hown9 hg9 hat9; obtain ⟨B9, d9, rfl, _⟩ := own_shape hown9)
                have hlo : ∀ k, (Value.slice Bq n dq).ownBlock = some k → w.heap.size ≤ k := fun k hk => (own_lt O2.out k hk).1
                have S9 := Lib.hid ((S2.out.alloc _).grown hg9 (by intro e; have := hlo g e; omega) (fun k hk => by have := hlo k hk; omega))
                have N9 := Lib.hid (only_own (only_trans N2.out (only_of_below ((Below.refl w2.heap.size w2).alloc (Nat.le_refl _) _))) hg9 hlo)
                have O9 := Lib.hid (show w9.ownsRow w.heap.size 77 3 (.slice B9 (n + 1) d9) (n + 1) (siC (L ++ [⟨sq, 0, 0⟩])) by simpa [siC, Sit.cells] using hown9)
                clear hown9 hg9 hat9 hlo
                go_roundw
                case rel => exact ⟨L ++ [(⟨sq, 0, 0⟩ : Sit)], n + 1, j + 1, B9, d9, by omega, by omega, by have := HN.out; simp [Hid, this], (fun a ha => (List.mem_append.1 ha).elim (HL.out a) (fun h => by rw [List.mem_singleton] at h; rw [h]; exact (show SmallSt ⟨sq, 0, 0⟩ from ⟨by dsimp only; omega, by dsimp only; omega, by dsimp only; omega⟩))), rfl, O9.out, S9.out, N9.out, by go_num⟩
                case measure => simp [intOf]; omega
              · go_wp2_with fail
                go_ret
                have hn := HN.out
                subst hn
                exact ⟨L, Bq, dq, by first | rfl | simp, by first | exact O2.out | simpa using O2.out, HL.out, by (try simp); omega, S2.out, N2.out⟩
            · go_wp2_with fail
              go_ret
              have hn := HN.out
              subst hn
              exact ⟨L, Bq, dq, by first | rfl | simp, by first | exact O2.out | simpa using O2.out, HL.out, by (try simp); omega, S2.out, N2.out⟩
        · have e1 : (y == 1) = false := by simpa using hy1
          go_wp2_with fail
          go_ret
          have hn := HN.out
          subst hn
          exact ⟨L, Bq, dq, by first | rfl | simp, by first | exact O2.out | simpa using O2.out, HL.out, by (try simp); omega, S2.out, N2.out⟩
end Go.Proofs.YtaaioengebaebaaGreatDoor
