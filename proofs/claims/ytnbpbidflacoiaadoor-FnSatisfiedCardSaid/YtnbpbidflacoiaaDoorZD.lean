/- l29Descriptions of the reference: drawn descriptions. -/
import Derived.Test.YtnbpbidflacoiaaDoorRows
import Derived.Test.YtnbpbidflacoiaaDoorL0
import Derived.Test.YtnbpbidflacoiaaDoorM0
import Derived.WalkKit
import Derived.ProofKit
import Derived.OpenShut
import Derived.BigQuiet
import Derived.Outline
import Derived.WalkSpells
import Derived.WalkLawsBesides
import Derived.Deep.DeepCutAuto
import Derived.Test.YtnbpbidflacoiaaDoorZ2
import Derived.Test.YtnbpbidflacoiaaDoorFD0
import Derived.Test.YtnbpbidflacoiaaDoorRX
import Derived.Deep.AppendLies
namespace Go.Proofs.YtnbpbidflacoiaaDoor
open Go.ChangeShapes Go.WideShapes Go.ChangeAt Go.RowKit

theorem only_own {a b c : World} {g : Nat} {row : Option Nat} (h : Only a b g) (k : b.grownBy c row) (hr : ∀ j, row = some j → a.heap.size ≤ j) : Only a c g :=
  ⟨k.os.trans h.os, k.tape.trans h.tape, k.output.trans h.output, Nat.le_trans h.size k.size, fun i hi _ => (k.block i (Nat.lt_of_lt_of_le hi h.size) (by intro e; have := hr i e.symm; omega)).trans (h.block i hi ‹_›)⟩
theorem new_vs (w : World) (t : TypeId) (cs : List Value) (n : Nat) (hn : cs.length = n) : Reads (w.alloc (.cells cs.toArray t)) (w.alloc (.cells cs.toArray t)).heap.size n (some ⟨w.heap.size, 0, none⟩) 1 cs :=
  ⟨by omega, fun _ => ⟨w.heap.size, 0, rfl, by simp, fun j v hv => by
    rw [Nat.zero_add, (Blk.new w t cs.toArray).cell]; simpa using hv⟩⟩
/-- Drawn descriptions. -/
def DrawnDs (w : World) (B g : Nat) (e : Ending) (w' : World) : Prop := ∃ (L : List Dsc) (Bq : Option Addr) (dq : Nat), e = .returned (.slice Bq L.length dq) ∧ w'.ownsRow w.heap.size 25 6 (.slice Bq L.length dq) L.length (dsC L) ∧ (∀ s ∈ L, s.Ok) ∧ L.length ≤ 20 ∧ Src w' B g ∧ Only w w' g
set_option maxRecDepth 100000 in
set_option maxHeartbeats 2000000 in
theorem listD_any (B g : Nat) (w : World) (hs : Src w B g) (hB : B ≤ w.heap.size) :
    Calls Tryd.prog 55 #[.pointer (some ⟨g, 0, none⟩)] w (DrawnDs w B g) := by
  obtain ⟨i0, hi0, hz0, hz1, hz2⟩ := info_parts infoDsc
  have hgl := hs.lt
  have HS := Lib.hid hs; clear hs
  have OW := Lib.hid (World.ownsRow_made (e := 25) (base := w.heap.size) (size := 6) w #[] 0 (Nat.le_refl _) (by decide) rfl)
  have S0 := Lib.hid (HS.out.alloc (.cells #[] 25))
  have N0 := Lib.hid (only_of_below ((Below.refl w.heap.size w).alloc (Nat.le_refl _) (.cells #[] 25)) : Only w _ g)
  go_enter Tryd.func55, Tryd.ntmps55
  go_wp2_with fail
  refine (draw_any 4 B g _ S0.out (by simp; omega)).mono ?_
  rintro e w1 ⟨x, rfl, h0, h1, _, hs1, ho1⟩
  have h1' := h1 (by omega)
  have O1 := Lib.hid (own_only OW.out ho1 hgl)
  have N1 := Lib.hid (only_trans N0.out ho1)
  have S1 := Lib.hid hs1
  clear hs1 ho1 h1 OW N0 S0
  obtain ⟨m, rfl⟩ : ∃ m : Nat, x = m := ⟨x.toNat, by omega⟩
  have hm3 : m ≤ 3 := by omega
  clear h0 h1'
  go_wp2_with fail
  go_loopw [3, 4] (fun v3 v4 wr => ∃ (L : List Dsc) (n j : Nat) (Bq : Option Addr) (dq : Nat), n + j ≤ 3 ∧ Hid (L.length = n) ∧ Hid (∀ s ∈ L, s.Ok) ∧ v3 = .slice Bq n dq ∧ Hid (wr.ownsRow w.heap.size 25 6 (.slice Bq n dq) n (dsC L)) ∧ Hid (Src wr B g) ∧ Hid (Only w wr g) ∧ v4 = .int .i64 (j : Int)) (fun _ i _ => (intOf i).toNat)
  case atStart => exact ⟨[], 0, m, _, 0, by omega, rfl, (fun s h => by cases h), rfl, O1.out, S1.out, N1.out, rfl⟩
  case round =>
    clear O1 S1 N1
    obtain ⟨L, n, j, Bq, dq, hj, HN, HL, rfl, HO, S1, N1, rfl⟩ := hrel
    have hwB : w.heap.size ≤ wr.heap.size := N1.out.size
    cases j with
    | zero =>
      have hno : ¬ (0 : Int) < ((0 : Nat) : Int) := by omega
      go_wp2_with fail
      refine (draw_any 30 B g wr S1.out (by omega)).mono ?_
      rintro e w2 ⟨y, rfl, y0, y1, _, hs2, ho2⟩
      have O2 := Lib.hid (own_only HO.out ho2 hgl)
      have N2 := Lib.hid (only_trans N1.out ho2)
      have S2 := Lib.hid hs2
      have hz2' := N2.out.size
      clear hs2 ho2 y1 HO N1 S1
      by_cases hy0 : y = 0
      · subst hy0
        go_wp2_with fail
        go_loopw [3] (fun v3 wr => ∃ (L : List Dsc) (n : Nat) (Bq : Option Addr) (dq : Nat), n ≤ 9 ∧ Hid (L.length = n) ∧ Hid (∀ s ∈ L, s.Ok) ∧ v3 = .slice Bq n dq ∧ Hid (wr.ownsRow w.heap.size 25 6 (.slice Bq n dq) n (dsC L)) ∧ Hid (Src wr B g) ∧ Hid (Only w wr g)) (fun v _ => 9 - (match v with | .slice _ n _ => n | _ => 0))
        case atStart => exact ⟨L, n, Bq, dq, by omega, HN.out, HL.out, rfl, O2.out, S2.out, N2.out⟩
        case round =>
          clear O2 S2 N2 HN HL
          obtain ⟨L, n, Bq, dq, hj, HN, HL, rfl, HO, S1, N1⟩ := hrel
          have hwB : w.heap.size ≤ wr.heap.size := N1.out.size
          go_wp2_with fail
          refine (draw_any 2 B g wr S1.out (by omega)).mono ?_
          rintro e w2 ⟨z, rfl, z0, z1, _, hs2, ho2⟩
          have hzz := z1 (by omega)
          have O2 := Lib.hid (own_only HO.out ho2 hgl)
          have N2 := Lib.hid (only_trans N1.out ho2)
          have S2 := Lib.hid hs2
          have hz2' := N2.out.size
          have zw : IntKind.i64.wrap (8 + z) = 8 + z := IntWalk.i64_in _ (by omega)
          clear hs2 ho2 z1 HO N1 S1
          by_cases hlt : (n : Int) < 8 + z
          · skip
            go_wp2_with (at_builtin; refine wpList_append_any _ rfl (.tmp 33) (.tmp 35) _ rfl w.heap.size 25 i0 _ 6 72 Tryd.underlying50 hi0 hz0 hz1 hz2 rfl (by omega) (.slice Bq n dq) n (dsC L) rfl (O2.out.alloc _) _ (some ⟨w2.heap.size, 0, none⟩) 1 1 [.int .i64 1, .int .i64 0, .string ⟨#[]⟩, .int .i64 0, .string ⟨#[97, 115, 104]⟩, .string ⟨#[]⟩] rfl (new_vs _ _ _ _ rfl) (by simp [Value.oneCell']) (by simp only [maxLen]; omega) (by omega) (by simp; omega) ?_; intro v9 w9 hown9 hg9 hat9; obtain ⟨B9, d9, rfl, _⟩ := own_shape hown9)
            have hlo : ∀ k, (Value.slice Bq n dq).ownBlock = some k → w.heap.size ≤ k := fun k hk => (own_lt O2.out k hk).1
            have S9 := Lib.hid ((S2.out.alloc _).grown hg9 (by intro e; have := hlo g e; omega) (fun k hk => by have := hlo k hk; omega))
            have N9 := Lib.hid (only_own (only_trans N2.out (only_of_below ((Below.refl w2.heap.size w2).alloc (Nat.le_refl _) _))) hg9 hlo)
            have O9 := Lib.hid (show w9.ownsRow w.heap.size 25 6 (.slice B9 (n + 1) d9) (n + 1) (dsC (L ++ [⟨1, 0, ⟨#[]⟩, 0, ⟨#[97, 115, 104]⟩, ⟨#[]⟩⟩])) by simpa [dsC, Dsc.cells] using hown9)
            clear hown9 hg9 hat9 hlo
            go_roundw
            case rel => exact ⟨L ++ [(⟨1, 0, ⟨#[]⟩, 0, ⟨#[97, 115, 104]⟩, ⟨#[]⟩⟩ : Dsc)], n + 1, B9, d9, by omega, by have := HN.out; simp [Hid, this], (fun a ha => (List.mem_append.1 ha).elim (HL.out a) (fun h => by rw [List.mem_singleton] at h; rw [h]; exact (show Dsc.Ok ⟨1, 0, ⟨#[]⟩, 0, ⟨#[97, 115, 104]⟩, ⟨#[]⟩⟩ from ⟨by decide, by decide, by decide⟩))), rfl, O9.out, S9.out, N9.out⟩
            case measure => dsimp only; omega
          · skip
            go_wp2_with fail
            go_ret
            have hn := HN.out
            subst hn
            exact ⟨L, Bq, dq, by first | rfl | simp, by first | exact O2.out | simpa using O2.out, HL.out, by (try simp); omega, S2.out, N2.out⟩
      · have e0 : (y == 0) = false := by simpa using hy0
        go_wp2_with fail
        go_ret
        have hn := HN.out
        subst hn
        exact ⟨L, Bq, dq, by first | rfl | simp, by first | exact O2.out | simpa using O2.out, HL.out, by (try simp); omega, S2.out, N2.out⟩
    | succ j =>
      have hyes : (0 : Int) < ((j + 1 : Nat) : Int) := by omega
      go_wp2_with fail
      refine (goodD_any B g wr S1.out (by omega)).mono ?_
      rintro e w2 ⟨⟨kd, ct, un, dr, a, b⟩, rfl, c0, hs2, ho2⟩
      unfold Dsc.val
      dsimp only
      have O2 := Lib.hid (own_only HO.out ho2 hgl)
      have N2 := Lib.hid (only_trans N1.out ho2)
      have S2 := Lib.hid hs2
      have hz2' := N2.out.size
      have hsz2 := ho2.size
      clear hs2 ho2
      go_upto_region 6 with (fail)
      generalize hW3 : w2.alloc (.cells #[.int .i64 kd, .int .i64 ct, .string un, .int .i64 dr, .string a, .string b] 25) = w3
      have K3 := Lib.hid (show Blk w3 w2.heap.size 25 #[.int .i64 kd, .int .i64 ct, .string un, .int .i64 dr, .string a, .string b] by rw [← hW3]; exact Blk.new _ _ _)
      have S3 := Lib.hid (show Src w3 B g by rw [← hW3]; exact S2.out.alloc _)
      have N3 := Lib.hid (show Only w w3 g by rw [← hW3]; exact only_trans N2.out (only_of_below ((Below.refl _ _).alloc (Nat.le_refl _) _)))
      have O3 := Lib.hid (show w3.ownsRow w.heap.size 25 6 (.slice Bq n dq) n (dsC L) by rw [← hW3]; exact own_below O2.out ((Below.refl _ _).alloc (Nat.le_refl _) _))
      have HNE := Lib.hid (show ∀ k, (Value.slice Bq n dq).ownBlock = some k → k ≠ w2.heap.size from fun k hk => by have := (own_lt O2.out k hk).2; omega)
      have hz3' : w2.heap.size + 1 ≤ w3.heap.size := K3.out.lt
      clear hW3 S2 N2 O2
      go_wp2_with fail
      refine (draw_any 30 B g w3 S3.out (by omega)).mono ?_
      rintro e w4 ⟨y, rfl, y0, y1, _, hs4, ho4⟩
      have O4 := Lib.hid (own_only O3.out ho4 hgl)
      have K4 := Lib.hid (K3.out.grown ho4 (by intro e; injection e with e; omega))
      have N4 := Lib.hid (only_trans N3.out ho4)
      have S4 := Lib.hid hs4
      have hz4' := ho4.size
      clear hs4 ho4 y1 O3 N3 S3 K3
      by_cases hy0 : y = 0
      · subst hy0
        go_wp2_with fail
        refine (drawD_any B g w4 S4.out (by omega)).mono ?_
        rintro e w5 ⟨⟨kd2, ct2, un2, dr2, a2, b2⟩, rfl, c2, hs5, ho5⟩
        unfold Dsc.val
        dsimp only
        have O5 := Lib.hid (own_only O4.out ho5 hgl)
        have K5 := Lib.hid (K4.out.grown ho5 (by intro e; injection e with e; omega))
        have N5 := Lib.hid (only_trans N4.out ho5)
        have S5 := Lib.hid hs5
        have hz5' := ho5.size
        clear hs5 ho5 O4 N4 S4 K4
        obtain ⟨g0, g1, g2, g3, g4, g5, g6, g7, g8, g9, g10, g11, g12, g13, g14, g15, g16, g17⟩ := six_facts K5.out
        go_upto_region 8 with (fail)
        clear g0 g1 g2 g3 g4 g5 g6 g7 g8 g9 g10 g11 g12 g13 g14 g15 g16 g17
        generalize hw : (((((w5.setCell ⟨w2.heap.size, 0, none⟩ (.int .i64 kd2)).setCell ⟨w2.heap.size, 1, none⟩ (.int .i64 ct2)).setCell ⟨w2.heap.size, 2, none⟩ (.string un2)).setCell ⟨w2.heap.size, 3, none⟩ (.int .i64 dr2)).setCell ⟨w2.heap.size, 4, none⟩ (.string a2)).setCell ⟨w2.heap.size, 5, none⟩ (.string b2) = w6
        obtain ⟨kq, kept⟩ := stored_6 K5.out S5.out N5.out (by omega) (by omega) (by omega) (.int .i64 kd2) (.int .i64 ct2) (.string un2) (.int .i64 dr2) (.string a2) (.string b2) w6 hw.symm
        have K6 := Lib.hid kq
        have O6 := Lib.hid (kept.own O5.out HNE.out)
        have S6 := Lib.hid kept.src
        have N6 := Lib.hid kept.only
        have hz6' := Nat.le_of_eq kept.size.symm
        clear kq kept hw O5 N5 S5 K5
        obtain ⟨q0, q1, q2, q3, q4, q5⟩ := six_cells K6.out
        go_wp2_with (at_builtin; refine wpList_append_any _ rfl (.tmp 20) (.tmp 22) _ rfl w.heap.size 25 i0 _ 6 72 Tryd.underlying50 hi0 hz0 hz1 hz2 rfl (by omega) (.slice Bq n dq) n (dsC L) rfl (O6.out.alloc _) _ (some ⟨w6.heap.size, 0, none⟩) 1 1 [.int .i64 kd2, .int .i64 ct2, .string un2, .int .i64 dr2, .string a2, .string b2] rfl (new_vs _ _ _ _ rfl) (by simp [Value.oneCell']) (by simp only [maxLen]; omega) (by omega) (by simp; omega) ?_; intro v9 w9 hown9 hg9 hat9; obtain ⟨B9, d9, rfl, _⟩ := own_shape hown9)
        have hlo : ∀ k, (Value.slice Bq n dq).ownBlock = some k → w.heap.size ≤ k := fun k hk => (own_lt O6.out k hk).1
        have S9 := Lib.hid ((S6.out.alloc _).grown hg9 (by intro e; have := hlo g e; omega) (fun k hk => by have := hlo k hk; omega))
        have N9 := Lib.hid (only_own (only_trans N6.out (only_of_below ((Below.refl w6.heap.size w6).alloc (Nat.le_refl _) _))) hg9 hlo)
        have O9 := Lib.hid (show w9.ownsRow w.heap.size 25 6 (.slice B9 (n + 1) d9) (n + 1) (dsC (L ++ [⟨kd2, ct2, un2, dr2, a2, b2⟩])) by simpa [dsC, Dsc.cells] using hown9)
        clear hown9 hg9 hat9 hlo
        clear q0 q1 q2 q3 q4 q5
        go_roundw
        case rel => exact ⟨L ++ [(⟨kd2, ct2, un2, dr2, a2, b2⟩ : Dsc)], n + 1, j, B9, d9, by omega, by have := HN.out; simp [Hid, this], (fun a ha => (List.mem_append.1 ha).elim (HL.out a) (fun h => by rw [List.mem_singleton] at h; rw [h]; exact c2)), rfl, O9.out, S9.out, N9.out, by go_num⟩
        case measure => simp [intOf]
      · have e0 : (y == 0) = false := by simpa using hy0
        obtain ⟨q0, q1, q2, q3, q4, q5⟩ := six_cells K4.out
        go_wp2_with (at_builtin; refine wpList_append_any _ rfl (.tmp 20) (.tmp 22) _ rfl w.heap.size 25 i0 _ 6 72 Tryd.underlying50 hi0 hz0 hz1 hz2 rfl (by omega) (.slice Bq n dq) n (dsC L) rfl (O4.out.alloc _) _ (some ⟨w4.heap.size, 0, none⟩) 1 1 [.int .i64 kd, .int .i64 ct, .string un, .int .i64 dr, .string a, .string b] rfl (new_vs _ _ _ _ rfl) (by simp [Value.oneCell']) (by simp only [maxLen]; omega) (by omega) (by simp; omega) ?_; intro v9 w9 hown9 hg9 hat9; obtain ⟨B9, d9, rfl, _⟩ := own_shape hown9)
        have hlo : ∀ k, (Value.slice Bq n dq).ownBlock = some k → w.heap.size ≤ k := fun k hk => (own_lt O4.out k hk).1
        have S9 := Lib.hid ((S4.out.alloc _).grown hg9 (by intro e; have := hlo g e; omega) (fun k hk => by have := hlo k hk; omega))
        have N9 := Lib.hid (only_own (only_trans N4.out (only_of_below ((Below.refl w4.heap.size w4).alloc (Nat.le_refl _) _))) hg9 hlo)
        have O9 := Lib.hid (show w9.ownsRow w.heap.size 25 6 (.slice B9 (n + 1) d9) (n + 1) (dsC (L ++ [⟨kd, ct, un, dr, a, b⟩])) by simpa [dsC, Dsc.cells] using hown9)
        clear hown9 hg9 hat9 hlo
        clear q0 q1 q2 q3 q4 q5
        go_roundw
        case rel => exact ⟨L ++ [(⟨kd, ct, un, dr, a, b⟩ : Dsc)], n + 1, j, B9, d9, by omega, by have := HN.out; simp [Hid, this], (fun a ha => (List.mem_append.1 ha).elim (HL.out a) (fun h => by rw [List.mem_singleton] at h; rw [h]; exact c0)), rfl, O9.out, S9.out, N9.out, by go_num⟩
        case measure => simp [intOf]
end Go.Proofs.YtnbpbidflacoiaaDoor
