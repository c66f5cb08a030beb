/- l27Draw of the reference: drawn ballots. -/
import Derived.Test.YtihhpmhigmegjaaDoorRows
import Derived.Test.YtihhpmhigmegjaaDoorL0
import Derived.Test.YtihhpmhigmegjaaDoorM0
import Derived.WalkKit
import Derived.ProofKit
import Derived.OpenShut
import Derived.BigQuiet
import Derived.Outline
import Derived.WalkSpells
import Derived.WalkLawsBesides
import Derived.Deep.DeepCutAuto
import Derived.Test.YtihhpmhigmegjaaDoorVTA
import Derived.Test.YtihhpmhigmegjaaDoorK5
import Derived.Deep.AppendLies
namespace Go.Proofs.YtihhpmhigmegjaaDoor
open Go.ChangeShapes Go.WideShapes Go.ChangeAt Go.RowKit Go.Sort

theorem new_vs (w : World) (t : TypeId) (cs : List Value) (n : Nat) (hn : cs.length = n) : Reads (w.alloc (.cells cs.toArray t)) (w.alloc (.cells cs.toArray t)).heap.size n (some ⟨w.heap.size, 0, none⟩) 1 cs :=
  ⟨by omega, fun _ => ⟨w.heap.size, 0, rfl, by simp, fun j v hv => by
    rw [Nat.zero_add, (Blk.new w t cs.toArray).cell]; simpa using hv⟩⟩
theorem only_own {a b c : World} {g : Nat} {row : Option Nat} (h : Only a b g) (k : b.grownBy c row) (hr : ∀ j, row = some j → a.heap.size ≤ j) : Only a c g :=
  ⟨k.os.trans h.os, k.tape.trans h.tape, k.output.trans h.output, Nat.le_trans h.size k.size, fun i hi _ => (k.block i (Nat.lt_of_lt_of_le hi h.size) (by intro e; have := hr i e.symm; omega)).trans (h.block i hi ‹_›)⟩
theorem castL_le (xs : List Bal) (y : Bal) : (castL xs y).length ≤ 10 := by
  unfold castL
  split
  · split
    · exact (fits_of ‹_›).1.1
    · simp
  · simp
theorem castL_small {xs : List Bal} {y : Bal} (h : ∀ b ∈ xs, SmallB b) (hy : SmallB y) : ∀ b ∈ castL xs y, SmallB b := by
  intro b hb
  unfold castL at hb
  split at hb
  · split at hb
    · rcases castN_mem hb with h1 | h1
      · exact h b h1
      · rw [h1]; exact hy
    · simp at hb
  · simp at hb
/-- Drawn ballots. -/
def DrawnBs (w : World) (B g : Nat) (e : Ending) (w' : World) : Prop := ∃ (L : List Bal) (Bq : Option Addr) (dq : Nat), e = .returned (.slice Bq L.length dq) ∧ w'.ownsRow w.heap.size 32 3 (.slice Bq L.length dq) L.length (baC L) ∧ (∀ s ∈ L, SmallB s) ∧ L.length ≤ 30 ∧ Src w' B g ∧ Only w w' g
set_option maxRecDepth 100000 in
set_option maxHeartbeats 2000000 in
theorem listB_any (B g : Nat) (w : World) (hs : Src w B g) (hB : B ≤ w.heap.size) :
    Calls Tryd.prog 29 #[.pointer (some ⟨g, 0, none⟩)] w (DrawnBs w B g) := by
  obtain ⟨i0, hi0, hz0, hz1, hz2⟩ := info_parts infoBal
  have hgl := hs.lt
  have HS := Lib.hid hs; clear hs
  have OW := Lib.hid (World.ownsRow_made (e := 32) (base := w.heap.size) (size := 3) w #[] 0 (Nat.le_refl _) (by decide) rfl)
  have S0 := Lib.hid (HS.out.alloc (.cells #[] 32))
  have N0 := Lib.hid (only_of_below ((Below.refl w.heap.size w).alloc (Nat.le_refl _) (.cells #[] 32)) : Only w _ g)
  go_enter Tryd.func29, Tryd.ntmps29
  go_wp2_with fail
  refine (draw_any 8 B g _ S0.out (by simp; omega)).mono ?_
  rintro e w1 ⟨x, rfl, h0, h1, _, hs1, ho1⟩
  have h1' := h1 (by omega)
  have O1 := Lib.hid (own_only OW.out ho1 hgl)
  have N1 := Lib.hid (only_trans N0.out ho1)
  have S1 := Lib.hid hs1
  clear hs1 ho1 h1 OW N0 S0
  obtain ⟨m, rfl⟩ : ∃ m : Nat, x = m := ⟨x.toNat, by omega⟩
  have hm3 : m ≤ 7 := by omega
  clear h0 h1'
  go_wp2_with fail
  go_loopw [3, 4] (fun v3 v4 wr => ∃ (L : List Bal) (n j : Nat) (Bq : Option Addr) (dq : Nat), n ≤ 10 ∧ j ≤ 7 ∧ Hid (L.length = n) ∧ Hid (∀ s ∈ L, SmallB s) ∧ v3 = .slice Bq n dq ∧ Hid (wr.ownsRow w.heap.size 32 3 (.slice Bq n dq) n (baC L)) ∧ Hid (Src wr B g) ∧ Hid (Only w wr g) ∧ v4 = .int .i64 (j : Int)) (fun _ i _ => (intOf i).toNat)
  case atStart => exact ⟨[], 0, m, _, 0, by omega, by omega, rfl, (fun s h => by cases h), rfl, O1.out, S1.out, N1.out, rfl⟩
  case round =>
    clear O1 S1 N1
    obtain ⟨L, n, j, Bq, dq, hj, hj7, HN, HL, rfl, HO, S1, N1, rfl⟩ := hrel
    have hwB : w.heap.size ≤ wr.heap.size := N1.out.size
    cases j with
    | zero =>
      have hno : ¬ (0 : Int) < ((0 : Nat) : Int) := by omega
      go_wp2_with fail
      refine (draw_any 24 B g wr S1.out (by omega)).mono ?_
      rintro e w2 ⟨y, rfl, y0, y1, _, hs2, ho2⟩
      have hy := y1 (by omega)
      have O2 := Lib.hid (own_only HO.out ho2 hgl)
      have N2 := Lib.hid (only_trans N1.out ho2)
      have S2 := Lib.hid hs2
      have hz2' := N2.out.size
      clear hs2 ho2 y1 HO N1 S1
      obtain rfl | rfl | hx : y = 0 ∨ y = 1 ∨ 2 ≤ y := by omega
      · skip
        go_wp2_with fail
        refine (ballot_any B g w2 S2.out (by omega)).mono ?_
        rintro e w3 ⟨⟨nm, ct, wt⟩, rfl, c0, hs3, ho3⟩
        dsimp only [SmallB] at c0
        unfold Bal.val
        dsimp only
        have O3 := Lib.hid (own_only O2.out ho3 hgl)
        have N3 := Lib.hid (only_trans N2.out ho3)
        have S3 := Lib.hid hs3
        have hz3' := N3.out.size
        clear hs3 ho3
        go_wp2_with (at_builtin; refine wpList_append_any _ rfl (.tmp 29) (.tmp 32) _ rfl w.heap.size 32 i0 _ 3 32 Tryd.underlying24 hi0 hz0 hz1 hz2 rfl (by omega) (.slice Bq n dq) n (baC L) rfl (O3.out.alloc _) _ (some ⟨w3.heap.size, 0, none⟩) 1 1 [.string nm, .int .i64 ct, .int .i64 wt] rfl (new_vs _ _ _ _ rfl) (by simp [Value.oneCell']) (by simp only [maxLen]; omega) (by omega) (by simp; omega) ?_; intro v4 w4 hown4 hg4 hat4; obtain ⟨B4, d4, rfl, _⟩ := own_shape hown4)
        have hlo : ∀ k, (Value.slice Bq n dq).ownBlock = some k → w.heap.size ≤ k := fun k hk => (own_lt O3.out k hk).1
        have S4 := Lib.hid ((S3.out.alloc _).grown hg4 (by intro e; have := hlo g e; omega) (fun k hk => by have := hlo k hk; omega))
        have N4 := Lib.hid (only_own (only_trans N3.out (only_of_below ((Below.refl w3.heap.size w3).alloc (Nat.le_refl _) _))) hg4 hlo)
        have O4 := Lib.hid (show w4.ownsRow w.heap.size 32 3 (.slice B4 (n + 1) d4) (n + 1) (baC (L ++ [⟨nm, ct, wt⟩])) by simpa [baC, Bal.cells] using hown4)
        clear hown4 hg4 hat4 hlo
        go_wp2_with fail
        go_ret
        have hn := HN.out
        subst hn
        exact ⟨L ++ [(⟨nm, ct, wt⟩ : Bal)], B4, d4, by first | rfl | simp, by first | exact O4.out | simpa using O4.out, (fun a ha => (List.mem_append.1 ha).elim (HL.out a) (fun h => by rw [List.mem_singleton] at h; rw [h]; exact c0)), by (try simp); omega, S4.out, N4.out⟩
      · skip
        go_wp2_with fail
        go_loopw [3, 7] (fun v3 v7 wr => ∃ (L : List Bal) (n i : Nat) (Bq : Option Addr) (dq : Nat), i ≤ 12 ∧ n ≤ 10 + i ∧ Hid (L.length = n) ∧ Hid (∀ s ∈ L, SmallB s) ∧ v3 = .slice Bq n dq ∧ Hid (wr.ownsRow w.heap.size 32 3 (.slice Bq n dq) n (baC L)) ∧ Hid (Src wr B g) ∧ Hid (Only w wr g) ∧ v7 = .int .i64 (i : Int)) (fun _ i _ => 12 - (intOf i).toNat)
        case atStart => exact ⟨L, n, 0, Bq, dq, by omega, by omega, HN.out, HL.out, rfl, O2.out, S2.out, N2.out, rfl⟩
        case round =>
          clear O2 S2 N2 HN HL
          obtain ⟨L, n, i, Bq, dq, hi12, hni, HN, HL, rfl, HO, S1, N1, rfl⟩ := hrel
          have hwB : w.heap.size ≤ wr.heap.size := N1.out.size
          go_wp2_with fail
          refine (draw_any 2 B g wr S1.out (by omega)).mono ?_
          rintro e w2 ⟨z, rfl, z0, z1, _, hs2, ho2⟩
          have hzz := z1 (by omega)
          have O2 := Lib.hid (own_only HO.out ho2 hgl)
          have N2 := Lib.hid (only_trans N1.out ho2)
          have S2 := Lib.hid hs2
          have hz2' := N2.out.size
          have zw : IntKind.i64.wrap (10 + z) = 10 + z := IntWalk.i64_in _ (by omega)
          clear hs2 ho2 z1 HO N1 S1
          by_cases hlt : (n : Int) < 10 + z
          · by_cases hi : i < 12
            · have hi1 : (i : Int) < 12 := by omega
              have i0' : (0 : Int) ≤ (i : Int) := by omega
              have i1' : (i : Int) ≤ (i : Int) + 1 := by omega
              have i2' : (i : Int) + 1 ≤ 12 := by omega
              have i3' : ((i : Int) + 1).toNat = i + 1 := by omega
              have hnm : (⟨#[122]⟩ ++ ByteArray.extract ⟨#[97, 98, 99, 100, 101, 102, 103, 104, 105, 106, 107, 108]⟩ i (i + 1)).size ≤ 300 := by rw [ByteArray.size_append, ByteArray.size_extract]; show 1 + _ ≤ 300; omega
              go_wp2_with (at_builtin; refine wpList_append_any _ rfl (.tmp 48) (.tmp 55) _ rfl w.heap.size 32 i0 _ 3 32 Tryd.underlying24 hi0 hz0 hz1 hz2 rfl (by omega) (.slice Bq n dq) n (baC L) rfl (O2.out.alloc _) _ (some ⟨w2.heap.size, 0, none⟩) 1 1 [.string (⟨#[122]⟩ ++ ByteArray.extract ⟨#[97, 98, 99, 100, 101, 102, 103, 104, 105, 106, 107, 108]⟩ i (i + 1)), .int .i64 1, .int .i64 1] rfl (new_vs _ _ _ _ rfl) (by simp [Value.oneCell']) (by simp only [maxLen]; omega) (by omega) (by simp; omega) ?_; intro v4 w4 hown4 hg4 hat4; obtain ⟨B4, d4, rfl, _⟩ := own_shape hown4)
              have hlo : ∀ k, (Value.slice Bq n dq).ownBlock = some k → w.heap.size ≤ k := fun k hk => (own_lt O2.out k hk).1
              have S4 := Lib.hid ((S2.out.alloc _).grown hg4 (by intro e; have := hlo g e; omega) (fun k hk => by have := hlo k hk; omega))
              have N4 := Lib.hid (only_own (only_trans N2.out (only_of_below ((Below.refl w2.heap.size w2).alloc (Nat.le_refl _) _))) hg4 hlo)
              have O4 := Lib.hid (show w4.ownsRow w.heap.size 32 3 (.slice B4 (n + 1) d4) (n + 1) (baC (L ++ [⟨(⟨#[122]⟩ ++ ByteArray.extract ⟨#[97, 98, 99, 100, 101, 102, 103, 104, 105, 106, 107, 108]⟩ i (i + 1)), 1, 1⟩])) by simpa [baC, Bal.cells] using hown4)
              clear hown4 hg4 hat4 hlo
              go_roundw
              case rel => exact ⟨L ++ [(⟨(⟨#[122]⟩ ++ ByteArray.extract ⟨#[97, 98, 99, 100, 101, 102, 103, 104, 105, 106, 107, 108]⟩ i (i + 1)), 1, 1⟩ : Bal)], n + 1, i + 1, B4, d4, by omega, by omega, by have := HN.out; simp [Hid, this], (fun a ha => (List.mem_append.1 ha).elim (HL.out a) (fun h => by rw [List.mem_singleton] at h; rw [h]; exact hnm)), rfl, O4.out, S4.out, N4.out, by go_num⟩
              case measure => simp [intOf]; omega
            · have hi1 : ¬ (i : Int) < 12 := by omega
              go_wp2_with fail
              go_ret
              have hn := HN.out
              subst hn
              exact ⟨L, Bq, dq, by first | rfl | simp, by first | exact O2.out | simpa using O2.out, HL.out, by (try simp); omega, S2.out, N2.out⟩
          · skip
            go_wp2_with fail
            go_ret
            have hn := HN.out
            subst hn
            exact ⟨L, Bq, dq, by first | rfl | simp, by first | exact O2.out | simpa using O2.out, HL.out, by (try simp); omega, S2.out, N2.out⟩
      · skip
        have e0 : (y == 0) = false := by simp; omega
        have e1 : (y == 1) = false := by simp; omega
        go_wp2_with fail
        go_ret
        have hn := HN.out
        subst hn
        exact ⟨L, Bq, dq, by first | rfl | simp, by first | exact O2.out | simpa using O2.out, HL.out, by (try simp); omega, S2.out, N2.out⟩
    | succ j =>
      have hyes : (0 : Int) < ((j + 1 : Nat) : Int) := by omega
      go_wp2_with fail
      refine (ballot_any B g wr S1.out (by omega)).mono ?_
      rintro e w2 ⟨⟨nm, ct, wt⟩, rfl, c0, hs2, ho2⟩
      have O2 := Lib.hid (own_only HO.out ho2 hgl)
      have N2 := Lib.hid (only_trans N1.out ho2)
      have S2 := Lib.hid hs2
      have hz2' := N2.out.size
      clear hs2 ho2
      have hn := HN.out
      subst hn
      have HC := Lib.hid (specCast_any L ⟨nm, ct, wt⟩ (by dsimp only [SmallB] at c0 ⊢; omega) Bq dq w2 ⟨Reads.of_own O2.out, by omega, fun b hb => by have := HL.out b hb; dsimp only [SmallB] at this; omega⟩)
      have HSm := Lib.hid (castL_small HL.out c0)
      have hcl := castL_le L ⟨nm, ct, wt⟩
      generalize castC L ⟨nm, ct, wt⟩ = cc at HC
      generalize castL L ⟨nm, ct, wt⟩ = M at HC HSm hcl
      unfold Bal.val at HC ⊢
      dsimp only at HC ⊢
      go_wp2_with fail
      refine HC.out.mono ?_
      rintro e w3 ⟨v, rfl, own, b⟩
      obtain ⟨A3, c3, rfl, _⟩ := own_shape own
      have O3 := Lib.hid (own_below O2.out b)
      have N3 := Lib.hid (only_trans N2.out (only_of_below b))
      have S3 := Lib.hid (S2.out.below b)
      have OM := Lib.hid (own_mono own hz2')
      clear own b HC
      by_cases hcc : cc = 0
      · subst hcc
        go_wp2_with fail
        go_roundw
        case rel => exact ⟨M, M.length, j, A3, c3, by omega, by omega, rfl, HSm.out, rfl, OM.out, S3.out, N3.out, by go_num⟩
        case measure => simp [intOf]
      · have hc1 : (cc == 0) = false := by simpa using hcc
        go_wp2_with fail
        go_roundw
        case rel => exact ⟨L, L.length, j, Bq, dq, by omega, by omega, rfl, HL.out, rfl, O3.out, S3.out, N3.out, by go_num⟩
        case measure => simp [intOf]
end Go.Proofs.YtihhpmhigmegjaaDoor
