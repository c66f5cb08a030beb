/- l26List of the reference: a drawn list. -/
import Derived.Test.YtihhpmhigmegjaaGreatDoorRows
import Derived.Test.YtihhpmhigmegjaaGreatDoorL0
import Derived.Test.YtihhpmhigmegjaaGreatDoorM0
import Derived.WalkKit
import Derived.ProofKit
import Derived.OpenShut
import Derived.BigQuiet
import Derived.Outline
import Derived.WalkSpells
import Derived.WalkLawsBesides
import Derived.Deep.DeepCutAuto
import Derived.Test.YtihhpmhigmegjaaGreatDoorPQD
import Derived.Deep.AppendLies
namespace Go.Proofs.YtihhpmhigmegjaaGreatDoor
open Go.ChangeShapes Go.WideShapes Go.ChangeAt Go.RowKit

theorem new_vs (w : World) (t : TypeId) (cs : List Value) (n : Nat) (hn : cs.length = n) : Reads (w.alloc (.cells cs.toArray t)) (w.alloc (.cells cs.toArray t)).heap.size n (some ⟨w.heap.size, 0, none⟩) 1 cs :=
  ⟨by omega, fun _ => ⟨w.heap.size, 0, rfl, by simp, fun j v hv => by
    rw [Nat.zero_add, (Blk.new w t cs.toArray).cell]; simpa using hv⟩⟩
/-- A drawn list. -/
def DrawnEs (w : World) (B g : Nat) (e : Ending) (w' : World) : Prop := ∃ (L : List Ent) (Bq : Option Addr) (dq : Nat), e = .returned (.slice Bq L.length dq) ∧ w'.ownsRow w.heap.size 45 4 (.slice Bq L.length dq) L.length (enC L) ∧ (∀ s ∈ L, SmallE s) ∧ L.length ≤ 20 ∧ Src w' B g ∧ Only w w' g
set_option maxRecDepth 100000 in
set_option maxHeartbeats 2000000 in
theorem listE_any (B g : Nat) (w : World) (hs : Src w B g) (hB : B ≤ w.heap.size) :
    Calls Tryz.prog 69 #[.pointer (some ⟨g, 0, none⟩)] w (DrawnEs w B g) := by
  obtain ⟨i0, hi0, hz0, hz1, hz2⟩ := info_parts infoEnt
  have hgl := hs.lt
  have HS := Lib.hid hs; clear hs
  have OW := Lib.hid (World.ownsRow_made (e := 45) (base := w.heap.size) (size := 4) w #[] 0 (Nat.le_refl _) (by decide) rfl)
  have S0 := Lib.hid (HS.out.alloc (.cells #[] 45))
  have N0 := Lib.hid (only_of_below ((Below.refl w.heap.size w).alloc (Nat.le_refl _) (.cells #[] 45)) : Only w _ g)
  go_enter Tryz.func69, Tryz.ntmps69
  go_wp2_with fail
  refine (draw_any 8 B g _ S0.out (by simp; omega)).mono ?_
  rintro e w1 ⟨x, rfl, h0, h1, _, hs1, ho1⟩
  have h1' := h1 (by omega)
  have O1 := Lib.hid (own_only OW.out ho1 hgl)
  have N1 := Lib.hid (only_trans N0.out ho1)
  have S1 := Lib.hid hs1
  clear hs1 ho1 h1 OW N0 S0
  obtain ⟨m, rfl⟩ : ∃ m : Nat, x = m := ⟨x.toNat, by omega⟩
  have hm3 : m ≤ 7 := by omega
  clear h0 h1'
  go_wp2_with fail
  go_loopw [3, 4] (fun v3 v4 wr => ∃ (L : List Ent) (n j : Nat) (Bq : Option Addr) (dq : Nat), n + j ≤ 7 ∧ Hid (L.length = n) ∧ Hid (∀ s ∈ L, SmallE s) ∧ v3 = .slice Bq n dq ∧ Hid (wr.ownsRow w.heap.size 45 4 (.slice Bq n dq) n (enC L)) ∧ Hid (Src wr B g) ∧ Hid (Only w wr g) ∧ v4 = .int .i64 (j : Int)) (fun _ i _ => (intOf i).toNat)
  case atStart => exact ⟨[], 0, m, _, 0, by omega, rfl, (fun s h => by cases h), rfl, O1.out, S1.out, N1.out, rfl⟩
  case round =>
    clear O1 S1 N1
    obtain ⟨L, n, j, Bq, dq, hj, HN, HL, rfl, HO, S1, N1, rfl⟩ := hrel
    have hwB : w.heap.size ≤ wr.heap.size := N1.out.size
    cases j with
    | zero =>
      have hno : ¬ (0 : Int) < ((0 : Nat) : Int) := by omega
      go_wp2_with fail
      refine (draw_any 24 B g wr S1.out (by omega)).mono ?_
      rintro e w2 ⟨y, rfl, y0, y1, _, hs2, ho2⟩
      have hy := y1 (by omega)
      have O2 := Lib.hid (own_only HO.out ho2 hgl)
      have N2 := Lib.hid (only_trans N1.out ho2)
      have S2 := Lib.hid hs2
      have hz2' := N2.out.size
      clear hs2 ho2 y1 HO N1 S1
      obtain rfl | rfl | rfl | hx : y = 0 ∨ y = 1 ∨ y = 2 ∨ 3 ≤ y := by omega
      · skip
        go_wp2_with fail
        refine (drawE_any B g w2 S2.out (by omega)).mono ?_
        rintro e w3 ⟨⟨tx, ex, ey, si⟩, rfl, c0, hs3, ho3⟩
        dsimp only [SmallE] at c0
        unfold Ent.val
        dsimp only
        have O3 := Lib.hid (own_only O2.out ho3 hgl)
        have N3 := Lib.hid (only_trans N2.out ho3)
        have S3 := Lib.hid hs3
        have hz3' := N3.out.size
        clear hs3 ho3
        go_wp2_with (at_builtin; refine wpList_append_any _ rfl (.tmp 21) (.tmp 24) _ rfl w.heap.size 45 i0 _ 4 40 Tryz.underlying41 hi0 hz0 hz1 hz2 rfl (by omega) (.slice Bq n dq) n (enC L) rfl (O3.out.alloc _) _ (some ⟨w3.heap.size, 0, none⟩) 1 1 [.string tx, .int .i64 ex, .int .i64 ey, .int .i64 si] rfl (new_vs _ _ _ _ rfl) (by simp [Value.oneCell']) (by simp only [maxLen]; omega) (by omega) (by simp; omega) ?_; intro v4 w4 hown4 hg4 hat4; obtain ⟨B4, d4, rfl, _⟩ := own_shape hown4)
        have hlo : ∀ k, (Value.slice Bq n dq).ownBlock = some k → w.heap.size ≤ k := fun k hk => (own_lt O3.out k hk).1
        have S4 := Lib.hid ((S3.out.alloc _).grown hg4 (by intro e; have := hlo g e; omega) (fun k hk => by have := hlo k hk; omega))
        have N4 := Lib.hid (only_own (only_trans N3.out (only_of_below ((Below.refl w3.heap.size w3).alloc (Nat.le_refl _) _))) hg4 hlo)
        have O4 := Lib.hid (show w4.ownsRow w.heap.size 45 4 (.slice B4 (n + 1) d4) (n + 1) (enC (L ++ [⟨tx, ex, ey, si⟩])) by simpa [enC, Ent.cells] using hown4)
        clear hown4 hg4 hat4 hlo
        go_wp2_with fail
        go_ret
        have hn := HN.out
        subst hn
        exact ⟨L ++ [(⟨tx, ex, ey, si⟩ : Ent)], B4, d4, by first | rfl | simp, by first | exact O4.out | simpa using O4.out, (fun a ha => (List.mem_append.1 ha).elim (HL.out a) (fun h => by rw [List.mem_singleton] at h; rw [h]; exact c0)), by (try simp); omega, S4.out, N4.out⟩
      · skip
        go_wp2_with fail
        go_loopw [3] (fun v3 wr => ∃ (L : List Ent) (n : Nat) (Bq : Option Addr) (dq : Nat), n ≤ 13 ∧ Hid (L.length = n) ∧ Hid (∀ s ∈ L, SmallE s) ∧ v3 = .slice Bq n dq ∧ Hid (wr.ownsRow w.heap.size 45 4 (.slice Bq n dq) n (enC L)) ∧ Hid (Src wr B g) ∧ Hid (Only w wr g)) (fun v _ => 13 - (match v with | .slice _ n _ => n | _ => 0))
        case atStart => exact ⟨L, n, Bq, dq, by omega, HN.out, HL.out, rfl, O2.out, S2.out, N2.out⟩
        case round =>
          clear O2 S2 N2 HN HL
          obtain ⟨L, n, Bq, dq, hj, HN, HL, rfl, HO, S1, N1⟩ := hrel
          have hwB : w.heap.size ≤ wr.heap.size := N1.out.size
          go_wp2_with fail
          refine (draw_any 2 B g wr S1.out (by omega)).mono ?_
          rintro e w2 ⟨z, rfl, z0, z1, _, hs2, ho2⟩
          have hzz := z1 (by omega)
          have O2 := Lib.hid (own_only HO.out ho2 hgl)
          have N2 := Lib.hid (only_trans N1.out ho2)
          have S2 := Lib.hid hs2
          have hz2' := N2.out.size
          have zw : IntKind.i64.wrap (12 + z) = 12 + z := IntWalk.i64_in _ (by omega)
          clear hs2 ho2 z1 HO N1 S1
          by_cases hlt : (n : Int) < 12 + z
          · skip
            go_wp2_with fail
            refine (goodE_any B g w2 S2.out (by omega)).mono ?_
            rintro e w3 ⟨⟨tx, ex, ey, si⟩, rfl, c0, hs3, ho3⟩
            dsimp only [SmallE] at c0
            unfold Ent.val
            dsimp only
            have O3 := Lib.hid (own_only O2.out ho3 hgl)
            have N3 := Lib.hid (only_trans N2.out ho3)
            have S3 := Lib.hid hs3
            have hz3' := N3.out.size
            clear hs3 ho3
            go_wp2_with (at_builtin; refine wpList_append_any _ rfl (.tmp 34) (.tmp 37) _ rfl w.heap.size 45 i0 _ 4 40 Tryz.underlying41 hi0 hz0 hz1 hz2 rfl (by omega) (.slice Bq n dq) n (enC L) rfl (O3.out.alloc _) _ (some ⟨w3.heap.size, 0, none⟩) 1 1 [.string tx, .int .i64 ex, .int .i64 ey, .int .i64 si] rfl (new_vs _ _ _ _ rfl) (by simp [Value.oneCell']) (by simp only [maxLen]; omega) (by omega) (by simp; omega) ?_; intro v4 w4 hown4 hg4 hat4; obtain ⟨B4, d4, rfl, _⟩ := own_shape hown4)
            have hlo : ∀ k, (Value.slice Bq n dq).ownBlock = some k → w.heap.size ≤ k := fun k hk => (own_lt O3.out k hk).1
            have S4 := Lib.hid ((S3.out.alloc _).grown hg4 (by intro e; have := hlo g e; omega) (fun k hk => by have := hlo k hk; omega))
            have N4 := Lib.hid (only_own (only_trans N3.out (only_of_below ((Below.refl w3.heap.size w3).alloc (Nat.le_refl _) _))) hg4 hlo)
            have O4 := Lib.hid (show w4.ownsRow w.heap.size 45 4 (.slice B4 (n + 1) d4) (n + 1) (enC (L ++ [⟨tx, ex, ey, si⟩])) by simpa [enC, Ent.cells] using hown4)
            clear hown4 hg4 hat4 hlo
            go_roundw
            case rel => exact ⟨L ++ [(⟨tx, ex, ey, si⟩ : Ent)], n + 1, B4, d4, by omega, by have := HN.out; simp [Hid, this], (fun a ha => (List.mem_append.1 ha).elim (HL.out a) (fun h => by rw [List.mem_singleton] at h; rw [h]; exact c0)), rfl, O4.out, S4.out, N4.out⟩
            case measure => dsimp only; omega
          · skip
            go_wp2_with fail
            go_ret
            have hn := HN.out
            subst hn
            exact ⟨L, Bq, dq, by first | rfl | simp, by first | exact O2.out | simpa using O2.out, HL.out, by (try simp); omega, S2.out, N2.out⟩
      · skip
        go_wp2_with (at_builtin; refine wpList_append_any _ rfl (.tmp 41) (.tmp 43) _ rfl w.heap.size 45 i0 _ 4 40 Tryz.underlying41 hi0 hz0 hz1 hz2 rfl (by omega) (.slice Bq n dq) n (enC L) rfl (O2.out.alloc _) _ (some ⟨w2.heap.size, 0, none⟩) 1 1 [.string ⟨#[97, 32, 98, 32, 99, 32, 100, 32, 101, 32, 102, 32, 103, 32, 104]⟩, .int .i64 0, .int .i64 0, .int .i64 1] rfl (new_vs _ _ _ _ rfl) (by simp [Value.oneCell']) (by simp only [maxLen]; omega) (by omega) (by simp; omega) ?_; intro v4 w4 hown4 hg4 hat4; obtain ⟨B4, d4, rfl, _⟩ := own_shape hown4)
        have hlo : ∀ k, (Value.slice Bq n dq).ownBlock = some k → w.heap.size ≤ k := fun k hk => (own_lt O2.out k hk).1
        have S4 := Lib.hid ((S2.out.alloc _).grown hg4 (by intro e; have := hlo g e; omega) (fun k hk => by have := hlo k hk; omega))
        have N4 := Lib.hid (only_own (only_trans N2.out (only_of_below ((Below.refl w2.heap.size w2).alloc (Nat.le_refl _) _))) hg4 hlo)
        have O4 := Lib.hid (show w4.ownsRow w.heap.size 45 4 (.slice B4 (n + 1) d4) (n + 1) (enC (L ++ [⟨⟨#[97, 32, 98, 32, 99, 32, 100, 32, 101, 32, 102, 32, 103, 32, 104]⟩, 0, 0, 1⟩])) by simpa [enC, Ent.cells] using hown4)
        clear hown4 hg4 hat4 hlo
        go_wp2_with fail
        go_ret
        have hn := HN.out
        subst hn
        exact ⟨L ++ [(⟨⟨#[97, 32, 98, 32, 99, 32, 100, 32, 101, 32, 102, 32, 103, 32, 104]⟩, 0, 0, 1⟩ : Ent)], B4, d4, by first | rfl | simp, by first | exact O4.out | simpa using O4.out, (fun a ha => (List.mem_append.1 ha).elim (HL.out a) (fun h => by rw [List.mem_singleton] at h; rw [h]; exact (show SmallE ⟨⟨#[97, 32, 98, 32, 99, 32, 100, 32, 101, 32, 102, 32, 103, 32, 104]⟩, 0, 0, 1⟩ by dsimp only [SmallE]; decide))), by (try simp); omega, S4.out, N4.out⟩
      · skip
        have e0 : (y == 0) = false := by simp; omega
        have e1 : (y == 1) = false := by simp; omega
        have e2 : (y == 2) = false := by simp; omega
        go_wp2_with fail
        go_ret
        have hn := HN.out
        subst hn
        exact ⟨L, Bq, dq, by first | rfl | simp, by first | exact O2.out | simpa using O2.out, HL.out, by (try simp); omega, S2.out, N2.out⟩
    | succ j =>
      have hyes : (0 : Int) < ((j + 1 : Nat) : Int) := by omega
      go_wp2_with fail
      refine (goodE_any B g wr S1.out (by omega)).mono ?_
      rintro e w2 ⟨⟨tx, ex, ey, si⟩, rfl, c0, hs2, ho2⟩
      dsimp only [SmallE] at c0
      unfold Ent.val
      dsimp only
      have O2 := Lib.hid (own_only HO.out ho2 hgl)
      have N2 := Lib.hid (only_trans N1.out ho2)
      have S2 := Lib.hid hs2
      have hz2' := N2.out.size
      clear hs2 ho2
      go_wp2_with (at_builtin; refine wpList_append_any _ rfl (.tmp 12) (.tmp 15) _ rfl w.heap.size 45 i0 _ 4 40 Tryz.underlying41 hi0 hz0 hz1 hz2 rfl (by omega) (.slice Bq n dq) n (enC L) rfl (O2.out.alloc _) _ (some ⟨w2.heap.size, 0, none⟩) 1 1 [.string tx, .int .i64 ex, .int .i64 ey, .int .i64 si] rfl (new_vs _ _ _ _ rfl) (by simp [Value.oneCell']) (by simp only [maxLen]; omega) (by omega) (by simp; omega) ?_; intro v4 w4 hown4 hg4 hat4; obtain ⟨B4, d4, rfl, _⟩ := own_shape hown4)
      have hlo : ∀ k, (Value.slice Bq n dq).ownBlock = some k → w.heap.size ≤ k := fun k hk => (own_lt O2.out k hk).1
      have S4 := Lib.hid ((S2.out.alloc _).grown hg4 (by intro e; have := hlo g e; omega) (fun k hk => by have := hlo k hk; omega))
      have N4 := Lib.hid (only_own (only_trans N2.out (only_of_below ((Below.refl w2.heap.size w2).alloc (Nat.le_refl _) _))) hg4 hlo)
      have O4 := Lib.hid (show w4.ownsRow w.heap.size 45 4 (.slice B4 (n + 1) d4) (n + 1) (enC (L ++ [⟨tx, ex, ey, si⟩])) by simpa [enC, Ent.cells] using hown4)
      clear hown4 hg4 hat4 hlo
      go_roundw
      case rel => exact ⟨L ++ [(⟨tx, ex, ey, si⟩ : Ent)], n + 1, j, B4, d4, by omega, by have := HN.out; simp [Hid, this], (fun a ha => (List.mem_append.1 ha).elim (HL.out a) (fun h => by rw [List.mem_singleton] at h; rw [h]; exact c0)), rfl, O4.out, S4.out, N4.out, by go_num⟩
      case measure => simp [intOf]
end Go.Proofs.YtihhpmhigmegjaaGreatDoor
