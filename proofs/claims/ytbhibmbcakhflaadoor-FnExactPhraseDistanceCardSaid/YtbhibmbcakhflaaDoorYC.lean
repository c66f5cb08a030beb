/- The least number of steps, of the program. -/
import Derived.Test.YtbhibmbcakhflaaDoorRows
import Derived.Test.YtbhibmbcakhflaaDoorL0
import Derived.Test.YtbhibmbcakhflaaDoorM0
import Derived.WalkKit
import Derived.ProofKit
import Derived.OpenShut
import Derived.BigQuiet
import Derived.Outline
import Derived.WalkSpells
import Derived.WalkLawsBesides
import Derived.Deep.DeepCutAuto
import Derived.Test.YtbhibmbcakhflaaDoorYB
import Derived.Test.YtbhibmbcakhflaaDoorMA
import Derived.Test.YtbhibmbcakhflaaDoorMB
import Derived.Lib.QuietBelow
import Derived.Deep.QuietTactic
import Derived.Deep.RegionHeld3
import Derived.Deep.AppendLies
import Derived.IntWalk
namespace Go.Proofs.YtbhibmbcakhflaaDoor
open Go.ChangeShapes Go.WideShapes Go.ChangeAt Go.RowKit Go.Sort
set_option maxRecDepth 100000 in
set_option maxHeartbeats 4000000 in
theorem implEd_any (a b : ByteArray) (ha : a.size ≤ 1073741824) (hb : b.size ≤ 1073741824) (w : World) :
    Calls Tryd.prog 14 #[.string a, .string b] w fun e w' => e = .returned (.int .i64 (edB a b)) ∧ Below w.heap.size w w' := by
  obtain ⟨i0, hi0, hz0, hz1, hz2⟩ := info_parts infoInt
  have hmk := fun W => run_make_rowN (P := Tryd.prog) 33 2 i0 _ Tryd.underlying33 hi0 hz0 .i64 .i64 (b.size + 1) (b.size + 1) (Nat.le_refl _) (by rw [hz2]; omega) (by omega) W
  rw [show ((b.size + 1 : Nat) : Int) = (b.size : Int) + 1 from by push_cast; rfl] at hmk
  have hln : (inC (rowL a b 0 (b.size + 1))).length = b.size + 1 := by rw [inC_len, rowL_len, Nat.mul_one]
  have HLN := Lib.hid hln; clear hln
  go_enter Tryd.func14, Tryd.ntmps14
  go_wp2
  (try rw [show ((b.size + 1 : Nat) : Int) = (b.size : Int) + 1 from by push_cast; rfl])
  go_loopw [6, 17] (fun v6 v17 wr => ∃ (k : Nat), k ≤ b.size + 1 ∧ Hid (Copied wr w.heap.size 2 k (inC (rowL a b 0 (b.size + 1)))) ∧ Hid (Below w.heap.size w wr) ∧ v17 = .int .i64 k) (fun _ i _ => b.size + 1 - (intOf i).toNat)
  case atStart => exact ⟨0, by omega, by first | exact Copied.start w _ _ (by rw [size_madeCells, HLN.out]) | exact Copied.start w _ _ (by rw [size_madeCells, HLN.out]; simp) | simpa [Hid] using Copied.start w _ _ (by rw [size_madeCells, HLN.out]; simp), (Below.refl _ _).alloc (Nat.le_refl _) _, rfl⟩
  case round =>
    obtain ⟨k, hk, HC, BW, rfl⟩ := hrel
    by_cases hle : k ≤ b.size
    · have hlt0 : (k : Int) < (b.size : Int) + 1 := by omega
      obtain ⟨⟨u0, d0⟩, f0⟩ := HC.out.cell (j := k) (by rw [HLN.out]; omega)
      have HE := Lib.hid (show (inC (rowL a b 0 (b.size + 1)))[k]? = some (.int .i64 (k : Int)) by unfold inC; rw [List.getElem?_map, rowL_at (by omega), dM_zero]; rfl)
      have q5 : (0 : Int) ≤ (k : Int) := by omega
      go_wp2_with fail
      go_roundw
      case rel => exact ⟨k + 1, by omega, HC.out.set_ HE.out, BW.out.setCell (Nat.le_refl _) _, by go_num⟩
      case measure => simp [intOf]; omega
    · obtain rfl : k = b.size + 1 := by omega
      rw [show ((b.size + 1 : Nat) : Int) = (b.size : Int) + 1 from by push_cast; rfl]
      have hbd : decide ((b.size : Int) + 1 < (b.size : Int) + 1) = false := by rw [decide_eq_false_iff_not]; omega
      have RW := Lib.hid (show wr.ownsRow w.heap.size 2 1 (.slice (some ⟨w.heap.size, 0, none⟩) (b.size + 1) (b.size + 1)) (b.size + 1) (inC (rowL a b 0 (b.size + 1))) from by
        have h := HC.out
        have h2 : Blk wr w.heap.size 2 (inC (rowL a b 0 (b.size + 1))).toArray := Copied.done (by rw [HLN.out]; exact h)
        exact blk_own h2 (by rw [HLN.out, Nat.mul_one]) (Nat.le_refl _) (by unfold maxLen; omega))
      go_wp2_with fail
      go_loopw [5, 27] (fun v5 v27 wr => ∃ (i : Nat) (B : Option Addr) (d : Nat), i ≤ a.size ∧ v5 = .slice B (b.size + 1) d ∧ Hid (wr.ownsRow w.heap.size 2 1 (.slice B (b.size + 1) d) (b.size + 1) (inC (rowL a b i (b.size + 1)))) ∧ Hid (Below w.heap.size w wr) ∧ v27 = .int .i64 (i : Int)) (fun _ i _ => a.size - (intOf i).toNat)
      case atStart => exact ⟨0, _, _, by omega, rfl, RW.out, BW.out, by go_num⟩
      case round =>
        clear HC BW RW
        obtain ⟨i, B, d, hi, rfl, HO, BW, rfl⟩ := hrel
        by_cases hlt : i < a.size
        · have NX := Lib.hid (show (wr.alloc (.cells #[.int .i64 ((i : Int) + 1)] 2)).ownsRow wr.heap.size 2 1 (.slice (some ⟨wr.heap.size, 0, none⟩) 1 1) 1 (inC (rowL a b (i + 1) (0 + 1))) by
            have := World.ownsRow_lit (e := 2) (base := wr.heap.size) (size := 1) wr #[.int .i64 ((i : Int) + 1)] 1 (Nat.le_refl _) (by decide) rfl
            rw [rowL_snoc, dM_left]
            simpa [rowL, inC] using this)
          have hi1 : IntKind.i64.wrap (i : Int) = (i : Int) := IntWalk.i64_in _ (by omega)
          have hia : decide ((i : Int) < (a.size : Int)) = true := by rw [decide_eq_true_eq]; omega
          go_wp2_with fail
          go_loopw [8, 35] (fun v8 v35 w3 => ∃ (k : Nat) (C : Option Addr) (e : Nat), k ≤ b.size ∧ v8 = .slice C (k + 1) e ∧ Hid (w3.ownsRow wr.heap.size 2 1 (.slice C (k + 1) e) (k + 1) (inC (rowL a b (i + 1) (k + 1)))) ∧ Hid (Below wr.heap.size wr w3) ∧ v35 = .int .i64 (k : Int)) (fun _ k _ => b.size - (intOf k).toNat)
          case atStart => exact ⟨0, _, 1, by omega, rfl, NX.out, (Below.refl _ _).alloc (Nat.le_refl _) _, by go_num⟩
          case round =>
            obtain ⟨k, C, e, hk, rfl, HC, BX, rfl⟩ := hrel
            by_cases hkb : k < b.size
            · have HS := Lib.hid (rowL_snoc a b (i + 1) (k + 1))
              obtain ⟨rb, ro, rfl, hrb, hrc⟩ := (Reads.of_own (own_below HO.out BX.out)).2 (by omega)
              obtain ⟨nb, nc, hnv, hnb1, hnb⟩ := HC.out.form (by omega)
              simp only [Value.slice.injEq, true_and] at hnv
              obtain ⟨rfl, rfl⟩ := hnv
              have hrb2 := (own_lt HO.out rb rfl).2
              have hnc := HC.out.cells (g := nb) rfl
              have c0 := hrc k (.int .i64 (dM a b i k)) (by unfold inC; rw [List.getElem?_map, rowL_at (by omega)]; rfl)
              have c1 := hrc (k + 1) (.int .i64 (dM a b i (k + 1))) (by unfold inC; rw [List.getElem?_map, rowL_at (by omega)]; rfl)
              have n0 := hnc k (.int .i64 (dM a b (i + 1) k)) (by unfold inC; rw [List.getElem?_map, rowL_at (by omega)]; rfl)
              rw [add_lit0, Nat.zero_add] at n0
              have hD := dM_step a b i k
              obtain ⟨p1, p2⟩ := dM_bd a b i k
              obtain ⟨p3, p4⟩ := dM_bd a b i (k + 1)
              obtain ⟨p5, p6⟩ := dM_bd a b (i + 1) k
              have hC : dC a b i k = if a[i] = b[k] then 0 else 1 := by unfold dC; rw [bA_at hlt, bA_at hkb]
              push_cast at p4 p6
              clear hrc hnc
              generalize dM a b (i + 1) (k + 1) = r at hD HS
              generalize dM a b i k = x at *
              generalize dM a b i (k + 1) = y at *
              generalize dM a b (i + 1) k = z at *
              have hk1 : IntKind.i64.wrap (k : Int) = (k : Int) := IntWalk.i64_in _ (by omega)
              have hkk : IntKind.i64.wrap ((k : Int) + 1) = (k : Int) + 1 := IntWalk.i64_in _ (by omega)
              have hy1 : IntKind.i64.wrap (y + 1) = y + 1 := IntWalk.i64_in _ (by omega)
              have hz1' : IntKind.i64.wrap (z + 1) = z + 1 := IntWalk.i64_in _ (by omega)
              have hx1 : IntKind.i64.wrap (x + 1) = x + 1 := IntWalk.i64_in _ (by omega)
              have HD := Lib.hid hD; clear hD
              by_cases he : a[i] = b[k]
              · rw [if_pos he] at hC
                have hc : ((a[i].toNat : Int) == (b[k].toNat : Int)) = true := by rw [he]; simp
                have HR := Lib.hid (show min (min x (y + 1)) (z + 1) = r by rw [HD.out, hC, Int.add_zero])
                clear he hC HD
                go_upto_region 15 with (fail)
                refine wp_region_quiet_below (by kernel_rfl) (by kernel_rfl) ?_; (repeat (first | go_big_quiet_step (fail))); refine wpQuiet_nil ?_; intro _ hw'; obtain ⟨⟨dq, osq⟩, rfl⟩ := hw'
                have B2 := Lib.hid (BX.out.trans ((below_regrown wr dq osq).mono BX.out.size))
                have C2 := Lib.hid (own_below HC.out (below_regrown wr dq osq))
                have k5 := cell_regrown c1 dq osq
                have k6 := cell_regrown n0 dq osq
                have hnz : nb < (grow (redrawn wr dq) osq).heap.size := Nat.lt_of_lt_of_le hnb (below_regrown wr dq osq).size
                clear c0 c1 n0 hnb
                generalize grow (redrawn wr dq) osq = w4 at B2 C2 k5 k6 hnz ⊢
                go_upto_region 17 with (fail)
                have hB4 := B2.out.size
                have q1 : (0 : Int) ≤ (k : Int) + 1 := by omega
                have q2 : (k : Int) + 1 < (b.size : Int) + 1 := by omega
                have q3 : ((k : Int) + 1).toNat = k + 1 := by omega
                have q4 : (k : Int) < (k : Int) + 1 := by omega
                have q5 : (0 : Int) ≤ (k : Int) := by omega
                have hrn : rb ≠ nb := by omega
                rcases (show (y + 1 < x ∧ z < y ∧ z + 1 = r) ∨ (y + 1 < x ∧ ¬ z < y ∧ y + 1 = r) ∨ (¬ y + 1 < x ∧ z + 1 < x ∧ z + 1 = r) ∨ (¬ y + 1 < x ∧ ¬ z + 1 < x ∧ x = r) by have := HR.out; omega) with ⟨m1, m2, hv⟩ | ⟨m1, m2, hv⟩ | ⟨m1, m2, hv⟩ | ⟨m1, m2, hv⟩
                all_goals
                  have HV := Lib.hid hv; clear hv
                  go_region_held3 (fun w' => w'.cell? ⟨rb, ro + (k + 1), none⟩ = some (.int .i64 y) ∧ w'.cell? ⟨nb, k, none⟩ = some (.int .i64 z))
                    (first | exact ⟨k5, k6⟩ | (go_keep; done))
                    (first | (refine step_append_keep _ (by rfl) (.tmp 51) (.tmp 65) _ (by rfl) _ 2 i0 _ 1 8 Tryd.underlying33 hi0 hz0 hz1 hz2 rfl (by omega) (.slice (some ⟨nb, 0, none⟩) (k + 1) e) (k + 1) (inC (rowL a b (i + 1) (k + 1))) (by rfl) (World.ownsRow.drew (World.ownsRow.alloc C2.out _)) ⟨w4.heap.size, 0, none⟩ 1 1 _ (by rfl) (by rfl) (new_at1 w4 _ _) (by simp [Value.oneCell']) (by simp only [maxLen]; omega) (by omega) (by simp; omega) ?_; intro v5 w5 hown5 hg5 hat5 hkp; (have HB5 := Lib.hid (below_own ((B2.out.alloc B2.out.size _).drew) (World.ownsRow.drew (World.ownsRow.alloc C2.out _)) hg5 (Nat.le_refl _) (by simp; omega))); (have k5 := ((hg5.cell_far ⟨rb, ro + (k + 1), none⟩ (by simp; omega) (by simp [Value.ownBlock]; omega)).trans ((World.cell?_alloc_lt w4 _ ⟨rb, ro + (k + 1), none⟩ (by dsimp only; omega)).trans k5))); (have k6 := ((hkp nb k rfl (by omega)).trans ((World.cell?_alloc_lt w4 _ ⟨nb, k, none⟩ (by dsimp only; omega)).trans k6))); (obtain ⟨A5, c5, rfl, _⟩ := own_shape hown5); (have HO5 := Lib.hid hown5); clear hown5 hg5 hat5 hkp) | fail)
                  all_goals
                    go_wp2_with fail
                    have h5 := HO5.out
                    rw [show inC (rowL a b (i + 1) (k + 1)) ++ _ = inC (rowL a b (i + 1) (k + 1 + 1)) by rw [HS.out, inC_snoc, ← HV.out]] at h5
                    first | (refine ⟨⟨k + 1, by omega, A5, c5, ⟨rfl, rfl, rfl⟩, h5, by push_cast; rfl⟩, by simp [intOf]; omega⟩) | (go_roundw; (case rel => exact ⟨k + 1, A5, c5, by omega, rfl, h5, HB5.out, by go_num⟩); (case measure => simp [intOf]; omega))
              · rw [if_neg he] at hC
                have hc : ((a[i].toNat : Int) == (b[k].toNat : Int)) = false := by
                  rw [beq_eq_false_iff_ne]
                  intro h
                  exact he (UInt8.toNat.inj (by omega))
                have HR := Lib.hid (show min (min (x + 1) (y + 1)) (z + 1) = r by rw [HD.out, hC])
                clear he hC HD
                go_upto_region 15 with (fail)
                refine wp_region_quiet_below (by kernel_rfl) (by kernel_rfl) ?_; (repeat (first | go_big_quiet_step (fail))); refine wpQuiet_nil ?_; intro _ hw'; obtain ⟨⟨dq, osq⟩, rfl⟩ := hw'
                have B2 := Lib.hid (BX.out.trans ((below_regrown wr dq osq).mono BX.out.size))
                have C2 := Lib.hid (own_below HC.out (below_regrown wr dq osq))
                have k5 := cell_regrown c1 dq osq
                have k6 := cell_regrown n0 dq osq
                have hnz : nb < (grow (redrawn wr dq) osq).heap.size := Nat.lt_of_lt_of_le hnb (below_regrown wr dq osq).size
                clear c0 c1 n0 hnb
                generalize grow (redrawn wr dq) osq = w4 at B2 C2 k5 k6 hnz ⊢
                go_upto_region 17 with (fail)
                have hB4 := B2.out.size
                have q1 : (0 : Int) ≤ (k : Int) + 1 := by omega
                have q2 : (k : Int) + 1 < (b.size : Int) + 1 := by omega
                have q3 : ((k : Int) + 1).toNat = k + 1 := by omega
                have q4 : (k : Int) < (k : Int) + 1 := by omega
                have q5 : (0 : Int) ≤ (k : Int) := by omega
                have hrn : rb ≠ nb := by omega
                rcases (show (y < x ∧ z < y ∧ z + 1 = r) ∨ (y < x ∧ ¬ z < y ∧ y + 1 = r) ∨ (¬ y < x ∧ z < x ∧ z + 1 = r) ∨ (¬ y < x ∧ ¬ z < x ∧ x + 1 = r) by have := HR.out; omega) with ⟨m1, m2, hv⟩ | ⟨m1, m2, hv⟩ | ⟨m1, m2, hv⟩ | ⟨m1, m2, hv⟩
                all_goals
                  have HV := Lib.hid hv; clear hv
                  go_region_held3 (fun w' => w'.cell? ⟨rb, ro + (k + 1), none⟩ = some (.int .i64 y) ∧ w'.cell? ⟨nb, k, none⟩ = some (.int .i64 z))
                    (first | exact ⟨k5, k6⟩ | (go_keep; done))
                    (first | (refine step_append_keep _ (by rfl) (.tmp 51) (.tmp 65) _ (by rfl) _ 2 i0 _ 1 8 Tryd.underlying33 hi0 hz0 hz1 hz2 rfl (by omega) (.slice (some ⟨nb, 0, none⟩) (k + 1) e) (k + 1) (inC (rowL a b (i + 1) (k + 1))) (by rfl) (World.ownsRow.drew (World.ownsRow.alloc C2.out _)) ⟨w4.heap.size, 0, none⟩ 1 1 _ (by rfl) (by rfl) (new_at1 w4 _ _) (by simp [Value.oneCell']) (by simp only [maxLen]; omega) (by omega) (by simp; omega) ?_; intro v5 w5 hown5 hg5 hat5 hkp; (have HB5 := Lib.hid (below_own ((B2.out.alloc B2.out.size _).drew) (World.ownsRow.drew (World.ownsRow.alloc C2.out _)) hg5 (Nat.le_refl _) (by simp; omega))); (have k5 := ((hg5.cell_far ⟨rb, ro + (k + 1), none⟩ (by simp; omega) (by simp [Value.ownBlock]; omega)).trans ((World.cell?_alloc_lt w4 _ ⟨rb, ro + (k + 1), none⟩ (by dsimp only; omega)).trans k5))); (have k6 := ((hkp nb k rfl (by omega)).trans ((World.cell?_alloc_lt w4 _ ⟨nb, k, none⟩ (by dsimp only; omega)).trans k6))); (obtain ⟨A5, c5, rfl, _⟩ := own_shape hown5); (have HO5 := Lib.hid hown5); clear hown5 hg5 hat5 hkp) | fail)
                  all_goals
                    go_wp2_with fail
                    have h5 := HO5.out
                    rw [show inC (rowL a b (i + 1) (k + 1)) ++ _ = inC (rowL a b (i + 1) (k + 1 + 1)) by rw [HS.out, inC_snoc, ← HV.out]] at h5
                    first | (refine ⟨⟨k + 1, by omega, A5, c5, ⟨rfl, rfl, rfl⟩, h5, by push_cast; rfl⟩, by simp [intOf]; omega⟩) | (go_roundw; (case rel => exact ⟨k + 1, A5, c5, by omega, rfl, h5, HB5.out, by go_num⟩); (case measure => simp [intOf]; omega))
            · obtain rfl : k = b.size := by omega
              go_wp2_with fail
              go_roundw
              case rel => exact ⟨i + 1, C, e, by omega, rfl, own_mono HC.out BW.out.size, BW.out.trans (BX.out.mono BW.out.size), by go_num⟩
              case measure => simp [intOf]; omega
        · obtain rfl : i = a.size := by omega
          obtain ⟨rb, ro, rfl, hrb, hrc⟩ := (Reads.of_own HO.out).2 (by omega)
          have c0 := hrc b.size (.int .i64 (dM a b a.size b.size)) (by unfold inC; rw [List.getElem?_map, rowL_at (by omega)]; rfl)
          clear hrc
          have HE := Lib.hid (show edB a b = dM a b a.size b.size from rfl)
          generalize dM a b a.size b.size = r at c0 HE
          go_wp2_with fail
          go_ret
          exact ⟨ret_int HE.out.symm, BW.out⟩
end Go.Proofs.YtbhibmbcakhflaaDoor
