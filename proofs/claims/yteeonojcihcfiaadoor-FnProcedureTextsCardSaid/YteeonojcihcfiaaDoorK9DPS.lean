/- ReadProcedure of the program. -/
import Derived.Test.YteeonojcihcfiaaDoorRows
import Derived.Test.YteeonojcihcfiaaDoorK9GA
import Derived.WalkKit
import Derived.ProofKit
import Derived.OpenShut
import Derived.BigQuiet
import Derived.Outline
import Derived.WalkSpells
import Derived.WalkLawsBesides
import Derived.Deep.DeepCutAuto
import Derived.Test.YteeonojcihcfiaaDoorK9DPR
import Derived.Test.YteeonojcihcfiaaDoorK9DPC
import Derived.Test.YteeonojcihcfiaaDoorKC
import Derived.Test.YteeonojcihcfiaaDoorK9G1
import Derived.Test.YteeonojcihcfiaaDoorG2
import Derived.Test.YteeonojcihcfiaaDoorK9DN7
import Derived.Test.YteeonojcihcfiaaDoorK9D1
import Derived.Deep.AppendLies
namespace Go.Proofs.YteeonojcihcfiaaDoor
open Go.ChangeShapes Go.WideShapes Go.ChangeAt Go.RowKit

theorem ownB {w : World} {g : Nat} {t : TypeId} {size n base : Nat} {L : List Value} (h : Blk w g t L.toArray) (hl : L.length = n * size) (hb : base ≤ g) (hn : n ≤ maxLen) : w.ownsRow base t size (.slice (some ⟨g, 0, none⟩) n n) n L :=
  ⟨hl, .inr ⟨g, n, L.toArray, rfl, hb, h, Nat.le_refl _, hn, by simpa using hl, by simp [← hl]⟩⟩
theorem split_any (s : ByteArray) (hs : s.size ≤ 1073741824) (w : World) :
    Calls Tryd.prog 28 #[.string s, .string ⟨#[32]⟩] w fun e w' => ∃ v, e = .returned v ∧ w'.ownsRow w.heap.size 9 1 v (cutB 32 s).length (txC (cutB 32 s)) ∧ Below w.heap.size w w' := by
  refine (split_one Tryd.lays146 infoTx s 32 w (by omega)).mono ?_
  rintro e w' ⟨rfl, rfl⟩
  have hl := cut_len32 s
  exact ⟨_, rfl, ownB (Blk.new _ _ _) (by simp [txC]) (Nat.le_refl _) (by unfold maxLen; omega), (Below.refl _ _).alloc (Nat.le_refl _) _⟩
theorem cutat_any (s : ByteArray) (hs : s.size ≤ 1073741824) (w : World) :
    Calls Tryd.prog 29 #[.string s, .string ⟨#[64]⟩] w fun e w' => ∃ b, e = .returned (.tuple #[.string (fstP s), .string (sndP s), .bool b]) ∧ Below w.heap.size w w' := by
  obtain ⟨h1, h2⟩ := cut_parts s
  refine (cut_one Tryd.lays145 s 64 w (by omega)).mono ?_
  rintro e w' ⟨rfl, n, rfl⟩
  exact ⟨_, by rw [h1, h2], ⟨rfl, rfl, rfl, Nat.le_refl _, fun _ _ => rfl⟩⟩
theorem fst_size (s : ByteArray) : (fstP s).size ≤ s.size ∧ (sndP s).size ≤ s.size := by
  have h := List.takeWhile_append_dropWhile (p := (· != (64 : UInt8))) (l := s.data.toList)
  have hl := congrArg List.length h
  rw [List.length_append] at hl
  have e1 : (fstP s).size = (s.data.toList.takeWhile (· != 64)).length := rfl
  have e2 : (sndP s).size = ((s.data.toList.dropWhile (· != 64)).drop 1).length := rfl
  have e3 : s.size = s.data.toList.length := Lib.size_eq s
  rw [e1, e2, e3, List.length_drop]
  omega
set_option maxRecDepth 100000 in
set_option maxHeartbeats 4000000 in
theorem implRP_any (s : ByteArray) (hs : s.size ≤ 1048576) (w : World) (ht : Tab w) (he : Errs w) :
    Calls Tryd.prog 12 #[.string s] w fun e w' => ∃ v, e = .returned (.tuple #[v, .int .i64 (prV stepP s).2]) ∧ w'.ownsRow w.heap.size 41 2 v (prV stepP s).1.length (stC (prV stepP s).1) ∧ Below w.heap.size w w' := by
  obtain ⟨i0, hi0, hz0, hz1, hz2⟩ := info_parts info50
  have q45 := str_lit' s
  by_cases h45 : s = ⟨#[45]⟩
  · rw [decide_eq_true h45] at q45
    have HV := Lib.hid (show prV stepP s = ([], 0) by rw [h45]; exact prV_dash _)
    generalize prV stepP s = r at HV ⊢
    clear h45
    go_enter Tryd.func12, Tryd.ntmps12
    go_wp2_with fail
    go_ret2
    exact ⟨_, by rw [HV.out]; rfl, by rw [HV.out]; exact World.ownsRow_nil _ _ _ _, Below.refl _ _⟩
  rw [decide_eq_false h45] at q45
  have HN := Lib.hid (fun h => prV_none (rd := stepP) h45 h)
  have HSm := Lib.hid (fun L h => prV_some (rd := stepP) (L := L) h45 h)
  have HC := Lib.hid (split_any s (by omega) w)
  have hcz := cut_size 32 s
  have hcl := cut_len32 s
  have HTb := Lib.hid ht; have HEr := Lib.hid he; clear ht he
  generalize prV stepP s = r at HN HSm ⊢
  generalize cutB 32 s = ws at HN HSm HC hcz hcl
  have HZ := Lib.hid hcz
  clear hcz h45
  go_enter Tryd.func12, Tryd.ntmps12
  go_wp2_with fail
  refine HC.out.mono ?_; rintro e w1 ⟨v, rfl, ow, b1⟩
  obtain ⟨Aw, cw, rfl, _⟩ := own_shape ow
  have OX := Lib.hid ow
  have BB := Lib.hid b1
  clear ow b1
  go_wp2_with fail
  go_loopw [4, 19] (fun v4 v19 wr => ∃ (k : Nat) (L : List Stp) (Bq : Option Addr) (dq : Nat), k ≤ ws.length ∧ Hid (L.length = k) ∧ Hid (allP stepP (ws.take k) = some L) ∧ v4 = .slice Bq k dq ∧ Hid (wr.ownsRow w.heap.size 41 2 (.slice Bq k dq) k (stC L)) ∧ Hid (wr.ownsRow w.heap.size 9 1 (.slice Aw ws.length cw) ws.length (txC ws)) ∧ Hid (Below w.heap.size w wr) ∧ v19 = .int .i64 (k : Int)) (fun _ i _ => ws.length - (intOf i).toNat)
  case atStart => exact ⟨0, [], none, 0, by omega, rfl, rfl, rfl, World.ownsRow_nil _ _ _ _, OX.out, BB.out, rfl⟩
  case round =>
    clear OX BB
    obtain ⟨k, L, Bq, dq, hk, HL, HA, rfl, HO, HX, BW, rfl⟩ := hrel
    by_cases hlt : k < ws.length
    · obtain ⟨ab, ao, rfl, hadb, hcell⟩ := (Reads.of_own HX.out).2 (by omega)
      have c0 := hcell _ _ (txC_at ws k hlt)
      have hwz := HZ.out _ (List.getElem_mem hlt)
      have HTk := Lib.hid (List.take_succ_eq_append_getElem hlt)
      have HM := Lib.hid (List.getElem_mem hlt)
      clear hcell
      generalize ws[k] = wd at c0 hwz HTk HM
      have k0 : (0 : Int) ≤ (k : Int) := by omega
      have k1 : (k : Int) < (ws.length : Int) := by omega
      have HS := Lib.hid (cutat_any wd (by omega) wr)
      have HT2 := Lib.hid (show stepP wd = if (readV (fstP wd)).2 = true ∧ (readV (sndP wd)).2 = true then some ((readV (sndP wd)).1, (readV (fstP wd)).1) else none from rfl)
      obtain ⟨az, bz⟩ := fst_size wd
      generalize fstP wd = a at HS HT2 az
      generalize sndP wd = b at HS HT2 bz
      have CA := Lib.hid (fun W' => readNum_any a (by omega) W')
      have CB := Lib.hid (fun W' => readNum_any b (by omega) W')
      obtain ⟨⟨n1, o1⟩, hva⟩ : ∃ p, readV a = p := ⟨_, rfl⟩
      obtain ⟨⟨n2, o2⟩, hvb⟩ : ∃ p, readV b = p := ⟨_, rfl⟩
      rw [hva] at CA HT2
      rw [hvb] at CB HT2
      dsimp only at CA CB HT2
      clear hva hvb
      go_wp2_with fail
      refine HS.out.mono ?_; rintro e w2 ⟨fb, rfl, b2⟩
      have B2 := Lib.hid (BW.out.trans (b2.mono BW.out.size))
      have O2 := Lib.hid (own_below HO.out b2)
      have X2 := Lib.hid (own_below HX.out b2)
      clear b2 HO HX BW c0 HS
      go_wp2_with fail
      refine (CA.out w2 (HTb.out.below B2.out) (HEr.out.below B2.out)).mono ?_; rintro e w3 ⟨rfl, b3⟩
      have B3 := Lib.hid (B2.out.trans (b3.mono B2.out.size))
      have O3 := Lib.hid (own_below O2.out b3)
      have X3 := Lib.hid (own_below X2.out b3)
      clear b3 B2 O2 X2
      go_wp2_with fail
      refine (CB.out w3 (HTb.out.below B3.out) (HEr.out.below B3.out)).mono ?_; rintro e w4 ⟨rfl, b4⟩
      have BW0 := Lib.hid (B3.out.trans (b4.mono B3.out.size))
      have O4 := Lib.hid (own_below O3.out b4)
      have X4 := Lib.hid (own_below X3.out b4)
      clear b4 B3 O3 X3
      cases o1
      · have HR := Lib.hid (HN.out (allP_none HM.out (by rw [HT2.out]; simp)))
        go_wp2_with fail
        go_ret2
        exact ⟨_, by rw [HR.out]; rfl, by rw [HR.out]; exact World.ownsRow_nil _ _ _ _, BW0.out⟩
      cases o2
      · have HR := Lib.hid (HN.out (allP_none HM.out (by rw [HT2.out]; simp)))
        go_wp2_with fail
        go_ret2
        exact ⟨_, by rw [HR.out]; rfl, by rw [HR.out]; exact World.ownsRow_nil _ _ _ _, BW0.out⟩
      have HA1 := Lib.hid (show allP stepP (ws.take (k + 1)) = some (L ++ [(n2, n1)]) by rw [HTk.out, allP_snoc, HA.out, HT2.out]; rfl)
      go_wp2_with (at_builtin; refine wpList_append_any _ rfl (.tmp 45) (.tmp 49) _ rfl w.heap.size 41 i0 _ 2 16 Tryd.underlying26 hi0 hz0 hz1 hz2 rfl (by omega) (.slice Bq k dq) k (stC L) rfl (O4.out.alloc _) _ (some ⟨w4.heap.size, 0, none⟩) 1 1 [.int .i64 n2, .int .i64 n1] rfl (new_v2 _ _ _ _) (by simp [Value.oneCell']) (by simp only [maxLen]; omega) (by omega) (by have := BW0.out.size; simp; omega) ?_; intro v9 w9 hown9 hg9 hat9; obtain ⟨B9, d9, rfl, _⟩ := own_shape hown9)
      have B9' := Lib.hid (below_own (BW0.out.alloc BW0.out.size _) (O4.out.alloc _) hg9 (Nat.le_refl _) (by have := BW0.out.size; simp; omega))
      have X9 := Lib.hid (show w9.ownsRow w.heap.size 9 1 (.slice (some ⟨ab, ao, none⟩) ws.length cw) ws.length (txC ws) from (X4.out.alloc _).kept hg9 (types_apart X4.out O4.out (by decide)))
      have O9 := Lib.hid (show w9.ownsRow w.heap.size 41 2 (.slice B9 (k + 1) d9) (k + 1) (stC (L ++ [(n2, n1)])) by rw [stC_snoc]; simpa using hown9)
      clear hown9 hg9 hat9
      go_roundw
      case rel => exact ⟨k + 1, L ++ [(n2, n1)], B9, d9, by omega, by have := HL.out; simp [Hid, this], HA1.out, rfl, O9.out, X9.out, B9'.out, by go_num⟩
      case measure => simp [intOf]; omega
    · obtain rfl : k = ws.length := by omega
      have HA2 := HA.out
      rw [List.take_length] at HA2
      have HR := Lib.hid (HSm.out L HA2)
      have hll := HL.out
      have CI := Lib.hid (implIs_law L Bq dq wr (by rw [hll]; exact Reads.of_own HO.out) (by omega))
      rw [hll] at CI
      have HLL := Lib.hid hll
      clear hll HA2
      generalize isProc L = ci at CI HR
      cases ci
      · go_wp2_with fail
        refine CI.out.mono ?_; rintro e w2 ⟨rfl, b2⟩
        go_wp2_with fail
        go_ret2
        exact ⟨_, by rw [HR.out]; rfl, by rw [HR.out]; exact World.ownsRow_nil _ _ _ _, BW.out.trans (b2.mono BW.out.size)⟩
      · go_wp2_with fail
        refine CI.out.mono ?_; rintro e w2 ⟨rfl, b2⟩
        go_wp2_with fail
        go_ret2
        exact ⟨_, by rw [HR.out]; rfl, by rw [HR.out]; simp only [if_true]; rw [HLL.out]; exact own_below HO.out b2, BW.out.trans (b2.mono BW.out.size)⟩
end Go.Proofs.YteeonojcihcfiaaDoor
