/- ReadProcedure of the reference. -/
import Derived.Test.YteeonojcihcfiaaDoorRows
import Derived.Test.YteeonojcihcfiaaDoorK9GA
import Derived.WalkKit
import Derived.ProofKit
import Derived.OpenShut
import Derived.BigQuiet
import Derived.Outline
import Derived.WalkSpells
import Derived.WalkLawsBesides
import Derived.Deep.DeepCutAuto
import Derived.Test.YteeonojcihcfiaaDoorK9DN6
import Derived.Test.YteeonojcihcfiaaDoorK9DNW
import Derived.Test.YteeonojcihcfiaaDoorK9DG3
import Derived.Test.YteeonojcihcfiaaDoorK9C2
import Derived.Deep.AppendLies
namespace Go.Proofs.YteeonojcihcfiaaDoor
open Go.ChangeShapes Go.WideShapes Go.ChangeAt Go.RowKit

theorem new_v2 (w : World) (t : TypeId) (a b : Value) : Reads (w.alloc (.cells #[a, b] t)) (w.alloc (.cells #[a, b] t)).heap.size 2 (some ⟨w.heap.size, 0, none⟩) 1 [a, b] :=
  ⟨rfl, fun _ => ⟨w.heap.size, 0, rfl, by simp, fun j v hv => by
    rw [Nat.zero_add, (Blk.new w t #[a, b]).cell]; simpa using hv⟩⟩
theorem stC_snoc (L : List Stp) (x : Stp) : stC (L ++ [x]) = stC L ++ [.int .i64 x.1, .int .i64 x.2] := by simp [stC]
theorem prV_dash (rd : ByteArray → Option Stp) : prV rd ⟨#[45]⟩ = ([], 0) := by rw [prV, if_pos rfl]
theorem prV_none {rd : ByteArray → Option Stp} {s : ByteArray} (h : s ≠ ⟨#[45]⟩) (h2 : allP rd (cutB 32 s) = none) : prV rd s = ([], 6) := by rw [prV, if_neg h, h2]
theorem prV_some {rd : ByteArray → Option Stp} {s : ByteArray} {L : List Stp} (h : s ≠ ⟨#[45]⟩) (h2 : allP rd (cutB 32 s) = some L) : prV rd s = if isProc L = true then (L, 0) else ([], 6) := by rw [prV, if_neg h, h2]
theorem stepR_len {s : ByteArray} (h : (cutB 64 s).length ≠ 2) : stepR s = none := by
  unfold stepR
  split
  · next a b hc => rw [hc] at h; exact absurd rfl h
  · rfl
theorem stepR_two {s a b : ByteArray} (h : cutB 64 s = [a, b]) : stepR s = if (valV a).2 = true ∧ (valV b).2 = true then some ((valV b).1, (valV a).1) else none := by
  unfold stepR
  rw [h]
theorem two_of {P : List ByteArray} (h : P.length = 2) : ∃ a b, P = [a, b] := by
  match P, h with
  | [a, b], _ => exact ⟨a, b, rfl⟩
theorem str_lit' (s : ByteArray) : (s.toList == [45]) = decide (s = ⟨#[45]⟩) := by
  have := str_eq s ⟨#[45]⟩
  rw [show (⟨#[45]⟩ : ByteArray).toList = [45] by rw [ByteArray.toList_eq]] at this
  exact this
theorem cut_len32 (s : ByteArray) : (cutB 32 s).length ≤ s.size + 1 := cutF_len 32 s _ _
theorem cut_len64 (s : ByteArray) : (cutB 64 s).length ≤ s.size + 1 := cutF_len 64 s _ _
theorem types_apart {w : World} {b1 b2 s1 s2 n1 n2 : Nat} {e1 e2 : TypeId} {v1 v2 : Value} {l1 l2 : List Value} (h1 : w.ownsRow b1 e1 s1 v1 n1 l1) (h2 : w.ownsRow b2 e2 s2 v2 n2 l2) (he : e1 ≠ e2) : v1.ownBlock = none ∨ v1.ownBlock ≠ v2.ownBlock := by
  rcases h1.2 with ⟨rfl, _⟩ | ⟨g, cap, cur, rfl, _, hc, _⟩
  · exact .inl rfl
  · rcases h2.2 with ⟨rfl, _⟩ | ⟨g', cap', cur', rfl, _, hc', _⟩
    · exact .inr (by intro e; cases e)
    · refine .inr (fun e => ?_)
      have e3 : g = g' := by injection e
      subst e3
      rw [hc] at hc'
      injection hc' with hc'
      injection hc' with _ h9
      exact he h9
set_option maxRecDepth 100000 in
set_option maxHeartbeats 4000000 in
theorem specRP_any (s : ByteArray) (hs : s.size ≤ 1048576) (w : World) :
    Calls Tryd.prog 11 #[.string s] w fun e w' => ∃ v, e = .returned (.tuple #[v, .int .i64 (prV stepR s).2]) ∧ w'.ownsRow w.heap.size 41 2 v (prV stepR s).1.length (stC (prV stepR s).1) ∧ Below w.heap.size w w' := by
  obtain ⟨i0, hi0, hz0, hz1, hz2⟩ := info_parts info50
  have OW := Lib.hid (World.ownsRow_made (e := 41) (base := w.heap.size) (size := 2) w #[] 0 (Nat.le_refl _) (by decide) rfl)
  have q45 := str_lit' s
  by_cases h45 : s = ⟨#[45]⟩
  · rw [decide_eq_true h45] at q45
    have HV := Lib.hid (show prV stepR s = ([], 0) by rw [h45]; exact prV_dash _)
    generalize prV stepR s = r at HV ⊢
    clear h45
    go_enter Tryd.func11, Tryd.ntmps11
    go_wp2_with fail
    go_ret2
    exact ⟨_, by rw [HV.out]; rfl, by rw [HV.out]; exact OW.out, (Below.refl _ _).alloc (Nat.le_refl _) _⟩
  rw [decide_eq_false h45] at q45
  have HN := Lib.hid (fun h => prV_none (rd := stepR) h45 h)
  have HSm := Lib.hid (fun L h => prV_some (rd := stepR) (L := L) h45 h)
  have HC := Lib.hid (specSplit_any s 32 (by omega))
  have hcz := cut_size 32 s
  have hcl := cut_len32 s
  generalize prV stepR s = r at HN HSm ⊢
  generalize cutB 32 s = ws at HN HSm HC hcz hcl
  have HZ := Lib.hid hcz
  clear hcz h45
  go_enter Tryd.func11, Tryd.ntmps11
  go_wp2_with fail
  have BA := Lib.hid ((Below.refl w.heap.size w).alloc (Nat.le_refl _) (.cells #[] 41))
  generalize w.alloc (.cells #[] 41) = W0 at OW BA ⊢
  refine (HC.out W0).mono ?_; rintro e w1 ⟨v, rfl, ow, b1⟩
  obtain ⟨Aw, cw, rfl, _⟩ := own_shape ow
  have OX := Lib.hid ow
  have OO := Lib.hid (own_below OW.out b1)
  have BB := Lib.hid (BA.out.trans (b1.mono BA.out.size))
  clear ow b1 OW BA
  go_wp2_with fail
  go_loopw [4, 6] (fun v4 v6 wr => ∃ (k : Nat) (L : List Stp) (Bq : Option Addr) (dq : Nat), k ≤ ws.length ∧ Hid (L.length = k) ∧ Hid (allP stepR (ws.take k) = some L) ∧ v4 = .slice Bq k dq ∧ Hid (wr.ownsRow w.heap.size 41 2 (.slice Bq k dq) k (stC L)) ∧ Hid (wr.ownsRow W0.heap.size 9 1 (.slice Aw ws.length cw) ws.length (txC ws)) ∧ Hid (Below w.heap.size w wr) ∧ v6 = .int .i64 (k : Int)) (fun _ i _ => ws.length - (intOf i).toNat)
  case atStart => exact ⟨0, [], _, 0, by omega, rfl, rfl, rfl, OO.out, OX.out, BB.out, rfl⟩
  case round =>
    clear OO OX BB
    obtain ⟨k, L, Bq, dq, hk, HL, HA, rfl, HO, HX, BW, rfl⟩ := hrel
    by_cases hlt : k < ws.length
    · obtain ⟨ab, ao, rfl, hadb, hcell⟩ := (Reads.of_own HX.out).2 (by omega)
      have c0 := hcell _ _ (txC_at ws k hlt)
      have hwz := HZ.out _ (List.getElem_mem hlt)
      have HTk := Lib.hid (List.take_succ_eq_append_getElem hlt)
      have HM := Lib.hid (List.getElem_mem hlt)
      clear hcell
      generalize ws[k] = wd at c0 hwz HTk HM
      have k0 : (0 : Int) ≤ (k : Int) := by omega
      have k1 : (k : Int) < (ws.length : Int) := by omega
      have HS := Lib.hid (specSplit_any wd 64 (by omega) wr)
      have HLn := Lib.hid (stepR_len (s := wd))
      have HTw := Lib.hid (fun a b => stepR_two (s := wd) (a := a) (b := b))
      have hpz := cut_size 64 wd
      have hpl := cut_len64 wd
      generalize cutB 64 wd = P at HS HLn HTw hpz hpl
      have HPZ := Lib.hid hpz; clear hpz
      go_wp2_with fail
      refine HS.out.mono ?_; rintro e w2 ⟨v2, rfl, ow2, b2⟩
      obtain ⟨Ap, cp, rfl, _⟩ := own_shape ow2
      have B2 := Lib.hid (BW.out.trans (b2.mono BW.out.size))
      have O2 := Lib.hid (own_below HO.out b2)
      have X2 := Lib.hid (own_below HX.out b2)
      have P2 := Lib.hid ow2
      clear b2 ow2 HO HX BW c0 HS
      by_cases hp2 : P.length = 2
      rotate_left
      · have hq : ((P.length : Int) != 2) = true := by rw [bne_iff_ne]; omega
        have HR := Lib.hid (HN.out (allP_none HM.out (HLn.out hp2)))
        clear hp2 HLn
        go_wp2_with fail
        go_ret2
        exact ⟨_, by rw [HR.out]; rfl, by rw [HR.out]; exact World.ownsRow_nil _ _ _ _, B2.out⟩
      · obtain ⟨a, b, rfl⟩ := two_of hp2
        have az := HPZ.out a (by simp)
        have bz := HPZ.out b (by simp)
        have HT2 := Lib.hid (HTw.out a b rfl)
        obtain ⟨pb, po, rfl, hpdb, hpc⟩ := (Reads.of_own P2.out).2 (by simp)
        have p0 := hpc 0 (.string a) rfl
        have p1 := hpc 1 (.string b) rfl
        rw [Nat.add_zero] at p0
        clear hpc hp2 HLn HTw HPZ hpl
        have CA := Lib.hid (specVal_any a (by omega))
        have CB := Lib.hid (specVal_any b (by omega))
        obtain ⟨⟨n1, o1⟩, hva⟩ : ∃ p, valV a = p := ⟨_, rfl⟩
        obtain ⟨⟨n2, o2⟩, hvb⟩ : ∃ p, valV b = p := ⟨_, rfl⟩
        rw [hva] at CA HT2
        rw [hvb] at CB HT2
        dsimp only at CA CB HT2
        clear hva hvb
        go_wp2_with fail
        refine (CA.out w2).mono ?_; rintro e w3 ⟨rfl, b3⟩
        have q1 := (Below.cell b3 (p := ⟨pb, po + 1, none⟩) hpdb).trans p1
        have B3 := Lib.hid (B2.out.trans (b3.mono B2.out.size))
        have O3 := Lib.hid (own_below O2.out b3)
        have X3 := Lib.hid (own_below X2.out b3)
        clear b3 p0 p1 B2 O2 X2 P2
        go_wp2_with fail
        refine (CB.out w3).mono ?_; rintro e w4 ⟨rfl, b4⟩
        have BW0 := Lib.hid (B3.out.trans (b4.mono B3.out.size))
        have O4 := Lib.hid (own_below O3.out b4)
        have X4 := Lib.hid (own_below X3.out b4)
        clear b4 q1 B3 O3 X3
        cases o1
        · have HR := Lib.hid (HN.out (allP_none HM.out (by rw [HT2.out]; simp)))
          go_wp2_with fail
          go_ret2
          exact ⟨_, by rw [HR.out]; rfl, by rw [HR.out]; exact World.ownsRow_nil _ _ _ _, BW0.out⟩
        cases o2
        · have HR := Lib.hid (HN.out (allP_none HM.out (by rw [HT2.out]; simp)))
          go_wp2_with fail
          go_ret2
          exact ⟨_, by rw [HR.out]; rfl, by rw [HR.out]; exact World.ownsRow_nil _ _ _ _, BW0.out⟩
        have HA1 := Lib.hid (show allP stepR (ws.take (k + 1)) = some (L ++ [(n2, n1)]) by rw [HTk.out, allP_snoc, HA.out, HT2.out]; rfl)
        go_wp2_with (at_builtin; refine wpList_append_any _ rfl (.tmp 52) (.tmp 56) _ rfl w.heap.size 41 i0 _ 2 16 Tryd.underlying26 hi0 hz0 hz1 hz2 rfl (by omega) (.slice Bq k dq) k (stC L) rfl (O4.out.alloc _) _ (some ⟨w4.heap.size, 0, none⟩) 1 1 [.int .i64 n2, .int .i64 n1] rfl (new_v2 _ _ _ _) (by simp [Value.oneCell']) (by simp only [maxLen]; omega) (by omega) (by have := BW0.out.size; simp; omega) ?_; intro v9 w9 hown9 hg9 hat9; obtain ⟨B9, d9, rfl, _⟩ := own_shape hown9)
        have B9' := Lib.hid (below_own (BW0.out.alloc BW0.out.size _) (O4.out.alloc _) hg9 (Nat.le_refl _) (by have := BW0.out.size; simp; omega))
        have X9 := Lib.hid (show w9.ownsRow W0.heap.size 9 1 (.slice (some ⟨ab, ao, none⟩) ws.length cw) ws.length (txC ws) from (X4.out.alloc _).kept hg9 (types_apart X4.out O4.out (by decide)))
        have O9 := Lib.hid (show w9.ownsRow w.heap.size 41 2 (.slice B9 (k + 1) d9) (k + 1) (stC (L ++ [(n2, n1)])) by rw [stC_snoc]; simpa using hown9)
        clear hown9 hg9 hat9
        go_roundw
        case rel => exact ⟨k + 1, L ++ [(n2, n1)], B9, d9, by omega, by have := HL.out; simp [Hid, this], HA1.out, rfl, O9.out, X9.out, B9'.out, by go_num⟩
        case measure => simp [intOf]; omega
    · obtain rfl : k = ws.length := by omega
      have HA2 := HA.out
      rw [List.take_length] at HA2
      have HR := Lib.hid (HSm.out L HA2)
      have hll := HL.out
      have CI := Lib.hid (specIs_any L Bq dq wr (by rw [hll]; exact Reads.of_own HO.out) (by omega))
      rw [hll] at CI
      have HLL := Lib.hid hll
      clear hll HA2
      generalize isProc L = ci at CI HR
      cases ci
      · go_wp2_with fail
        refine CI.out.mono ?_; rintro e w2 ⟨rfl, b2⟩
        go_wp2_with fail
        go_ret2
        exact ⟨_, by rw [HR.out]; rfl, by rw [HR.out]; exact World.ownsRow_nil _ _ _ _, BW.out.trans (b2.mono BW.out.size)⟩
      · go_wp2_with fail
        refine CI.out.mono ?_; rintro e w2 ⟨rfl, b2⟩
        go_wp2_with fail
        go_ret2
        exact ⟨_, by rw [HR.out]; rfl, by rw [HR.out]; simp only [if_true]; rw [HLL.out]; exact own_below HO.out b2, BW.out.trans (b2.mono BW.out.size)⟩
end Go.Proofs.YteeonojcihcfiaaDoor
