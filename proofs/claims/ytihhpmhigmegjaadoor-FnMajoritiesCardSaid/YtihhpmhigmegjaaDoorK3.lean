/- slices.Insert of one ballot where there is room; all its roads. -/
import Derived.Test.YtihhpmhigmegjaaDoorRows
import Derived.Test.YtihhpmhigmegjaaDoorL0
import Derived.Test.YtihhpmhigmegjaaDoorM0
import Derived.WalkKit
import Derived.ProofKit
import Derived.OpenShut
import Derived.BigQuiet
import Derived.Outline
import Derived.WalkSpells
import Derived.WalkLawsBesides
import Derived.Deep.DeepCutAuto
import Derived.Test.YtihhpmhigmegjaaDoorK2
namespace Go.Proofs.YtihhpmhigmegjaaDoor
open Go.ChangeShapes Go.WideShapes Go.ChangeAt Go.RowKit Go.Sort

theorem blk_shape {w : World} {g : Nat} {t : TypeId} {cs : Array Value} (h : Blk w g t cs) : w.shape? g = some (t, cs.size) := by
  unfold Blk at h
  simp [World.shape?, h]
set_option maxRecDepth 100000 in
set_option maxHeartbeats 4000000 in
theorem insert_room (xs : List Bal) (hn : xs.length ≤ 10) (i : Nat) (hi : i < xs.length) (y : Bal) (base g cap : Nat) (cur : Array Value) (vb : Nat) (w : World) (hbg : base ≤ g) (hg : Blk w g 32 cur) (hcap : xs.length + 1 ≤ cap) (hcm : cap ≤ maxLen) (hsize : cur.size = cap * 3) (htk : cur.toList.take (xs.length * 3) = baC xs) (hv : Blk w vb 32 y.cells.toArray) (hne : vb ≠ g) :
    Calls Tryd.prog 43 #[.slice (some ⟨g, 0, none⟩) xs.length cap, .int .i64 i, .slice (some ⟨vb, 0, none⟩) 1 1] w fun e w' => ∃ v, e = .returned v ∧ w'.ownsRow base 32 3 v (xs.length + 1) (baC (insB xs i y)) ∧ Below base w w' := by
  obtain ⟨i0, hi0, hz0, hz1, hz2⟩ := info_parts infoBal
  have hsz : (Tryd.prog.info? 32).map (·.size) = some 3 := by rw [hi0]; simp [hz1]
  have hov : ∀ lb cb, (callFunc 61 #[.slice (some ⟨vb, 0, none⟩) 1 1, .slice (some ⟨g, (i + 1) * 3, none⟩) lb cb]).run Tryd.prog w = .ok (.value (.bool false)) w := fun lb cb => by
    rw [run_callFunc_extern Tryd.func61 (by kernel_rfl) (by kernel_rfl) (by kernel_rfl) (e := Extern.SlicesOverlaps.overlaps #[24, 24] #[4]) (by kernel_rfl),
      Lib.run_overlaps_apart w 24 4 32 Tryd.underlying24 3 (fun w => by kernel_rfl) ⟨vb, 0, none⟩ ⟨g, (i + 1) * 3, none⟩ 1 1 lb cb hne _ _ _ _ (blk_shape hv) (blk_shape hg) (by rw [hsize]; omega) (hv.frozen 0) (hv.frozen _)]
    rfl
  have hcl : cur.toList.length = cap * 3 := by rw [Array.length_toList, hsize]
  have hcs : ∀ j v, (baC xs)[j]? = some v → cur.toList[j]? = some v := fun j v hj => by
    rw [← htk, List.getElem?_take] at hj
    split at hj
    · exact hj
    · cases hj
  have hA : cur.toList.take (i * 3) = (baC xs).take (i * 3) := by rw [← htk, List.take_take, Nat.min_eq_left (by omega)]
  have hAl : ((baC xs).take (i * 3)).length = i * 3 := by rw [List.length_take, baC_len]; omega
  have hDl : ((baC xs).drop (i * 3)).length = (xs.length - i) * 3 := by rw [List.length_drop, baC_len]; omega
  have hyl : y.cells.length = 3 := rfl
  have e2 : (cur.toList.take ((i + 1) * 3) ++ (baC xs).drop (i * 3) ++ cur.toList.drop ((i + 1) * 3 + ((baC xs).drop (i * 3)).length)).take (i * 3) = (baC xs).take (i * 3) := by
    rw [List.append_assoc, List.take_append_of_le_length (by rw [List.length_take, hcl]; omega), List.take_take, Nat.min_eq_left (by omega), hA]
  have e3 : (cur.toList.take ((i + 1) * 3) ++ (baC xs).drop (i * 3) ++ cur.toList.drop ((i + 1) * 3 + ((baC xs).drop (i * 3)).length)).drop (i * 3 + y.cells.length) = (baC xs).drop (i * 3) ++ cur.toList.drop ((i + 1) * 3 + ((baC xs).drop (i * 3)).length) := by
    rw [List.append_assoc]
    exact List.drop_left' (by rw [List.length_take, hcl, hyl]; omega)
  have hcp1 : ∀ ty dc sc, (Builtin.copy_ #[24, 24] ty #[.slice (some ⟨g, (i + 1) * 3, none⟩) (xs.length + 1 - (i + 1)) dc, .slice (some ⟨g, i * 3, none⟩) (xs.length + 1 - i) sc]).run Tryd.prog w.drew = .ok (goInt ((xs.length - i : Nat) : Int)) (w.drew.setRow g (cur.toList.take ((i + 1) * 3) ++ (baC xs).drop (i * 3) ++ cur.toList.drop ((i + 1) * 3 + ((baC xs).drop (i * 3)).length)).toArray) := fun ty dc sc => by
    have hmin : Nat.min (xs.length + 1 - i) (xs.length + 1 - (i + 1)) = xs.length - i := by simp only [Nat.min_def]; split <;> omega
    have := run_copy_rowK (P := Tryd.prog) w.drew 24 24 ty 32 3 g ((i + 1) * 3) (xs.length + 1 - (i + 1)) dc ⟨g, i * 3, none⟩ (xs.length + 1 - i) sc cur 32 ((baC xs).drop (i * 3)) Tryd.underlying24 hsz hg.drew (by rw [hmin, hDl]) (fun j v hj => by
      rw [add_lit', hg.drew.cell]
      rw [List.getElem?_drop] at hj
      simpa using hcs _ v hj) (by rw [hDl, hsize]; omega) (fun v hv => baC_one xs v (List.mem_of_mem_drop hv))
    rw [this, hmin]
  have B1 := blk_row (ds := (cur.toList.take ((i + 1) * 3) ++ (baC xs).drop (i * 3) ++ cur.toList.drop ((i + 1) * 3 + ((baC xs).drop (i * 3)).length)).toArray) hg.drew
  have V1 : Blk (w.drew.setRow g (cur.toList.take ((i + 1) * 3) ++ (baC xs).drop (i * 3) ++ cur.toList.drop ((i + 1) * 3 + ((baC xs).drop (i * 3)).length)).toArray) vb 32 y.cells.toArray := (setRow_other _ _ _ _ hne).trans hv.drew
  have hcp2 : ∀ ty dc, (Builtin.copy_ #[24, 24] ty #[.slice (some ⟨g, i * 3, none⟩) (xs.length + 1 - i) dc, .slice (some ⟨vb, 0, none⟩) 1 1]).run Tryd.prog (w.drew.setRow g (cur.toList.take ((i + 1) * 3) ++ (baC xs).drop (i * 3) ++ cur.toList.drop ((i + 1) * 3 + ((baC xs).drop (i * 3)).length)).toArray) = .ok (goInt 1) ((w.drew.setRow g (cur.toList.take ((i + 1) * 3) ++ (baC xs).drop (i * 3) ++ cur.toList.drop ((i + 1) * 3 + ((baC xs).drop (i * 3)).length)).toArray).setRow g ((baC xs).take (i * 3) ++ y.cells ++ ((baC xs).drop (i * 3) ++ cur.toList.drop ((i + 1) * 3 + ((baC xs).drop (i * 3)).length))).toArray) := fun ty dc => by
    have hmin : Nat.min 1 (xs.length + 1 - i) = 1 := by simp only [Nat.min_def]; split <;> omega
    have := run_copy_rowK (P := Tryd.prog) _ 24 24 ty 32 3 g (i * 3) (xs.length + 1 - i) dc ⟨vb, 0, none⟩ 1 1 _ 32 y.cells Tryd.underlying24 hsz B1 (by rw [hmin]; rfl) (fun j v hj => by rw [add_lit0, Nat.zero_add, V1.cell]; simpa using hj) (by simp only [List.size_toArray, List.length_append, List.length_take, List.length_drop, hcl, hDl, hyl, baC_len]; omega) (by simp [Bal.cells, Value.oneCell'])
    rw [this, hmin]
    simp only [e2, e3]
    rfl
  have B2 := blk_row (ds := ((baC xs).take (i * 3) ++ y.cells ++ ((baC xs).drop (i * 3) ++ cur.toList.drop ((i + 1) * 3 + ((baC xs).drop (i * 3)).length))).toArray) B1
  have HS3 := Lib.hid (show ((baC xs).take (i * 3) ++ y.cells ++ ((baC xs).drop (i * 3) ++ cur.toList.drop ((i + 1) * 3 + ((baC xs).drop (i * 3)).length))).toArray.size = cap * 3 by
    simp only [List.size_toArray, List.length_append, hAl, hyl, hDl, List.length_drop, hcl]; omega)
  have HT3 := Lib.hid (show ((baC xs).take (i * 3) ++ y.cells ++ ((baC xs).drop (i * 3) ++ cur.toList.drop ((i + 1) * 3 + ((baC xs).drop (i * 3)).length))).toArray.toList.take ((xs.length + 1) * 3) = baC (insB xs i y) by
    rw [baC_ins, ← List.append_assoc]
    exact List.take_left' (by simp only [List.length_append, hAl, hyl, hDl]; omega))
  have HB2 := Lib.hid B2; have HC1 := Lib.hid hcp1; have HC2 := Lib.hid hcp2; have HOV := Lib.hid hov
  have hgl := hg.lt
  clear B1 V1 B2 hcp1 hcp2 hcs hA e2 e3 hov
  generalize ((baC xs).take (i * 3) ++ y.cells ++ ((baC xs).drop (i * 3) ++ cur.toList.drop ((i + 1) * 3 + ((baC xs).drop (i * 3)).length))).toArray = R3 at HB2 HC2 HS3 HT3
  generalize (cur.toList.take ((i + 1) * 3) ++ (baC xs).drop (i * 3) ++ cur.toList.drop ((i + 1) * 3 + ((baC xs).drop (i * 3)).length)).toArray = R2 at HB2 HC2 HC1
  clear htk hcl hsize hg hv hAl hDl
  have hz2' : ¬ ((i : Int) = (xs.length : Int)) := by omega
  have hin : (i : Int) ≤ (xs.length : Int) := by omega
  have hw1 : IntKind.i64.wrap ((i : Int) + 1) = (i : Int) + 1 := IntWalk.i64_in _ (by omega)
  have htn : ((i : Int) + 1).toNat = i + 1 := by omega
  have hb1 : (0 : Int) ≤ (i : Int) + 1 := by omega
  have hb2 : ¬ (cap = i + 1) := by omega
  have hb3 : (i : Int) ≤ (xs.length : Int) + 1 := by omega
  have hb4 : ¬ (cap = i) := by omega
  have hc63 : (cap : Int) ≤ 9223372036854775807 := by unfold maxLen at hcm; omega
  have mixed : Tryd.prog.follows Departure.mixedOrders = true := by kernel_rfl
  go_enter Tryd.func43, Tryd.ntmps43
  go_wp2_with (simp only [HOV.out])
  go_region_law_o (refine step_copy_runI rfl _ _ 24 24 rfl (.slice (some ⟨g, (i + 1) * 3, none⟩) (xs.length + 1 - (i + 1)) (cap - (i + 1))) (.slice (some ⟨g, i * 3, none⟩) (xs.length + 1 - i) (cap - i)) (by simp [Act.eval, Act.put]) (by simp [Act.eval, Act.put]) (HC1.out 3 (cap - (i + 1)) (cap - i)) ?_)
  go_wp2_with ((with_reducible refine at_list ?_); refine wpList_copy_runI _ rfl (.tmp 80) (.tmp 81) 24 24 rfl _ _ rfl rfl (HC2.out _ _) ?_)
  go_wp2
  go_ret
  exact ⟨_, rfl, ⟨by rw [baC_len, insB_len (by omega)], .inr ⟨g, cap, _, rfl, hbg, HB2.out, hcap, hcm, HS3.out, HT3.out⟩⟩, below_row (below_row ((Below.refl base w).drew) hbg _) hbg _⟩
end Go.Proofs.YtihhpmhigmegjaaDoor
