/- slices.Insert of one ballot. -/
import Derived.Test.YtihhpmhigmegjaaDoorRows
import Derived.Test.YtihhpmhigmegjaaDoorL0
import Derived.Test.YtihhpmhigmegjaaDoorM0
import Derived.WalkKit
import Derived.ProofKit
import Derived.OpenShut
import Derived.BigQuiet
import Derived.Outline
import Derived.WalkSpells
import Derived.WalkLawsBesides
import Derived.Deep.DeepCutAuto
import Derived.Test.YtihhpmhigmegjaaDoorK1
import Derived.Test.YtihhpmhigmegjaaDoorT5
import Derived.Shelf.Spec.SlicesInsert
import Derived.Lib.AppendZerosOnto
import Derived.Lib.Overlaps
import Derived.Laws.CopyRow
namespace Go.Proofs.YtihhpmhigmegjaaDoor
open Go.ChangeShapes Go.WideShapes Go.ChangeAt Go.RowKit Go.Sort

theorem run_copy_rowK {P : Program} (w : World) (dT sT ty elem : TypeId) (k g o dLen dCap : Nat) (a : Addr) (sLen sCap : Nat) (cur : Array Value) (t : TypeId) (cs : List Value)
    (hu : P.underlying dT = some (.slice elem)) (hs : (P.info? elem).map (·.size) = some k)
    (hg : w.heap[g]? = some (.cells cur t (0, 0))) (hn : cs.length = Nat.min sLen dLen * k)
    (hsrc : ∀ j v, cs[j]? = some v → w.cell? (a.add j) = some v) (hfit : o + cs.length ≤ cur.size) (h1 : ∀ v ∈ cs, v.oneCell' = true) :
    (Builtin.copy_ #[dT, sT] ty #[.slice (some ⟨g, o, none⟩) dLen dCap, .slice (some a) sLen sCap]).run P w =
      .ok (goInt (Nat.min sLen dLen)) (w.setRow g (cur.toList.take o ++ cs ++ cur.toList.drop (o + cs.length)).toArray) := by
  have hl := run_loadCells_list (P := P) w a cs hsrc
  have hst := run_storeCells_at P g o t cs 0 cur w hg (by simpa using hfit) h1
  cases hq : P.info? elem with
  | none => simp [hq] at hs
  | some i =>
    have hi : i.size = k := by simpa [hq] using hs
    simp [Builtin.copy_, run_underlying hu, Builtin.lenOf, Builtin.firstCells, sizeOf, typeInfo, hq, hi, ← hn, hl, hst]
theorem blk_row {w : World} {g : Nat} {t : TypeId} {cs ds : Array Value} (h : Blk w g t cs) : Blk (w.setRow g ds) g t ds := setRow_heap w g cs ds t (0, 0) h
theorem below_row {B : Nat} {a w : World} (h : Below B a w) {g : Nat} (hg : B ≤ g) (ds : Array Value) : Below B a (w.setRow g ds) :=
  ⟨h.os, h.tape, h.output, by have := h.size; simpa [World.setRow] using this, fun k hk => by rw [setRow_other _ _ _ _ (by omega)]; exact h.block k hk⟩
/-- The ballots with a further one at a place. -/
def insB (xs : List Bal) (i : Nat) (y : Bal) : List Bal := xs.take i ++ y :: xs.drop i
theorem insB_len {xs : List Bal} {i : Nat} (h : i ≤ xs.length) (y : Bal) : (insB xs i y).length = xs.length + 1 := by simp [insB]; omega
theorem baC_take (xs : List Bal) (i : Nat) : baC (xs.take i) = (baC xs).take (i * 3) := by
  induction xs generalizing i with
  | nil => simp [baC]
  | cons x r ih =>
    cases i with
    | zero => simp [baC]
    | succ i =>
      rw [List.take_succ_cons, baC_cons, baC_cons, ih i, show (i + 1) * 3 = i * 3 + 1 + 1 + 1 by omega]
      simp
theorem baC_drop (xs : List Bal) (i : Nat) : baC (xs.drop i) = (baC xs).drop (i * 3) := by
  induction xs generalizing i with
  | nil => simp [baC]
  | cons x r ih =>
    cases i with
    | zero => simp [baC]
    | succ i =>
      rw [List.drop_succ_cons, baC_cons, ih i, show (i + 1) * 3 = i * 3 + 1 + 1 + 1 by omega]
      simp
theorem baC_ins (xs : List Bal) (i : Nat) (y : Bal) : baC (insB xs i y) = (baC xs).take (i * 3) ++ y.cells ++ (baC xs).drop (i * 3) := by
  rw [insB, ← baC_take, ← baC_drop]
  simp [baC]
set_option maxRecDepth 100000 in
set_option maxHeartbeats 4000000 in
theorem insert_end (xs : List Bal) (hn : xs.length ≤ 10) (y : Bal) (base : Nat) (OV : Option Addr) (cap vb : Nat) (w : World) (hown : w.ownsRow base 32 3 (.slice OV xs.length cap) xs.length (baC xs)) (hb : base ≤ w.heap.size) (hv : Blk w vb 32 y.cells.toArray) :
    Calls Tryd.prog 43 #[.slice OV xs.length cap, .int .i64 xs.length, .slice (some ⟨vb, 0, none⟩) 1 1] w fun e w' => ∃ v, e = .returned v ∧ w'.ownsRow base 32 3 v (xs.length + 1) (baC (insB xs xs.length y)) ∧ Below base w w' := by
  obtain ⟨i0, hi0, hz0, hz1, hz2⟩ := info_parts infoBal
  have HO := Lib.hid hown; clear hown
  have hc := (own_shape HO.out)
  have RV := Lib.hid (show Reads w w.heap.size 3 (some ⟨vb, 0, none⟩) 1 y.cells from ⟨rfl, fun _ => ⟨vb, 0, rfl, hv.lt, fun j u hu => by rw [Nat.zero_add, hv.cell]; simpa using hu⟩⟩)
  have hcap : xs.length ≤ cap := by obtain ⟨A, c, e, h⟩ := hc; simp only [Value.slice.injEq] at e; omega
  clear hc
  go_enter Tryd.func43, Tryd.ntmps43
  go_wp2_with (at_builtin; refine wpList_append_any _ rfl (.tmp 23) (.tmp 24) _ rfl base 32 i0 _ 3 32 Tryd.underlying24 hi0 hz0 hz1 hz2 rfl (by omega) (.slice OV xs.length cap) xs.length (baC xs) rfl HO.out w.heap.size (some ⟨vb, 0, none⟩) 1 1 y.cells rfl RV.out (by simp [Bal.cells, Value.oneCell']) (by simp only [maxLen]; omega) (by omega) hb ?_; intro v1 w1 hown1 hg1 hat1)
  all_goals
    go_ret
    refine ⟨_, rfl, ?_, below_own (Below.refl _ _ |>.mono hb) HO.out hg1 (Nat.le_refl _) hb⟩
    rw [baC_ins, List.take_of_length_le (by rw [baC_len]; omega), List.drop_of_length_le (by rw [baC_len]; omega), List.append_nil]
    exact hown1
set_option maxRecDepth 100000 in
set_option maxHeartbeats 4000000 in
theorem insert_grow (xs : List Bal) (hn : xs.length ≤ 10) (i : Nat) (hi : i < xs.length) (y : Bal) (base g : Nat) (vb : Nat) (w : World) (hown : w.ownsRow base 32 3 (.slice (some ⟨g, 0, none⟩) xs.length xs.length) xs.length (baC xs)) (hb : base ≤ w.heap.size) (hv : Blk w vb 32 y.cells.toArray) :
    Calls Tryd.prog 43 #[.slice (some ⟨g, 0, none⟩) xs.length xs.length, .int .i64 i, .slice (some ⟨vb, 0, none⟩) 1 1] w fun e w' => ∃ v, e = .returned v ∧ w'.ownsRow base 32 3 v (xs.length + 1) (baC (insB xs i y)) ∧ Below base w w' := by
  obtain ⟨i0, hi0, hz0, hz1, hz2⟩ := info_parts infoBal
  have hsz : (Tryd.prog.info? 32).map (·.size) = some 3 := by rw [hi0]; simp [hz1]
  have hcs : ∀ j v, (baC xs)[j]? = some v → w.cell? ⟨g, j, none⟩ = some v := fun j v hj => by
    have := hown.cells (g := g) rfl j v hj
    rwa [add_lit0, Nat.zero_add] at this
  have hgl : g < w.heap.size := World.block_lt_of_cell? w _ (hcs 0 _ (List.getElem?_eq_getElem (by rw [baC_len]; omega)))
  have hvl := hv.lt
  have hold : (Builtin.firstCells i0.size i (.slice (some ⟨g, 0, none⟩) i xs.length)).run Tryd.prog w.drew = .ok ((baC xs).take (i * 3)).toArray w.drew := by
    rw [hz1]
    exact run_firstCells_some w.drew 3 i ⟨g, 0, none⟩ i xs.length ((baC xs).take (i * 3)) (by rw [List.length_take, baC_len]; omega) (fun j v hj => by
      rw [add_lit0, Nat.zero_add]
      rw [List.getElem?_take] at hj
      split at hj
      · exact hcs j v hj
      · cases hj)
  obtain ⟨G, hG⟩ : ∃ G, grownCap w (xs.length + 1) xs.length 32 = G := ⟨_, rfl⟩
  have hGn : xs.length + 1 ≤ G := by rw [← hG]; exact grownCap_ge w _ _ _
  have hGm : G ≤ maxLen := by rw [← hG]; exact grownCap_le_maxLen w _ _ _ (by unfold maxLen; omega)
  obtain ⟨Zl, hZ⟩ : ∃ Zl : List Value, (Builtin.zeroCells (Value.agg #[.string ⟨#[]⟩, .int .i64 0, .int .i64 0]).cells (xs.length + 1 - i) ++ Builtin.zeroCells (Value.agg #[.string ⟨#[]⟩, .int .i64 0, .int .i64 0]).cells (G - (xs.length + 1))).toList = Zl := ⟨_, rfl⟩
  have hZl : Zl.length = (G - i) * 3 := by
    rw [← hZ]
    simp [Builtin.zeroCells, Value.cells]
    omega
  have hAl : ((baC xs).take (i * 3)).length = i * 3 := by rw [List.length_take, baC_len]; omega
  have hDl : ((baC xs).drop (i * 3)).length = (xs.length - i) * 3 := by rw [List.length_drop, baC_len]; omega
  have hrz : ∀ ty, (Builtin.append_ #[24, 3] ty #[.slice (some ⟨g, 0, none⟩) i xs.length, .int .i64 ((xs.length : Int) + 1 - (i : Int))]).run Tryd.prog w =
      .ok (.slice (some ⟨w.heap.size, 0, none⟩) (xs.length + 1) G) (w.drew.alloc (.cells ((baC xs).take (i * 3) ++ Zl).toArray 32)) := fun ty => by
    have h := Lib.run_append_grow_zeros (P := Tryd.prog) w 24 3 ty 32 i0 _ .i64 .i64 Tryd.underlying24 Tryd.underlying3 hi0 hz0 (some ⟨g, 0, none⟩) i xs.length _ hold (xs.length + 1 - i) (by omega) (by omega) (by omega) (by omega) (by rw [hz2]; omega) (by rw [hz2, show i + (xs.length + 1 - i) = xs.length + 1 by omega]; exact growslice_fits (by omega) (by omega))
    rw [show i + (xs.length + 1 - i) = xs.length + 1 by omega, hG] at h
    rw [show (xs.length : Int) + 1 - (i : Int) = ((xs.length + 1 - i : Nat) : Int) by omega]
    rw [h, ← hZ]
    congr 2
    apply congrArg (fun x => Obj.cells x 32)
    apply Array.ext'
    simp
  have hcpA : ∀ (W : World), Blk W w.heap.size 32 ((baC xs).take (i * 3) ++ Zl).toArray → Blk W vb 32 y.cells.toArray → ∀ ty dc, (Builtin.copy_ #[24, 24] ty #[.slice (some ⟨w.heap.size, i * 3, none⟩) (xs.length + 1 - i) dc, .slice (some ⟨vb, 0, none⟩) 1 1]).run Tryd.prog W = .ok (goInt 1) (W.setRow w.heap.size ((baC xs).take (i * 3) ++ y.cells ++ Zl.drop 3).toArray) := fun W hW hV ty dc => by
    have hmin : Nat.min 1 (xs.length + 1 - i) = 1 := by simp only [Nat.min_def]; split <;> omega
    have := run_copy_rowK (P := Tryd.prog) W 24 24 ty 32 3 w.heap.size (i * 3) (xs.length + 1 - i) dc ⟨vb, 0, none⟩ 1 1 _ 32 y.cells Tryd.underlying24 hsz hW (by rw [hmin]; rfl) (fun j v hj => by rw [add_lit0, Nat.zero_add, hV.cell]; simpa using hj) (by rw [List.size_toArray, List.length_append, hAl, hZl]; simp [Bal.cells]; omega) (by simp [Bal.cells, Value.oneCell'])
    rw [this, hmin]
    congr 2
    have e1 : ((baC xs).take (i * 3) ++ Zl).take (i * 3) = (baC xs).take (i * 3) := List.take_left' hAl
    have e2 : ((baC xs).take (i * 3) ++ Zl).drop (i * 3 + y.cells.length) = Zl.drop 3 := by
      rw [List.drop_append, List.drop_of_length_le (by rw [hAl]; omega), List.nil_append, hAl]
      congr 1
      simp [Bal.cells]
    simp only [e1, e2]
  have hyl : y.cells.length = 3 := rfl
  have hcpB : ∀ (W : World), Blk W w.heap.size 32 ((baC xs).take (i * 3) ++ y.cells ++ Zl.drop 3).toArray → (∀ j v, (baC xs)[j]? = some v → W.cell? ⟨g, j, none⟩ = some v) → ∀ ty dc sc, (Builtin.copy_ #[24, 24] ty #[.slice (some ⟨w.heap.size, (i + 1) * 3, none⟩) (xs.length + 1 - (i + 1)) dc, .slice (some ⟨g, i * 3, none⟩) (xs.length - i) sc]).run Tryd.prog W = .ok (goInt ((xs.length - i : Nat) : Int)) (W.setRow w.heap.size ((baC xs).take (i * 3) ++ y.cells ++ (baC xs).drop (i * 3) ++ Zl.drop (3 + (xs.length - i) * 3)).toArray) := fun W hW hR ty dc sc => by
    have hmin : Nat.min (xs.length - i) (xs.length + 1 - (i + 1)) = xs.length - i := by simp only [Nat.min_def]; split <;> omega
    have := run_copy_rowK (P := Tryd.prog) W 24 24 ty 32 3 w.heap.size ((i + 1) * 3) (xs.length + 1 - (i + 1)) dc ⟨g, i * 3, none⟩ (xs.length - i) sc _ 32 ((baC xs).drop (i * 3)) Tryd.underlying24 hsz hW (by rw [hmin, hDl]) (fun j v hj => by rw [add_lit']; exact hR _ v (by rwa [List.getElem?_drop] at hj)) (by simp only [List.size_toArray, List.length_append, hAl, hyl, List.length_drop, hZl, baC_len]; omega) (fun v hv => baC_one xs v (List.mem_of_mem_drop hv))
    rw [this, hmin]
    congr 2
    have e1 : ((baC xs).take (i * 3) ++ y.cells ++ Zl.drop 3).take ((i + 1) * 3) = (baC xs).take (i * 3) ++ y.cells := List.take_left' (by rw [List.length_append, hAl, hyl]; omega)
    have e2 : ((baC xs).take (i * 3) ++ y.cells ++ Zl.drop 3).drop ((i + 1) * 3 + ((baC xs).drop (i * 3)).length) = Zl.drop (3 + (xs.length - i) * 3) := by
      rw [List.drop_append, List.drop_of_length_le (by rw [List.length_append, hAl, hyl]; omega), List.nil_append, List.length_append, hAl, hyl, hDl, List.drop_drop]
      congr 1
      omega
    simp only [e1, e2]
  have HB := Lib.hid hb; have HV := Lib.hid hv; have HCS := Lib.hid hcs; have HCA := Lib.hid hcpA; have HCB := Lib.hid hcpB; have HRZ := Lib.hid hrz
  clear hown hold hcpA hcpB hrz hcs hv hb
  have hz2' : ¬ ((i : Int) = (xs.length : Int)) := by omega
  have mixed : Tryd.prog.follows Departure.mixedOrders = true := by kernel_rfl
  have hin : (i : Int) ≤ (xs.length : Int) := by omega
  have hw1 : IntKind.i64.wrap ((i : Int) + 1) = (i : Int) + 1 := IntWalk.i64_in _ (by omega)
  have htn : ((i : Int) + 1).toNat = i + 1 := by omega
  have hGi : ¬ (G = i) := by omega
  have hGim : ¬ (G = i + 1) := by omega
  have hni : ¬ (xs.length = i) := by omega
  have hb1 : (0 : Int) ≤ (i : Int) + 1 := by omega
  go_enter Tryd.func43, Tryd.ntmps43
  have B1 : Blk ((w.alloc (.cells ((baC xs).take (i * 3) ++ Zl).toArray 32)).drew) w.heap.size 32 ((baC xs).take (i * 3) ++ Zl).toArray := (Blk.new w _ _).drew
  have V1 : Blk ((w.alloc (.cells ((baC xs).take (i * 3) ++ Zl).toArray 32)).drew) vb 32 y.cells.toArray := (HV.out.alloc _).drew
  have C1 : ∀ j v, (baC xs)[j]? = some v → ((w.alloc (.cells ((baC xs).take (i * 3) ++ Zl).toArray 32)).drew).cell? ⟨g, j, none⟩ = some v := fun j v hj => (World.cell?_alloc_lt w _ ⟨g, j, none⟩ hgl).trans (HCS.out j v hj)
  have B2 := blk_row (ds := ((baC xs).take (i * 3) ++ y.cells ++ Zl.drop 3).toArray) B1
  have C2 : ∀ j v, (baC xs)[j]? = some v → (((w.alloc (.cells ((baC xs).take (i * 3) ++ Zl).toArray 32)).drew).setRow w.heap.size ((baC xs).take (i * 3) ++ y.cells ++ Zl.drop 3).toArray).cell? ⟨g, j, none⟩ = some v := fun j v hj => (World.cell?_of_block (setRow_other _ _ _ _ (by show g ≠ _; omega))).trans (C1 j v hj)
  have B3 := blk_row (ds := ((baC xs).take (i * 3) ++ y.cells ++ (baC xs).drop (i * 3) ++ Zl.drop (3 + (xs.length - i) * 3)).toArray) B2.drew
  have HB1 := Lib.hid B1; have HV1 := Lib.hid V1; have HB2 := Lib.hid B2; have HC2 := Lib.hid C2; have HB3 := Lib.hid B3
  clear B1 V1 C1 B2 C2 B3
  have HS3 := Lib.hid (show ((baC xs).take (i * 3) ++ y.cells ++ (baC xs).drop (i * 3) ++ Zl.drop (3 + (xs.length - i) * 3)).toArray.size = G * 3 by
    simp only [List.size_toArray, List.length_append, hAl, hyl, hDl, List.length_drop, hZl]; omega)
  have HT3 := Lib.hid (show ((baC xs).take (i * 3) ++ y.cells ++ (baC xs).drop (i * 3) ++ Zl.drop (3 + (xs.length - i) * 3)).toArray.toList.take ((xs.length + 1) * 3) = baC (insB xs i y) by
    rw [baC_ins]
    exact List.take_left' (by simp only [List.length_append, hAl, hyl, hDl]; omega))
  generalize ((baC xs).take (i * 3) ++ y.cells ++ (baC xs).drop (i * 3) ++ Zl.drop (3 + (xs.length - i) * 3)).toArray = R3 at HS3 HT3 HB3 HCB
  generalize ((baC xs).take (i * 3) ++ y.cells ++ Zl.drop 3).toArray = R2 at HB3 HB2 HC2 HCA HCB
  generalize ((baC xs).take (i * 3) ++ Zl).toArray = R1 at HB3 HB2 HC2 HCA HB1 HV1 HRZ
  go_wp2_with (first | (at_builtin; refine Lib.wpList_append_run _ rfl _ _ _ _ rfl _ _ rfl rfl _ _ (HRZ.out _) ?_) | ((with_reducible refine at_list ?_); refine wpList_copy_runI _ rfl (.tmp 43) (.tmp 44) 24 24 rfl _ _ rfl rfl (HCA.out _ HB1.out HV1.out _ _) ?_) | fail)
  go_region_law_o (refine step_copy_runI rfl _ _ 24 24 rfl (.slice (some ⟨w.heap.size, (i + 1) * 3, none⟩) (xs.length + 1 - (i + 1)) (G - (i + 1))) (.slice (some ⟨g, i * 3, none⟩) (xs.length - i) (xs.length - i)) (by simp [Act.eval, Act.put]) (by simp [Act.eval, Act.put]) (HCB.out _ HB2.out.drew HC2.out 3 (G - (i + 1)) (xs.length - i)) ?_)
  go_wp2
  go_ret
  exact ⟨_, rfl, ⟨by rw [baC_len, insB_len (by omega)], .inr ⟨w.heap.size, G, _, rfl, HB.out, HB3.out, by omega, hGm, HS3.out, HT3.out⟩⟩, below_row (below_row (((Below.refl base w).alloc HB.out _).drew) HB.out _).drew HB.out _⟩
end Go.Proofs.YtihhpmhigmegjaaDoor
