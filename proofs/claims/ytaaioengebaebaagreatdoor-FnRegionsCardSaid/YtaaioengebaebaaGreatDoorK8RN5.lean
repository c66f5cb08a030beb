/- NarrowestOf of both sides. -/
import Derived.Test.YtaaioengebaebaaGreatDoorRows
import Derived.Test.YtaaioengebaebaaGreatDoorK8GA
import Derived.WalkKit
import Derived.ProofKit
import Derived.OpenShut
import Derived.BigQuiet
import Derived.Outline
import Derived.WalkSpells
import Derived.WalkLawsBesides
import Derived.Deep.DeepCutAuto
import Derived.Test.YtaaioengebaebaaGreatDoorK8GL
namespace Go.Proofs.YtaaioengebaebaaGreatDoor
open Go.ChangeShapes Go.WideShapes Go.ChangeAt Go.RowKit Go.Sort

/-- The index of the first least value below k. -/
def leastTo (f : Nat → Int) : Nat → Nat
  | 0 => 0
  | k + 1 => if f k < f (leastTo f k) then k else leastTo f k
theorem leastTo_le (f : Nat → Int) (k : Nat) : leastTo f k ≤ k := by
  induction k with
  | zero => simp [leastTo]
  | succ k ih => rw [leastTo]; split <;> omega
theorem codeS_one {xs : List Sit} {ds : List Dsc} {d : Dsc} (h : codeS xs ds true = 0) (hd : d ∈ ds) : codeS xs [d] true = 0 := by
  unfold codeS at h ⊢
  split at h
  · next h1 =>
    split at h
    · exact absurd h (by decide)
    · next h2 =>
      simp only [Bool.true_and, Bool.and_eq_true, List.all_eq_true] at h1
      have h3 : missD xs d = false := by
        cases hh : missD xs d
        · rfl
        · exact absurd (List.any_eq_true.2 ⟨d, hd, hh⟩) h2
      rw [if_pos (by simp [h1.1, h1.2 d hd]), if_neg (by simp [h3]), if_neg (by simp)]
  · exact absurd h (by decide)
theorem has_one {w : World} {ds : List Dsc} {ab ao : Nat} (h2 : HasDsc w ds (some ⟨ab, ao, none⟩)) {k : Nat} (hk : k < ds.length) : HasDsc w [ds[k]] (some ⟨ab, ao + k * 6, none⟩) := by
  refine ⟨⟨dsC_len _, fun _ => ?_⟩, by simp, fun b hb => by simp at hb; subst hb; exact h2.2.2 _ (List.getElem_mem hk)⟩
  obtain ⟨b', o', e, hadb, hcell⟩ := h2.1.2 (by omega)
  cases e
  refine ⟨ab, ao + k * 6, rfl, hadb, fun j u hu => ?_⟩
  obtain ⟨e0, e1, e2, e3, e4, e5⟩ := dsC_get ds k hk
  have E : (dsC [ds[k]])[j]? = (#[Value.int .i64 ds[k].kind, .int .i64 ds[k].count, .string ds[k].unit, .int .i64 ds[k].dir, .string ds[k].a, .string ds[k].b].toList)[j]? := by simp [dsC, Dsc.cells]
  rw [E] at hu
  match j, hu with
  | 0, hu => cases hu; have := hcell _ _ e0; exact this
  | 1, hu => cases hu; have := hcell _ _ e1; rw [← Nat.add_assoc] at this; exact this
  | 2, hu => cases hu; have := hcell _ _ e2; rw [← Nat.add_assoc] at this; exact this
  | 3, hu => cases hu; have := hcell _ _ e3; rw [← Nat.add_assoc] at this; exact this
  | 4, hu => cases hu; have := hcell _ _ e4; rw [← Nat.add_assoc] at this; exact this
  | 5, hu => cases hu; have := hcell _ _ e5; rw [← Nat.add_assoc] at this; exact this
theorem run_one {P : Program} (t e : TypeId) (i : TypeInfo) (size : Nat) (ht : P.underlying t = some (.slice e)) (hi : P.info? e = some i) (hz : i.size = size) (ab ao n c k : Nat) (hk : k < n) (hc : n ≤ c) (w : World) :
    (Instr.sliceAt t (.slice (some ⟨ab, ao, none⟩) n c) (some (.int .i64 (k : Int))) (some (.int .i64 ((k : Int) + 1))) none).run P w = .ok (.slice (some ⟨ab, ao + k * size, none⟩) 1 (c - k)) w := by
  have he : P.elem t = e := by simp [Program.elem, ht]
  rw [run_sliceAt_slice w t _ _ _ _ (by rw [he]; exact ht), run_slice_lh w t _ n c (by rw [he]; exact ht) .i64 .i64 k (k + 1) (by omega) (by omega) (by omega), he]
  subst hz
  have hne : c ≠ k := by omega
  have h1 : ((k : Int) + 1).toNat = k + 1 := by omega
  simp [sizeOf, typeInfo, hi, sliced, hne, h1, Addr.add]
theorem infoD6 : (Tryz.prog.info? 79).map (fun i => i.size) = some 6 := by kernel_rfl
/-- The cells that one description allows. -/
def oneR (xs : List Sit) (ds : List Dsc) (x y W : Int) (n k : Nat) : List Bool := match ds[k]? with | some d => regB xs [d] x y W n | none => []
def oneF (xs : List Sit) (ds : List Dsc) (x y W : Int) (n k : Nat) : Int := cntM (oneR xs ds x y W n k)
def narP (xs : List Sit) (ds : List Dsc) (x y W H : Int) (n : Nat) : Int × Int :=
  if codeS xs ds (maskB x y W H n) = 0 then (if ds.length = 0 then (0, 4) else ((leastTo (oneF xs ds x y W n) ds.length : Nat), 0)) else (0, codeS xs ds (maskB x y W H n))
def maskIs (t : TypeId) (x y W H : Int) (n : Nat) (L : List Value) : Value → World → Prop := fun v w => ∃ g, v = .agg #[.int .i64 x, .int .i64 y, .int .i64 W, .int .i64 H, .slice (some ⟨g, 0, none⟩) n n] ∧ Blk w g t L.toArray
theorem keep_maskIs (t : TypeId) (x y W H : Int) (n : Nat) (L : List Value) : StableS KeepW (maskIs t x y W H n L) := fun _ _ _ h ⟨g, e, m⟩ => ⟨g, e, m.below h m.lt⟩
theorem cntM_pos (cs : List Bool) (h : cs.length ≤ 576) : 0 ≤ cntM cs := (one_bd cs h cs.length (Nat.le_refl _)).1
set_option maxRecDepth 100000 in
set_option maxHeartbeats 4000000 in
theorem specNarr_any (xs : List Sit) (ds : List Dsc) (x y W H : Int) (A B Am : Option Addr) (c d n cm : Nat) (hn : n ≤ 9223372036854775807) (w : World) (h : HasSit w xs A) (h2 : HasDsc w ds B) (hdc : ds.length ≤ d) :
    Calls Tryz.prog 22 #[.slice A xs.length c, .slice B ds.length d, maskV x y W H Am n cm] w fun e w' => e = .returned (.tuple #[.int .i64 (narP xs ds x y W H n).1, .int .i64 (narP xs ds x y W H n).2]) ∧ Below w.heap.size w w' := by
  have mixed : Tryz.prog.follows Departure.mixedOrders = true := by kernel_rfl
  have CB := Lib.hid (fun W' (hb : Below w.heap.size w W') => specBox_any xs ds x y W H A B Am c d n cm hn W' (h.below hb) (h2.below hb))
  have HV := Lib.hid (show narP xs ds x y W H n = if codeS xs ds (maskB x y W H n) = 0 then (if ds.length = 0 then (0, 4) else (((leastTo (oneF xs ds x y W n) ds.length : Nat) : Int), 0)) else (0, codeS xs ds (maskB x y W H n)) from rfl)
  have KN := Lib.hid (blks_one w 40 #[.int .i64 x, .int .i64 y, .int .i64 W, .int .i64 H, .slice Am n cm])
  generalize narP xs ds x y W H n = r at HV ⊢
  by_cases hz : codeS xs ds (maskB x y W H n) = 0
  rotate_left
  · rw [if_neg hz] at HV
    generalize codeS xs ds (maskB x y W H n) = code at hz CB HV
    have hz1 : (code != 0) = true := by simpa using hz
    have hz3 : (code == 0) = false := by simpa using hz
    clear hz h h2
    unfold maskV at CB ⊢
    go_enter Tryz.func22, Tryz.ntmps22
    go_wp2_with fail
    generalize hW : w.alloc (.cells #[.int .i64 x, .int .i64 y, .int .i64 W, .int .i64 H, .slice Am n cm] 40) = W0
    obtain ⟨km, bw, _⟩ := KN.out W0 hW.symm
    have KM := Lib.hid km; have BB := Lib.hid bw
    clear hW km bw KN
    obtain ⟨m0, m1, m2, m3, m4⟩ := cells_5 KM.out
    refine (CB.out W0 BB.out).mono ?_; rintro e w2 ⟨rfl, b2⟩
    have KM2 := Lib.hid (KM.out.below b2 KM.out.lt); have B2 := Lib.hid (BB.out.trans (b2.mono BB.out.size))
    clear m0 m1 m2 m3 m4 b2 KM BB
    go_wp2_with fail
    go_ret2
    exact ⟨by rw [HV.out]; rfl, B2.out⟩
  obtain ⟨hm, hz2⟩ := codeS_mask hz
  rw [if_pos hz] at HV
  rw [hz] at CB
  by_cases hl0 : ds.length = 0
  · rw [if_pos hl0] at HV
    have hb : ((ds.length : Int) == 0) = true := by simpa using hl0
    have hb1 : (ds.length : Int) = 0 := by omega
    clear h h2 hz hz2 hm hl0
    unfold maskV at CB ⊢
    go_enter Tryz.func22, Tryz.ntmps22
    go_wp2_with fail
    generalize hW : w.alloc (.cells #[.int .i64 x, .int .i64 y, .int .i64 W, .int .i64 H, .slice Am n cm] 40) = W0
    obtain ⟨km, bw, _⟩ := KN.out W0 hW.symm
    have KM := Lib.hid km; have BB := Lib.hid bw
    clear hW km bw KN
    obtain ⟨m0, m1, m2, m3, m4⟩ := cells_5 KM.out
    refine (CB.out W0 BB.out).mono ?_; rintro e w2 ⟨rfl, b2⟩
    have KM2 := Lib.hid (KM.out.below b2 KM.out.lt); have B2 := Lib.hid (BB.out.trans (b2.mono BB.out.size))
    clear m0 m1 m2 m3 m4 b2 KM BB
    go_wp2_with fail
    all_goals first
      | (go_ret2; exact ⟨by rw [HV.out]; rfl, B2.out⟩)
      | omega
  rw [if_neg hl0] at HV
  have hb : ((ds.length : Int) == 0) = false := by rw [beq_eq_false_iff_ne]; omega
  have hb1 : ¬ (ds.length : Int) = 0 := by omega
  have lD := h2.2.1
  obtain ⟨ab, ao, rfl, hadb, _⟩ := h2.1.2 (by omega)
  obtain ⟨_, _, _, _, _, _, _, _, hn6, _, _, _⟩ := mask_bd hm
  obtain ⟨i0, hi0, hi6⟩ : ∃ i, Tryz.prog.info? 79 = some i ∧ i.size = 6 := by
    have := infoD6
    cases hi : Tryz.prog.info? 79 with
    | none => rw [hi] at this; cases this
    | some i => rw [hi] at this; exact ⟨i, rfl, by simpa using this⟩
  have HSl := Lib.hid (fun k (hk : k < ds.length) W' => run_one (P := Tryz.prog) 37 79 i0 6 Tryz.underlying37 hi0 hi6 ab ao ds.length d k hk hdc W')
  have CR := Lib.hid (fun k (hk : k < ds.length) W' (hb : Below w.heap.size w W') => (show Calls Tryz.prog 59 #[.slice A xs.length c, .slice (some ⟨ab, ao + k * 6, none⟩) 1 (d - k), maskV x y W H Am n cm] W' (fun e w' => ∃ g, e = .returned (maskV x y W H (some ⟨g, 0, none⟩) n n) ∧ Blk w' g 4 (bC (oneR xs ds x y W n k)).toArray ∧ Below W'.heap.size W' w') from by
    have e : oneR xs ds x y W n k = regB xs [ds[k]] x y W n := by rw [oneR, List.getElem?_eq_getElem hk]
    rw [e]
    exact (specReg_any xs [ds[k]] (codeS_one hz2 (List.getElem_mem hk)) x y W H A (some ⟨ab, ao + k * 6, none⟩) Am c (d - k) n cm hm W' (h.below hb) ((has_one h2 hk).below hb)).mono (fun _ _ ⟨g, p1, _, p3, p4⟩ => ⟨g, p1, p3, p4⟩)))
  have HL := Lib.hid (fun k (hk : k < ds.length) => (show (oneR xs ds x y W n k).length = n by rw [oneR, List.getElem?_eq_getElem hk]; exact regB_len _ _ _ _ _ _))
  have CC := Lib.hid (fun k (hk : k < ds.length) g W' (hb : Blk W' g 4 (bC (oneR xs ds x y W n k)).toArray) => (show Calls Tryz.prog 58 #[maskV x y W H (some ⟨g, 0, none⟩) n n] W' (fun e w' => e = .returned (.int .i64 (oneF xs ds x y W n k)) ∧ Below W'.heap.size W' w') from by
    have := specCountM x y W H (some ⟨g, 0, none⟩) n (oneR xs ds x y W n k) (by rw [HL.out k hk]; exact hn6) W' (blk_rd hb (bC_len _))
    rw [HL.out k hk] at this
    exact this))
  have HP := Lib.hid (fun k (hk : k < ds.length) => (show 0 ≤ oneF xs ds x y W n k from cntM_pos _ (by rw [HL.out k hk]; exact hn6)))
  clear h h2 hz hz2 hm HL hi0 hi6 hl0 hadb
  generalize oneF xs ds x y W n = fo at CC HV HP
  generalize oneR xs ds x y W n = Ro at CC CR
  unfold maskV at CB CR CC ⊢
  go_enter Tryz.func22, Tryz.ntmps22
  go_wp2_with fail
  generalize hW : w.alloc (.cells #[.int .i64 x, .int .i64 y, .int .i64 W, .int .i64 H, .slice Am n cm] 40) = W0
  obtain ⟨km, bw, _⟩ := KN.out W0 hW.symm
  have KM := Lib.hid km; have BB := Lib.hid bw
  clear hW km bw KN
  obtain ⟨m0, m1, m2, m3, m4⟩ := cells_5 KM.out
  refine (CB.out W0 BB.out).mono ?_; rintro e w2 ⟨rfl, b2⟩
  have KM2 := Lib.hid (KM.out.below b2 KM.out.lt); have B2 := Lib.hid (BB.out.trans (b2.mono BB.out.size))
  clear m0 m1 m2 m3 m4 b2 KM BB
  go_wp2_with fail
  go_loopw [9, 10, 11] (fun v9 v10 vi wr => ∃ (k : Nat) (q : Int), k ≤ ds.length ∧ Hid (q = if k = 0 then -1 else fo (leastTo fo k)) ∧ Hid (Below w.heap.size w wr) ∧ Hid (Blk wr w.heap.size 40 #[.int .i64 x, .int .i64 y, .int .i64 W, .int .i64 H, .slice Am n cm]) ∧ v9 = .int .i64 (leastTo fo k : Nat) ∧ v10 = .int .i64 q ∧ vi = .int .i64 (k : Int)) (fun _ _ i _ => ds.length - (intOf i).toNat)
  case atStart => exact ⟨0, -1, by omega, rfl, B2.out, KM2.out, rfl, rfl, rfl⟩
  case round =>
    clear B2 KM2
    obtain ⟨k, q, hk, HQ, BW, KM, rfl, rfl, rfl⟩ := hrel
    by_cases hlt : k < ds.length
    · have hlt' : (k : Int) < (ds.length : Int) := by omega
      have hsl := fun W' => HSl.out k hlt W'
      have hw1 : IntKind.i64.wrap ((k : Int) + 1) = (k : Int) + 1 := IntWalk.i64_in _ (by omega)
      go_upto_region 10 with (fail)
      refine' wp_region_slots (OverW wr) KeepW [isV (.slice A xs.length c), isV (.slice (some ⟨ab, ao, none⟩) ds.length d), isV (.int .i64 (k : Int)), isV (.int .i64 (k : Int)), isV (.int .i64 ((k : Int) + 1)), isV (.slice (some ⟨ab, ao + k * 6, none⟩) 1 (d - k)), isV (.agg #[.int .i64 x, .int .i64 y, .int .i64 W, .int .i64 H, .slice Am n cm]), maskIs 4 x y W H n (bC (Ro k)), isV (.int .i64 (fo k))] mixed (by kernel_rfl) (by kernel_rfl) (OverW.drew (Below.refl _ _)) ?_ _ _ ?_ ?_ ?_
      · exact AllStable.cons (keep_V _) (AllStable.cons (keep_V _) (AllStable.cons (keep_V _) (AllStable.cons (keep_V _) (AllStable.cons (keep_V _) (AllStable.cons (keep_V _) (AllStable.cons (keep_V _) (AllStable.cons (keep_maskIs _ _ _ _ _ _ _) (AllStable.cons (keep_V _) (AllStable.nil)))))))))
      rotate_left 2
      · intro f; simp only [lay, List.setIfInBounds_toArray, List.set_cons_succ, List.set_cons_zero, Nat.reduceAdd]; exact rfl
      · refine AllTo.cons ?_ ?_
        · intro f v hS hT K hK
          simp only [Act.put, List.setIfInBounds_toArray, List.set_cons_succ, List.set_cons_zero] at hK
          go_simp
          exact hK.out _ _ rfl hS (keep_refl _)
        refine AllTo.cons ?_ ?_
        · intro f v hS hT K hK
          simp only [Act.put, List.setIfInBounds_toArray, List.set_cons_succ, List.set_cons_zero] at hK
          go_simp
          exact hK.out _ _ rfl hS (keep_refl _)
        refine AllTo.cons ?_ ?_
        · intro f v hS hT K hK
          simp only [Act.put, List.setIfInBounds_toArray, List.set_cons_succ, List.set_cons_zero] at hK
          go_simp
          exact hK.out _ _ rfl hS (keep_refl _)
        refine AllTo.cons ?_ ?_
        · intro f v hS hT K hK
          simp only [Act.put, List.setIfInBounds_toArray, List.set_cons_succ, List.set_cons_zero] at hK
          go_simp
          exact hK.out _ _ rfl hS (keep_refl _)
        refine AllTo.cons ?_ ?_
        · intro f v hS hT K hK
          have e3 := hT 3 _ rfl rfl
          dsimp only [isV] at e3
          simp only [Act.put, List.setIfInBounds_toArray, List.set_cons_succ, List.set_cons_zero, e3] at hK
          go_simp
          exact hK.out _ _ rfl hS (keep_refl _)
        refine AllTo.cons ?_ ?_
        · intro f v hS hT K hK
          have e1 := hT 1 _ rfl rfl
          dsimp only [isV] at e1
          have e2 := hT 2 _ rfl rfl
          dsimp only [isV] at e2
          have e4 := hT 4 _ rfl rfl
          dsimp only [isV] at e4
          simp only [Act.put, List.setIfInBounds_toArray, List.set_cons_succ, List.set_cons_zero, e1, e2, e4] at hK
          go_simp
          exact hK.out _ _ rfl hS (keep_refl _)
        refine AllTo.cons ?_ ?_
        · intro f v hS hT K hK
          obtain ⟨m0, m1, m2, m3, m4⟩ := cells_5 (KM.out.below hS KM.out.lt)
          simp only [Act.put, List.setIfInBounds_toArray, List.set_cons_succ, List.set_cons_zero] at hK
          go_simp
          exact hK.out _ _ rfl hS (keep_refl _)
        refine AllTo.cons ?_ ?_
        · intro f v hS hT K hK
          have e0 := hT 0 _ rfl rfl
          dsimp only [isV] at e0
          have e5 := hT 5 _ rfl rfl
          dsimp only [isV] at e5
          have e6 := hT 6 _ rfl rfl
          dsimp only [isV] at e6
          simp only [Act.put, List.setIfInBounds_toArray, List.set_cons_succ, List.set_cons_zero, e0, e5, e6] at hK
          go_simp
          refine (CR.out k hlt v (BW.out.trans (hS.mono BW.out.size))).mono ?_
          rintro e w1 ⟨g, rfl, hkk, b1⟩
          exact hK.out _ _ ⟨g, rfl, hkk⟩ (hS.go b1) b1
        refine AllTo.cons ?_ ?_
        · intro f v hS hT K hK
          obtain ⟨g7, e7, q7⟩ := hT 7 _ rfl rfl
          simp only [Act.put, List.setIfInBounds_toArray, List.set_cons_succ, List.set_cons_zero, e7] at hK
          go_simp
          refine (CC.out k hlt g7 v q7).mono ?_
          rintro e w1 ⟨rfl, b1⟩
          exact hK.out _ _ rfl (hS.go b1) b1
        exact AllTo.nil
      · intro f v hS hT K hK
        have e := hT 8 _ rfl
        dsimp only [isV] at e
        rw [e]
        clear e hT
        have B3 := Lib.hid (BW.out.trans (hS.mono BW.out.size)); have KM3 := Lib.hid (KM.out.below hS KM.out.lt)
        clear hS hsl
        go_simp
        refine hK.out _ _ ?_
        clear hK K
        have hfk := HP.out k hlt
        by_cases hq0 : q < 0
        · have HN := Lib.hid (show leastTo fo (k + 1) = k by
            rw [leastTo]
            have h1 := HQ.out
            by_cases hk0 : k = 0
            · subst hk0
              split
              · rfl
              · rfl
            · rw [if_neg hk0] at h1
              have := HP.out (leastTo fo k) (by have := leastTo_le fo k; omega)
              omega)
          go_wp2_with fail
          go_roundw
          case rel => exact ⟨k + 1, fo k, by omega, (show fo k = if k + 1 = 0 then -1 else fo (leastTo fo (k + 1)) by rw [if_neg (by omega), HN.out]), B3.out, KM3.out, by rw [HN.out], rfl, by go_num⟩
          case measure => simp [intOf]; omega
        have hk0 : k ≠ 0 := fun h => by have h1 := HQ.out; rw [if_pos h] at h1; omega
        have HQ2 := Lib.hid (HQ.out.trans (if_neg hk0))
        by_cases hq : fo k < q
        · have HN := Lib.hid (show leastTo fo (k + 1) = k by rw [leastTo, if_pos (by have := HQ2.out; omega)])
          clear hk0
          go_wp2_with fail
          go_roundw
          case rel => exact ⟨k + 1, fo k, by omega, (show fo k = if k + 1 = 0 then -1 else fo (leastTo fo (k + 1)) by rw [if_neg (by omega), HN.out]), B3.out, KM3.out, by rw [HN.out], rfl, by go_num⟩
          case measure => simp [intOf]; omega
        · have HN := Lib.hid (show leastTo fo (k + 1) = leastTo fo k by rw [leastTo, if_neg (by have := HQ2.out; omega)])
          clear hk0
          go_wp2_with fail
          go_roundw
          case rel => exact ⟨k + 1, q, by omega, (show q = if k + 1 = 0 then -1 else fo (leastTo fo (k + 1)) by rw [if_neg (by omega), HN.out]; exact HQ2.out), B3.out, KM3.out, by rw [HN.out], rfl, by go_num⟩
          case measure => simp [intOf]; omega
    · obtain rfl : k = ds.length := by omega
      go_wp2_with fail
      go_ret2
      exact ⟨by rw [HV.out]; rfl, BW.out⟩
set_option maxRecDepth 100000 in
set_option maxHeartbeats 4000000 in
theorem implNarr_any (xs : List Sit) (ds : List Dsc) (x y W H : Int) (A B Am : Option Addr) (c d n cm : Nat) (hn : n ≤ 9223372036854775807) (w : World) (h : HasSit w xs A) (h2 : HasDsc w ds B) (hdc : ds.length ≤ d) (hdir : Dirs w) :
    Calls Tryz.prog 23 #[.slice A xs.length c, .slice B ds.length d, maskV x y W H Am n cm] w fun e w' => e = .returned (.tuple #[.int .i64 (narP xs ds x y W H n).1, .int .i64 (narP xs ds x y W H n).2]) ∧ Below w.heap.size w w' := by
  have mixed : Tryz.prog.follows Departure.mixedOrders = true := by kernel_rfl
  have CM := Lib.hid (implMask x y W H Am n cm hn)
  have CB := Lib.hid (fun W' (hb : Below w.heap.size w W') => implCodeS_any xs ds (maskB x y W H n) A B c d W' (h.below hb) (h2.below hb) (hdir.below hb))
  have HV := Lib.hid (show narP xs ds x y W H n = if codeS xs ds (maskB x y W H n) = 0 then (if ds.length = 0 then (0, 4) else (((leastTo (oneF xs ds x y W n) ds.length : Nat) : Int), 0)) else (0, codeS xs ds (maskB x y W H n)) from rfl)
  have KN := Lib.hid (blks_one w 40 #[.int .i64 x, .int .i64 y, .int .i64 W, .int .i64 H, .slice Am n cm])
  generalize narP xs ds x y W H n = r at HV ⊢
  by_cases hz : codeS xs ds (maskB x y W H n) = 0
  rotate_left
  · rw [if_neg hz] at HV
    generalize codeS xs ds (maskB x y W H n) = code at hz CB HV
    have hz1 : (code != 0) = true := by simpa using hz
    have hz3 : (code == 0) = false := by simpa using hz
    clear hz h h2 hdir
    generalize maskB x y W H n = mb at CM CB
    unfold maskV at CM ⊢
    go_enter Tryz.func23, Tryz.ntmps23
    go_wp2_with fail
    generalize hW : w.alloc (.cells #[.int .i64 x, .int .i64 y, .int .i64 W, .int .i64 H, .slice Am n cm] 40) = W0
    obtain ⟨km, bw, _⟩ := KN.out W0 hW.symm
    have KM := Lib.hid km; have BB := Lib.hid bw
    clear hW km bw KN
    obtain ⟨m0, m1, m2, m3, m4⟩ := cells_5 KM.out
    refine (CM.out W0).mono ?_; rintro e w1 ⟨rfl, b1⟩
    have KM1 := Lib.hid (KM.out.below b1 KM.out.lt); have B1 := Lib.hid (BB.out.trans (b1.mono BB.out.size))
    clear m0 m1 m2 m3 m4 b1 KM BB
    go_wp2_with fail
    refine (CB.out w1 B1.out).mono ?_; rintro e w2 ⟨rfl, b2⟩
    have KM2 := Lib.hid (KM1.out.below b2 KM1.out.lt); have B2 := Lib.hid (B1.out.trans (b2.mono B1.out.size))
    clear b2 KM1 B1
    go_wp2_with fail
    go_ret2
    exact ⟨by rw [HV.out]; rfl, B2.out⟩
  obtain ⟨hm, hz2⟩ := codeS_mask hz
  rw [if_pos hz] at HV
  rw [hz] at CB
  rw [hm] at CM CB
  by_cases hl0 : ds.length = 0
  · rw [if_pos hl0] at HV
    have hb : ((ds.length : Int) == 0) = true := by simpa using hl0
    have hb1 : (ds.length : Int) = 0 := by omega
    clear h h2 hz hz2 hm hdir hl0
    unfold maskV at CM ⊢
    go_enter Tryz.func23, Tryz.ntmps23
    go_wp2_with fail
    generalize hW : w.alloc (.cells #[.int .i64 x, .int .i64 y, .int .i64 W, .int .i64 H, .slice Am n cm] 40) = W0
    obtain ⟨km, bw, _⟩ := KN.out W0 hW.symm
    have KM := Lib.hid km; have BB := Lib.hid bw
    clear hW km bw KN
    obtain ⟨m0, m1, m2, m3, m4⟩ := cells_5 KM.out
    refine (CM.out W0).mono ?_; rintro e w1 ⟨rfl, b1⟩
    have KM1 := Lib.hid (KM.out.below b1 KM.out.lt); have B1 := Lib.hid (BB.out.trans (b1.mono BB.out.size))
    clear m0 m1 m2 m3 m4 b1 KM BB
    go_wp2_with fail
    refine (CB.out w1 B1.out).mono ?_; rintro e w2 ⟨rfl, b2⟩
    have KM2 := Lib.hid (KM1.out.below b2 KM1.out.lt); have B2 := Lib.hid (B1.out.trans (b2.mono B1.out.size))
    clear b2 KM1 B1
    go_wp2_with fail
    all_goals first
      | (go_ret2; exact ⟨by rw [HV.out]; rfl, B2.out⟩)
      | omega
  rw [if_neg hl0] at HV
  have hb : ((ds.length : Int) == 0) = false := by rw [beq_eq_false_iff_ne]; omega
  have hb1 : ¬ (ds.length : Int) = 0 := by omega
  have lD := h2.2.1
  obtain ⟨ab, ao, rfl, hadb, _⟩ := h2.1.2 (by omega)
  obtain ⟨_, _, _, _, _, _, _, _, hn6, _, _, _⟩ := mask_bd hm
  obtain ⟨i0, hi0, hi6⟩ : ∃ i, Tryz.prog.info? 79 = some i ∧ i.size = 6 := by
    have := infoD6
    cases hi : Tryz.prog.info? 79 with
    | none => rw [hi] at this; cases this
    | some i => rw [hi] at this; exact ⟨i, rfl, by simpa using this⟩
  have HSl := Lib.hid (fun k (hk : k < ds.length) W' => run_one (P := Tryz.prog) 37 79 i0 6 Tryz.underlying37 hi0 hi6 ab ao ds.length d k hk hdc W')
  have CR := Lib.hid (fun k (hk : k < ds.length) W' (hb : Below w.heap.size w W') => (show Calls Tryz.prog 60 #[.slice A xs.length c, .slice (some ⟨ab, ao + k * 6, none⟩) 1 (d - k), maskV x y W H Am n cm] W' (fun e w' => ∃ g, e = .returned (maskV x y W H (some ⟨g, 0, none⟩) n n) ∧ Blk w' g 4 (bC (oneR xs ds x y W n k)).toArray ∧ Below W'.heap.size W' w') from by
    have e : oneR xs ds x y W n k = regB xs [ds[k]] x y W n := by rw [oneR, List.getElem?_eq_getElem hk]
    rw [e]
    exact (implReg_any xs [ds[k]] (codeS_one hz2 (List.getElem_mem hk)) x y W H A (some ⟨ab, ao + k * 6, none⟩) Am c (d - k) n cm hm W' (h.below hb) ((has_one h2 hk).below hb)).mono (fun _ _ ⟨g, p1, _, p3, p4⟩ => ⟨g, p1, p3, p4⟩)))
  have HL := Lib.hid (fun k (hk : k < ds.length) => (show (oneR xs ds x y W n k).length = n by rw [oneR, List.getElem?_eq_getElem hk]; exact regB_len _ _ _ _ _ _))
  have CC := Lib.hid (fun k (hk : k < ds.length) g W' (hb : Blk W' g 4 (bC (oneR xs ds x y W n k)).toArray) => (show Calls Tryz.prog 61 #[maskV x y W H (some ⟨g, 0, none⟩) n n] W' (fun e w' => e = .returned (.int .i64 (oneF xs ds x y W n k)) ∧ Below W'.heap.size W' w') from by
    have := implCountM x y W H (some ⟨g, 0, none⟩) n (oneR xs ds x y W n k) (by rw [HL.out k hk]; exact hn6) W' (blk_rd hb (bC_len _))
    rw [HL.out k hk] at this
    exact this))
  have HP := Lib.hid (fun k (hk : k < ds.length) => (show 0 ≤ oneF xs ds x y W n k from cntM_pos _ (by rw [HL.out k hk]; exact hn6)))
  clear h h2 hz hz2 hm HL hdir hi0 hi6 hl0 hadb
  generalize oneF xs ds x y W n = fo at CC HV HP
  generalize oneR xs ds x y W n = Ro at CC CR
  unfold maskV at CM CR CC ⊢
  go_enter Tryz.func23, Tryz.ntmps23
  go_wp2_with fail
  generalize hW : w.alloc (.cells #[.int .i64 x, .int .i64 y, .int .i64 W, .int .i64 H, .slice Am n cm] 40) = W0
  obtain ⟨km, bw, _⟩ := KN.out W0 hW.symm
  have KM := Lib.hid km; have BB := Lib.hid bw
  clear hW km bw KN
  obtain ⟨m0, m1, m2, m3, m4⟩ := cells_5 KM.out
  refine (CM.out W0).mono ?_; rintro e w1 ⟨rfl, b1⟩
  have KM1 := Lib.hid (KM.out.below b1 KM.out.lt); have B1 := Lib.hid (BB.out.trans (b1.mono BB.out.size))
  clear m0 m1 m2 m3 m4 b1 KM BB
  go_wp2_with fail
  refine (CB.out w1 B1.out).mono ?_; rintro e w2 ⟨rfl, b2⟩
  have KM2 := Lib.hid (KM1.out.below b2 KM1.out.lt); have B2 := Lib.hid (B1.out.trans (b2.mono B1.out.size))
  clear b2 KM1 B1
  go_wp2_with fail
  go_loopw [9, 10, 28] (fun v9 v10 vi wr => ∃ (k : Nat) (q : Int), k ≤ ds.length ∧ Hid (q = if k = 0 then -1 else fo (leastTo fo k)) ∧ Hid (Below w.heap.size w wr) ∧ Hid (Blk wr w.heap.size 40 #[.int .i64 x, .int .i64 y, .int .i64 W, .int .i64 H, .slice Am n cm]) ∧ v9 = .int .i64 (leastTo fo k : Nat) ∧ v10 = .int .i64 q ∧ vi = .int .i64 (k : Int)) (fun _ _ i _ => ds.length - (intOf i).toNat)
  case atStart => exact ⟨0, -1, by omega, rfl, B2.out, KM2.out, rfl, rfl, rfl⟩
  case round =>
    clear B2 KM2
    obtain ⟨k, q, hk, HQ, BW, KM, rfl, rfl, rfl⟩ := hrel
    by_cases hlt : k < ds.length
    · have hlt' : (k : Int) < (ds.length : Int) := by omega
      have hsl := fun W' => HSl.out k hlt W'
      have hw1 : IntKind.i64.wrap ((k : Int) + 1) = (k : Int) + 1 := IntWalk.i64_in _ (by omega)
      go_upto_region 10 with (fail)
      refine' wp_region_slots (OverW wr) KeepW [isV (.slice A xs.length c), isV (.slice (some ⟨ab, ao, none⟩) ds.length d), isV (.int .i64 (k : Int)), isV (.int .i64 (k : Int)), isV (.int .i64 ((k : Int) + 1)), isV (.slice (some ⟨ab, ao + k * 6, none⟩) 1 (d - k)), isV (.agg #[.int .i64 x, .int .i64 y, .int .i64 W, .int .i64 H, .slice Am n cm]), maskIs 4 x y W H n (bC (Ro k)), isV (.int .i64 (fo k))] mixed (by kernel_rfl) (by kernel_rfl) (OverW.drew (Below.refl _ _)) ?_ _ _ ?_ ?_ ?_
      · exact AllStable.cons (keep_V _) (AllStable.cons (keep_V _) (AllStable.cons (keep_V _) (AllStable.cons (keep_V _) (AllStable.cons (keep_V _) (AllStable.cons (keep_V _) (AllStable.cons (keep_V _) (AllStable.cons (keep_maskIs _ _ _ _ _ _ _) (AllStable.cons (keep_V _) (AllStable.nil)))))))))
      rotate_left 2
      · intro f; simp only [lay, List.setIfInBounds_toArray, List.set_cons_succ, List.set_cons_zero, Nat.reduceAdd]; exact rfl
      · refine AllTo.cons ?_ ?_
        · intro f v hS hT K hK
          simp only [Act.put, List.setIfInBounds_toArray, List.set_cons_succ, List.set_cons_zero] at hK
          go_simp
          exact hK.out _ _ rfl hS (keep_refl _)
        refine AllTo.cons ?_ ?_
        · intro f v hS hT K hK
          simp only [Act.put, List.setIfInBounds_toArray, List.set_cons_succ, List.set_cons_zero] at hK
          go_simp
          exact hK.out _ _ rfl hS (keep_refl _)
        refine AllTo.cons ?_ ?_
        · intro f v hS hT K hK
          simp only [Act.put, List.setIfInBounds_toArray, List.set_cons_succ, List.set_cons_zero] at hK
          go_simp
          exact hK.out _ _ rfl hS (keep_refl _)
        refine AllTo.cons ?_ ?_
        · intro f v hS hT K hK
          simp only [Act.put, List.setIfInBounds_toArray, List.set_cons_succ, List.set_cons_zero] at hK
          go_simp
          exact hK.out _ _ rfl hS (keep_refl _)
        refine AllTo.cons ?_ ?_
        · intro f v hS hT K hK
          have e3 := hT 3 _ rfl rfl
          dsimp only [isV] at e3
          simp only [Act.put, List.setIfInBounds_toArray, List.set_cons_succ, List.set_cons_zero, e3] at hK
          go_simp
          exact hK.out _ _ rfl hS (keep_refl _)
        refine AllTo.cons ?_ ?_
        · intro f v hS hT K hK
          have e1 := hT 1 _ rfl rfl
          dsimp only [isV] at e1
          have e2 := hT 2 _ rfl rfl
          dsimp only [isV] at e2
          have e4 := hT 4 _ rfl rfl
          dsimp only [isV] at e4
          simp only [Act.put, List.setIfInBounds_toArray, List.set_cons_succ, List.set_cons_zero, e1, e2, e4] at hK
          go_simp
          exact hK.out _ _ rfl hS (keep_refl _)
        refine AllTo.cons ?_ ?_
        · intro f v hS hT K hK
          obtain ⟨m0, m1, m2, m3, m4⟩ := cells_5 (KM.out.below hS KM.out.lt)
          simp only [Act.put, List.setIfInBounds_toArray, List.set_cons_succ, List.set_cons_zero] at hK
          go_simp
          exact hK.out _ _ rfl hS (keep_refl _)
        refine AllTo.cons ?_ ?_
        · intro f v hS hT K hK
          have e0 := hT 0 _ rfl rfl
          dsimp only [isV] at e0
          have e5 := hT 5 _ rfl rfl
          dsimp only [isV] at e5
          have e6 := hT 6 _ rfl rfl
          dsimp only [isV] at e6
          simp only [Act.put, List.setIfInBounds_toArray, List.set_cons_succ, List.set_cons_zero, e0, e5, e6] at hK
          go_simp
          refine (CR.out k hlt v (BW.out.trans (hS.mono BW.out.size))).mono ?_
          rintro e w1 ⟨g, rfl, hkk, b1⟩
          exact hK.out _ _ ⟨g, rfl, hkk⟩ (hS.go b1) b1
        refine AllTo.cons ?_ ?_
        · intro f v hS hT K hK
          obtain ⟨g7, e7, q7⟩ := hT 7 _ rfl rfl
          simp only [Act.put, List.setIfInBounds_toArray, List.set_cons_succ, List.set_cons_zero, e7] at hK
          go_simp
          refine (CC.out k hlt g7 v q7).mono ?_
          rintro e w1 ⟨rfl, b1⟩
          exact hK.out _ _ rfl (hS.go b1) b1
        exact AllTo.nil
      · intro f v hS hT K hK
        have e := hT 8 _ rfl
        dsimp only [isV] at e
        rw [e]
        clear e hT
        have B3 := Lib.hid (BW.out.trans (hS.mono BW.out.size)); have KM3 := Lib.hid (KM.out.below hS KM.out.lt)
        clear hS hsl
        go_simp
        refine hK.out _ _ ?_
        clear hK K
        have hfk := HP.out k hlt
        by_cases hq0 : q < 0
        · have HN := Lib.hid (show leastTo fo (k + 1) = k by
            rw [leastTo]
            have h1 := HQ.out
            by_cases hk0 : k = 0
            · subst hk0
              split
              · rfl
              · rfl
            · rw [if_neg hk0] at h1
              have := HP.out (leastTo fo k) (by have := leastTo_le fo k; omega)
              omega)
          go_wp2_with fail
          go_roundw
          case rel => exact ⟨k + 1, fo k, by omega, (show fo k = if k + 1 = 0 then -1 else fo (leastTo fo (k + 1)) by rw [if_neg (by omega), HN.out]), B3.out, KM3.out, by rw [HN.out], rfl, by go_num⟩
          case measure => simp [intOf]; omega
        have hk0 : k ≠ 0 := fun h => by have h1 := HQ.out; rw [if_pos h] at h1; omega
        have HQ2 := Lib.hid (HQ.out.trans (if_neg hk0))
        by_cases hq : fo k < q
        · have HN := Lib.hid (show leastTo fo (k + 1) = k by rw [leastTo, if_pos (by have := HQ2.out; omega)])
          clear hk0
          go_wp2_with fail
          go_roundw
          case rel => exact ⟨k + 1, fo k, by omega, (show fo k = if k + 1 = 0 then -1 else fo (leastTo fo (k + 1)) by rw [if_neg (by omega), HN.out]), B3.out, KM3.out, by rw [HN.out], rfl, by go_num⟩
          case measure => simp [intOf]; omega
        · have HN := Lib.hid (show leastTo fo (k + 1) = leastTo fo k by rw [leastTo, if_neg (by have := HQ2.out; omega)])
          clear hk0
          go_wp2_with fail
          go_roundw
          case rel => exact ⟨k + 1, q, by omega, (show q = if k + 1 = 0 then -1 else fo (leastTo fo (k + 1)) by rw [if_neg (by omega), HN.out]; exact HQ2.out), B3.out, KM3.out, by rw [HN.out], rfl, by go_num⟩
          case measure => simp [intOf]; omega
    · obtain rfl : k = ds.length := by omega
      go_wp2_with fail
      go_ret2
      exact ⟨by rw [HV.out]; rfl, BW.out⟩
end Go.Proofs.YtaaioengebaebaaGreatDoor
