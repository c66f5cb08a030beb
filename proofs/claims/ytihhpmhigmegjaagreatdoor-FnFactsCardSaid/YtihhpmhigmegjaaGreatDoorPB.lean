/- Merged: Lists of lists of indices in memory; the reference's l22All. l24Counts, IsPossible and IsCertain of the reference. Whether what a repair leaves tells a fact, by the program; ContainsFunc at that. -/
import Derived.Test.YtihhpmhigmegjaaGreatDoorRows
import Derived.Test.YtihhpmhigmegjaaGreatDoorL0
import Derived.Test.YtihhpmhigmegjaaGreatDoorM0
import Derived.WalkKit
import Derived.ProofKit
import Derived.OpenShut
import Derived.BigQuiet
import Derived.Outline
import Derived.WalkSpells
import Derived.WalkLawsBesides
import Derived.Deep.DeepCutAuto
import Derived.Test.YtihhpmhigmegjaaGreatDoorPA
import Derived.Test.YtihhpmhigmegjaaGreatDoorO7
namespace Go.Proofs.YtihhpmhigmegjaaGreatDoor
open Go.ChangeShapes Go.WideShapes Go.ChangeAt Go.RowKit Go.Sort

theorem infoRow : (Tryz.prog.info? 31).map (fun i => (i.zero, i.size, i.bytes)) = some (some (.slice none 0 0), 1, 24) := by kernel_rfl
/-- A slice value that reads as a list of indices, its block at lo or behind, and not g. -/
def ElemAt (w : World) (lo : Nat) (g : Option Nat) (v : Value) (L : List Nat) : Prop :=
  ∃ A c, v = .slice A L.length c ∧ L.length ≤ c ∧ c ≤ 9223372036854775807 ∧ (0 < L.length → ∃ b off, A = some ⟨b, off, none⟩ ∧ lo ≤ b ∧ b < w.heap.size ∧ g ≠ some b ∧ ∀ j u, (inC (ints L))[j]? = some u → w.cell? ⟨b, off + j, none⟩ = some u)
theorem ElemAt.reads {w : World} {lo : Nat} {g : Option Nat} {L : List Nat} {A : Option Addr} {c : Nat} (h : ElemAt w lo g (.slice A L.length c) L) : Reads w w.heap.size 1 A L.length (inC (ints L)) ∧ L.length ≤ c ∧ c ≤ 9223372036854775807 := by
  obtain ⟨A', c', e, h1, h2, h3⟩ := h
  simp only [Value.slice.injEq, true_and] at e
  obtain ⟨rfl, rfl⟩ := e
  refine ⟨⟨by rw [inC_ints_len]; omega, fun h0 => ?_⟩, h1, h2⟩
  obtain ⟨b, off, e, _, hb, _, hc⟩ := h3 h0
  exact ⟨b, off, e, hb, hc⟩
theorem ElemAt.below {w w' : World} {lo : Nat} {g : Option Nat} {v : Value} {L : List Nat} (h : ElemAt w lo g v L) (hb : Below w.heap.size w w') : ElemAt w' lo g v L := by
  obtain ⟨A, c, e, h1, h2, h3⟩ := h
  refine ⟨A, c, e, h1, h2, fun h0 => ?_⟩
  obtain ⟨b, off, e, hl, hbb, hg, hc⟩ := h3 h0
  exact ⟨b, off, e, hl, Nat.lt_of_lt_of_le hbb hb.size, hg, fun j u hu => (hb.cell (p := ⟨b, off + j, none⟩) hbb).trans (hc j u hu)⟩
theorem ElemAt.grown {w w' : World} {lo : Nat} {g : Option Nat} {v : Value} {L : List Nat} (h : ElemAt w lo g v L) (hg' : w.grownBy w' g) : ElemAt w' lo g v L := by
  obtain ⟨A, c, e, h1, h2, h3⟩ := h
  refine ⟨A, c, e, h1, h2, fun h0 => ?_⟩
  obtain ⟨b, off, e, hl, hbb, hg, hc⟩ := h3 h0
  exact ⟨b, off, e, hl, Nat.lt_of_lt_of_le hbb hg'.size, hg, fun j u hu => (hg'.cell_far ⟨b, off + j, none⟩ hbb (fun h => hg h.symm)).trans (hc j u hu)⟩
theorem ElemAt.move {w : World} {lo lo' : Nat} {g g' : Option Nat} {v : Value} {L : List Nat} (h : ElemAt w lo g v L) (hl : lo' ≤ lo) (hg : ∀ b, g' = some b → g = some b ∨ b < lo ∨ w.heap.size ≤ b) : ElemAt w lo' g' v L := by
  obtain ⟨A, c, e, h1, h2, h3⟩ := h
  refine ⟨A, c, e, h1, h2, fun h0 => ?_⟩
  obtain ⟨b, off, e, hlb, hbb, hgb, hc⟩ := h3 h0
  refine ⟨b, off, e, by omega, hbb, fun h => ?_, hc⟩
  rcases hg b h with h1 | h1 | h1
  · exact hgb h1
  · omega
  · omega
theorem elem_own {w : World} {base lo : Nat} {g : Option Nat} {L : List Nat} {A : Option Addr} {c : Nat} (h : w.ownsRow base 2 1 (.slice A L.length c) L.length (inC (ints L))) (hl : lo ≤ base) (hg : ∀ b, g = some b → b < base) : ElemAt w lo g (.slice A L.length c) L := by
  obtain ⟨_, _, e, hcap⟩ := own_shape h
  simp only [Value.slice.injEq, true_and] at e
  obtain ⟨rfl, rfl⟩ := e
  have hr := Reads.of_own h
  refine ⟨A, c, rfl, hcap, ?_, fun h0 => ?_⟩
  · rcases h.2 with ⟨e, _⟩ | ⟨_, cap, _, e, _, _, _, hm, _⟩
    · simp only [Value.slice.injEq] at e; omega
    · simp only [Value.slice.injEq] at e
      unfold maxLen at hm; omega
  · obtain ⟨b, off, rfl, hb, hc⟩ := hr.2 h0
    have hlt := (own_lt h b rfl).1
    exact ⟨b, off, rfl, by omega, hb, fun h => by have := hg b h; omega, hc⟩
/-- Values that read so, one by one. -/
def Elems (w : World) (lo : Nat) (g : Option Nat) (vs : List Value) (LL : List (List Nat)) : Prop := vs.length = LL.length ∧ ∀ (k : Nat) v L, vs[k]? = some v → LL[k]? = some L → ElemAt w lo g v L
theorem Elems.nil_ {w : World} {lo : Nat} {g : Option Nat} : Elems w lo g [] [] := ⟨rfl, fun k v L h => by simp at h⟩
theorem Elems.one {w : World} {lo : Nat} {g : Option Nat} {v : Value} {L : List Nat} (h : ElemAt w lo g v L) : Elems w lo g [v] [L] := ⟨rfl, fun k v' L' h1 h2 => by
  match k with
  | 0 => simp at h1 h2; subst h1; subst h2; exact h
  | k + 1 => simp at h1⟩
theorem Elems.app {w : World} {lo : Nat} {g : Option Nat} {vs us : List Value} {LL MM : List (List Nat)} (h1 : Elems w lo g vs LL) (h2 : Elems w lo g us MM) : Elems w lo g (vs ++ us) (LL ++ MM) := by
  refine ⟨by simp [h1.1, h2.1], fun k v L hv hL => ?_⟩
  rcases Nat.lt_or_ge k vs.length with hk | hk
  · rw [List.getElem?_append_left hk] at hv
    rw [List.getElem?_append_left (by rw [← h1.1]; exact hk)] at hL
    exact h1.2 k v L hv hL
  · rw [List.getElem?_append_right hk] at hv
    rw [List.getElem?_append_right (by rw [← h1.1]; exact hk), ← h1.1] at hL
    exact h2.2 _ v L hv hL
theorem Elems.below {w w' : World} {lo : Nat} {g : Option Nat} {vs : List Value} {LL : List (List Nat)} (h : Elems w lo g vs LL) (hb : Below w.heap.size w w') : Elems w' lo g vs LL := ⟨h.1, fun k v L hv hL => (h.2 k v L hv hL).below hb⟩
theorem Elems.grown {w w' : World} {lo : Nat} {g : Option Nat} {vs : List Value} {LL : List (List Nat)} (h : Elems w lo g vs LL) (hb : w.grownBy w' g) : Elems w' lo g vs LL := ⟨h.1, fun k v L hv hL => (h.2 k v L hv hL).grown hb⟩
theorem Elems.move {w : World} {lo lo' : Nat} {g g' : Option Nat} {vs : List Value} {LL : List (List Nat)} (h : Elems w lo g vs LL) (hl : lo' ≤ lo) (hg : ∀ b, g' = some b → g = some b ∨ b < lo ∨ w.heap.size ≤ b) : Elems w lo' g' vs LL := ⟨h.1, fun k v L hv hL => (h.2 k v L hv hL).move hl hg⟩
theorem Elems.oneCell {w : World} {lo : Nat} {g : Option Nat} {vs : List Value} {LL : List (List Nat)} (h : Elems w lo g vs LL) : ∀ u ∈ vs, u.oneCell' = true := fun u hu => by
  obtain ⟨k, hk, rfl⟩ := List.getElem_of_mem hu
  obtain ⟨A, c, e, _⟩ := h.2 k vs[k] (LL[k]'(by rw [← h.1]; exact hk)) (by simp [hk]) (by simp [← h.1, hk])
  rw [e]; rfl
/-- What the loop has found. -/
def allTo (xs : List Clm) (f lo : Nat) (I : List Nat) (d : Nat) : List (List Nat) := (List.range d).flatMap fun e => allD xs (f - 1) (lo + e + 1) (I ++ [lo + e])
theorem allTo_at (xs : List Clm) (f lo : Nat) (I : List Nat) (d : Nat) : allTo xs f lo I (d + 1) = allTo xs f lo I d ++ allD xs (f - 1) (lo + d + 1) (I ++ [lo + d]) := by
  unfold allTo
  rw [List.range_succ, List.flatMap_append]
  simp
theorem allD_yes {xs : List Clm} {I : List Nat} (h : repB xs I = true) (f lo : Nat) : allD xs f lo I = if minB xs I = true then [I] else [] := by
  cases f <;> rw [allD, if_pos h]
theorem allD_no {xs : List Clm} {I : List Nat} (h : repB xs I = false) {f lo : Nat} (hf : xs.length - lo ≤ f) : allD xs f lo I = allTo xs f lo I (xs.length - lo) := by
  cases f with
  | zero =>
    rw [allD, if_neg (by rw [h]; simp), show xs.length - lo = 0 by omega]; rfl
  | succ f => rw [allD, if_neg (by rw [h]; simp)]; rfl
theorem allD_len (xs : List Clm) : ∀ (f lo : Nat) (I : List Nat), xs.length - lo ≤ f → (allD xs f lo I).length ≤ 2 ^ (xs.length - lo) := by
  intro f
  induction f with
  | zero =>
    intro lo I hf
    rw [allD]
    have := Nat.pow_pos (n := xs.length - lo) (show 0 < 2 by omega)
    split
    · split <;> simp <;> omega
    · simp
  | succ f ih =>
    intro lo I hf
    rw [allD]
    have hp := Nat.pow_pos (n := xs.length - lo) (show 0 < 2 by omega)
    split
    · split <;> simp <;> omega
    · have key : ∀ d, d ≤ xs.length - lo → ((List.range d).flatMap fun e => allD xs f (lo + e + 1) (I ++ [lo + e])).length + 2 ^ (xs.length - lo - d) ≤ 2 ^ (xs.length - lo) := by
        intro d
        induction d with
        | zero => intro _; simp
        | succ d ihd =>
          intro hd
          have h1 := ihd (by omega)
          have h2 := ih (lo + d + 1) (I ++ [lo + d]) (by omega)
          rw [List.range_succ, List.flatMap_append, List.length_append]
          simp only [List.flatMap_cons, List.flatMap_nil, List.append_nil]
          have e1 : xs.length - (lo + d + 1) = xs.length - lo - (d + 1) := by omega
          rw [e1] at h2
          have e2 : 2 ^ (xs.length - lo - d) = 2 ^ (xs.length - lo - (d + 1)) + 2 ^ (xs.length - lo - (d + 1)) := by
            rw [show xs.length - lo - d = xs.length - lo - (d + 1) + 1 by omega, Nat.pow_succ]; omega
          omega
      exact Nat.le_trans (Nat.le_add_right _ _) (key (xs.length - lo) (Nat.le_refl _))
theorem allTo_len {xs : List Clm} (h12 : xs.length ≤ 12) (f lo : Nat) (I : List Nat) (hf : xs.length - lo ≤ f) : ∀ d, d ≤ xs.length - lo → (allTo xs f lo I d).length ≤ d * 4096
  | 0, _ => by simp [allTo]
  | d + 1, hd => by
    have h1 := allTo_len h12 f lo I hf d (by omega)
    have h2 := allD_len xs (f - 1) (lo + d + 1) (I ++ [lo + d]) (by omega)
    have h3 : 2 ^ (xs.length - (lo + d + 1)) ≤ 2 ^ 12 := Nat.pow_le_pow_right (by omega) (by omega)
    rw [allTo_at, List.length_append]
    omega
/-- Where the search goes on. -/
def FromAt (I : List Nat) (lo : Nat) : Prop := (I = [] ∧ lo = 0) ∨ ∃ J z, I = J ++ [z] ∧ lo = z + 1
set_option maxRecDepth 100000 in
set_option maxHeartbeats 8000000 in
theorem specAll_any (xs : List Clm) (hf : Fine xs) (h12 : xs.length ≤ 12) (f : Nat) : ∀ (lo : Nat) (I : List Nat), xs.length - lo ≤ f → lo ≤ 12 → I.length ≤ lo → FromAt I lo → ∀ (A A' : Option Addr) (c c' B0 : Nat) (w : World), HasClm w xs A → ElemAt w B0 none (.slice A' I.length c') I → B0 ≤ w.heap.size →
    Calls Tryz.prog 111 #[.slice A xs.length c, .slice A' I.length c'] w fun e w' => ∃ v us, e = .returned v ∧ w'.ownsRow w.heap.size 31 1 v (allD xs f lo I).length us ∧ Elems w' B0 v.ownBlock us (allD xs f lo I) ∧ Below w.heap.size w w' := by
  induction f using Nat.strongRecOn with
  | _ f ih =>
  intro lo I hlo h12' hIl hFrom A A' c c' B0 w h hE hB0
  obtain ⟨i0, hi0, hz0, hz1, hz2⟩ := info_parts infoRow
  obtain ⟨i1, hi1, hy0, hy1, hy2⟩ := info_parts infoInt
  have H := Lib.hid h; clear h
  have HE := Lib.hid hE; clear hE
  have IH := Lib.hid ih; clear ih
  have HR1 := Lib.hid (specRep_any xs hf I (by omega) A A' c c' w H.out.1 HE.out.reads.1)
  have HM1 := Lib.hid (fun W (hB : Below w.heap.size w W) => specMin_any xs hf I (by omega) A A' c c' HE.out.reads.2.1 HE.out.reads.2.2 W (H.out.below hB).1 (HE.out.below hB).reads.1)
  have HOw := Lib.hid (fun W (hB : Below w.heap.size w W) => specOwn_any I (by omega) A' c' W (HE.out.below hB).reads.1)
  have HA1 := Lib.hid (fun h => allD_yes (xs := xs) (I := I) h f lo)
  have HA2 := Lib.hid (fun h => allD_no (xs := xs) (I := I) h hlo)
  have HSt := Lib.hid (allTo_at xs f lo I)
  have HTl := Lib.hid (allTo_len h12 f lo I hlo)
  cases hq1 : repB xs I
  · have HAA := Lib.hid (HA2.out hq1)
    rw [hq1] at HR1
    clear hq1
    generalize allD xs f lo I = R at HAA ⊢
    have hcase : (I.length = 0 ∧ lo = 0) ∨ (0 < I.length ∧ Hid (∃ z, (inC (ints I))[I.length - 1]? = some (.int .i64 (z : Nat)) ∧ lo = z + 1)) := by
      rcases hFrom with ⟨rfl, rfl⟩ | ⟨J, z, rfl, rfl⟩
      · exact .inl ⟨rfl, rfl⟩
      · refine .inr ⟨by simp, z, ?_, rfl⟩
        rw [ints_add]
        have e : (J ++ [z]).length - 1 = (inC (ints J)).length := by rw [inC_ints_len]; simp
        rw [e, List.getElem?_append_right (Nat.le_refl _)]
        simp
    clear hFrom HA1 HA2 HM1
    rcases hcase with ⟨hl0, rfl⟩ | ⟨hl0, hz⟩
    rotate_left
    · have HZ := Lib.hid hz; clear hz
      have q1 : (0 : Int) < (I.length : Int) := by omega
      have q2 : (0 : Int) ≤ (I.length : Int) - 1 := by omega
      have q3 : (I.length : Int) - 1 < (I.length : Int) := by omega
      have q4 : ((I.length : Int) - 1).toNat = I.length - 1 := by omega
      go_enter Tryz.func111, Tryz.ntmps111
      go_wp2_with fail
      refine HR1.out.mono ?_; rintro e w1 ⟨rfl, b1⟩
      have B1 := Lib.hid b1; clear b1
      have OW := Lib.hid (World.ownsRow_made (e := 31) (base := w1.heap.size) (size := 1) w1 #[] 0 (Nat.le_refl _) (by decide) rfl)
      have BW1 := Lib.hid (B1.out.alloc B1.out.size (.cells #[] 31))
      obtain ⟨z, hz1', hz2'⟩ := HZ.out.out
      obtain ⟨zb, zo, rfl, hzdb, hzc⟩ := (HE.out.below BW1.out).reads.1.2 hl0
      have z0 := hzc _ _ hz1'
      have hlz : (z : Int) + 1 = (lo : Int) := by omega
      have hzlo : (z : Int) = (lo : Int) - 1 := by omega
      have HZ1 := Lib.hid hz1'; have HZ2 := Lib.hid hz2'
      clear hzc hz1' hz2'
      rw [hzlo] at z0
      clear hlz hzlo
      go_wp2_with fail
      go_loopw [5, 7] (fun v5 v7 wr => ∃ (d n : Nat) (B : Option Addr) (cc : Nat) (us : List Value), d ≤ xs.length - lo ∧ n ≤ d * 4096 ∧ Hid ((allTo xs f lo I d).length = n) ∧ v5 = .slice B n cc ∧ Hid (wr.ownsRow w.heap.size 31 1 (.slice B n cc) n us) ∧ Hid (Elems wr B0 (Value.ownBlock (.slice B n cc)) us (allTo xs f lo I d)) ∧ Hid (Below w.heap.size w wr) ∧ v7 = .int .i64 ((lo : Int) + (d : Int))) (fun _ i _ => xs.length - (intOf i).toNat)
      case atStart => exact ⟨0, 0, _, 0, [], by omega, by omega, rfl, rfl, own_mono OW.out B1.out.size, Elems.nil_, BW1.out, by go_num⟩
      case round =>
        obtain ⟨d, n, B, cc, us, hd, hn, HN, rfl, HO, HEl, BW, rfl⟩ := hrel
        by_cases hlt : lo + d < xs.length
        · have hlt0 : (lo : Int) + (d : Int) < (xs.length : Int) := by omega
          have HS := Lib.hid (HSt.out d)
          have hNx := HTl.out (d + 1) (by omega)
          have HOk := Lib.hid (HOw.out wr BW.out)
          have HIH := Lib.hid (fun A2 c2 W (hB : Below w.heap.size w W) hE hl => IH.out (f - 1) (by omega) (lo + d + 1) (I ++ [lo + d]) (by omega) (by omega) (by simp; omega) (.inr ⟨I, lo + d, rfl, rfl⟩) A A2 c c2 wr.heap.size W (H.out.below hB) hE hl)
          have hgb := fun b (hb : (Value.ownBlock (.slice B n cc)) = some b) => (own_lt HO.out b hb).2
          have HGB := Lib.hid hgb; clear hgb
          have hdl : (allD xs (f - 1) (lo + d + 1) (I ++ [lo + d])).length ≤ 4096 := by
            have h2 := allD_len xs (f - 1) (lo + d + 1) (I ++ [lo + d]) (by omega)
            have h3 : 2 ^ (xs.length - (lo + d + 1)) ≤ 2 ^ 12 := Nat.pow_le_pow_right (by omega) (by omega)
            omega
          have hil : (I ++ [lo + d]).length = I.length + 1 := by simp
          have HIL := Lib.hid hil
          rw [hil] at HIH
          clear hil
          generalize allD xs (f - 1) (lo + d + 1) (I ++ [lo + d]) = M at HS HIH hdl
          go_wp2_with fail
          refine HOk.out.mono ?_; rintro e w2 ⟨v2, rfl, own2, b2⟩
          obtain ⟨A2, c2, rfl, _⟩ := own_shape own2
          have B2 := Lib.hid (BW.out.trans (b2.mono BW.out.size))
          have O2 := Lib.hid own2
          have BB := Lib.hid b2
          clear own2 b2
          go_wp2_with (at_builtin; refine wpList_append_any _ rfl (.tmp 38) (.tmp 40) _ rfl wr.heap.size 2 i1 _ 1 8 Tryz.underlying31 hi1 hy0 hy1 hy2 rfl (by omega) (.slice A2 I.length c2) I.length (inC (ints I)) rfl (O2.out.alloc _) _ (some ⟨w2.heap.size, 0, none⟩) 1 1 [.int .i64 ((lo : Int) + (d : Int))] rfl (new_in1 _ _ _) (by simp [Value.oneCell']) (by simp only [maxLen]; omega) (by omega) (by have := BB.out.size; simp; omega) ?_; intro v3 w3 hown3 hg3 hat3; obtain ⟨A3, c3, rfl, _⟩ := own_shape hown3)
          have BB3 := Lib.hid (below_own (BB.out.alloc BB.out.size _) (O2.out.alloc _) hg3 (Nat.le_refl _) (by have := BB.out.size; simp; omega))
          have B3 := Lib.hid (BW.out.trans (BB3.out.mono BW.out.size))
          have E3 := Lib.hid (show ElemAt w3 wr.heap.size none (.slice A3 (I.length + 1) c3) (I ++ [lo + d]) by
            have := hown3
            rw [show inC (ints I) ++ [Value.int .i64 ((lo : Int) + (d : Int))] = inC (ints (I ++ [lo + d])) by rw [ints_add]; simp] at this
            rw [← HIL.out] at this ⊢
            exact elem_own this (Nat.le_refl _) (fun b hb => by cases hb))
          clear hown3 hg3 hat3
          refine (HIH.out A3 c3 w3 B3.out E3.out BB3.out.size).mono ?_; rintro e w4 ⟨v4, vs, rfl, own4, el4, b4⟩
          obtain ⟨A4, c4, rfl, _⟩ := own_shape own4
          have B4 := Lib.hid (B3.out.trans (b4.mono B3.out.size))
          have BB4 := Lib.hid (BB3.out.trans (b4.mono BB3.out.size))
          have O4 := Lib.hid own4; have E4 := Lib.hid el4
          have OUT := Lib.hid (own_below HO.out BB4.out); have EL := Lib.hid (HEl.out.below BB4.out)
          have V1 := Lib.hid E4.out.oneCell
          clear own4 el4 b4
          have hbs := BW.out.size
          go_wp2_with (at_builtin; refine wpList_append_any _ rfl (.tmp 35) (.tmp 42) _ rfl w.heap.size 31 i0 _ 1 24 Tryz.underlying63 hi0 hz0 hz1 hz2 rfl (by omega) (.slice B n cc) n us rfl OUT.out _ A4 M.length c4 vs rfl (Reads.of_own O4.out) V1.out (by simp only [maxLen]; omega) (by omega) B4.out.size ?_; intro v5 w5 hown5 hg5 hat5; obtain ⟨A5, c5, rfl, _⟩ := own_shape hown5)
          have E5 := Lib.hid (show Elems w5 B0 (Value.ownBlock (.slice A5 (n + M.length) c5)) (us ++ vs) (allTo xs f lo I (d + 1)) by
            rw [HS.out]
            have hw : w4.heap.size ≤ w5.heap.size := hg5.size
            have e1 := EL.out.app (E4.out.move (lo' := B0) (g' := Value.ownBlock (.slice B n cc)) (by omega) (fun b hb => .inr (.inl (HGB.out b hb))))
            have e2 := (e1.move (g' := Value.ownBlock (.slice A5 (n + M.length) c5)) (Nat.le_refl _) (fun b hb => by
              rcases hat5 with h5 | h5
              · exact .inl (h5 ▸ hb)
              · rw [h5] at hb; injection hb with hb; exact .inr (.inr (by omega))))
            rcases hat5 with h5 | h5
            · rw [h5] at e2 ⊢
              exact e2.grown hg5
            · have e3 := e1.grown hg5
              refine ⟨e3.1, fun k v L hv hL => ?_⟩
              obtain ⟨A9, c9, q1, q2, q3, q4⟩ := e3.2 k v L hv hL
              obtain ⟨A8, c8, r1, _, _, r4⟩ := e1.2 k v L hv hL
              refine ⟨A9, c9, q1, q2, q3, fun h0 => ?_⟩
              obtain ⟨b, off, s1, s2, s3, s4, s5⟩ := q4 h0
              obtain ⟨b', off', t1, _, t3, _, _⟩ := r4 h0
              rw [q1] at r1
              simp only [Value.slice.injEq, true_and] at r1
              rw [s1, t1] at r1
              have hbb : b = b' := by have := r1.1; simp at this; exact this.1
              exact ⟨b, off, s1, s2, s3, by rw [h5]; intro h; injection h with h; omega, s5⟩)
          have O5 := Lib.hid hown5
          have B5 := Lib.hid (below_own B4.out OUT.out hg5 (Nat.le_refl _) B4.out.size)
          clear hown5 hg5 hat5
          go_roundw
          case rel => exact ⟨d + 1, n + M.length, A5, c5, us ++ vs, by omega, by omega, by have := HN.out; rw [HS.out]; simp [Hid, this], rfl, O5.out, E5.out, B5.out, by go_num⟩
          case measure => simp [intOf]; omega
        · obtain rfl : d = xs.length - lo := by omega
          have hge : ¬ (lo : Int) + ((xs.length - lo : Nat) : Int) < (xs.length : Int) := by omega
          have HN' := HN.out
          go_wp2_with fail
          go_ret
          have f1 : wr.ownsRow w.heap.size 31 1 (.slice B n cc) R.length us := by rw [HAA.out, HN']; exact HO.out
          have f2 : Elems wr B0 (Value.ownBlock (.slice B n cc)) us R := by rw [HAA.out]; exact HEl.out
          first | exact ⟨_, us, rfl, f1, f2, BW.out⟩ | exact ⟨_, rfl, us, f1, f2, BW.out⟩
    · have q1 : ¬ (0 : Int) < (I.length : Int) := by omega
      have q1' : ¬ 0 < I.length := by omega
      clear hl0
      go_enter Tryz.func111, Tryz.ntmps111
      go_wp2_with fail
      refine HR1.out.mono ?_; rintro e w1 ⟨rfl, b1⟩
      have B1 := Lib.hid b1; clear b1
      have OW := Lib.hid (World.ownsRow_made (e := 31) (base := w1.heap.size) (size := 1) w1 #[] 0 (Nat.le_refl _) (by decide) rfl)
      have BW1 := Lib.hid (B1.out.alloc B1.out.size (.cells #[] 31))
      go_wp2_with fail
      go_loopw [5, 7] (fun v5 v7 wr => ∃ (d n : Nat) (B : Option Addr) (cc : Nat) (us : List Value), d ≤ xs.length - 0 ∧ n ≤ d * 4096 ∧ Hid ((allTo xs f 0 I d).length = n) ∧ v5 = .slice B n cc ∧ Hid (wr.ownsRow w.heap.size 31 1 (.slice B n cc) n us) ∧ Hid (Elems wr B0 (Value.ownBlock (.slice B n cc)) us (allTo xs f 0 I d)) ∧ Hid (Below w.heap.size w wr) ∧ v7 = .int .i64 ((d : Int))) (fun _ i _ => xs.length - (intOf i).toNat)
      case atStart => exact ⟨0, 0, _, 0, [], by omega, by omega, rfl, rfl, own_mono OW.out B1.out.size, Elems.nil_, BW1.out, by go_num⟩
      case round =>
        obtain ⟨d, n, B, cc, us, hd, hn, HN, rfl, HO, HEl, BW, rfl⟩ := hrel
        by_cases hlt : 0 + d < xs.length
        · have hlt0 : (d : Int) < (xs.length : Int) := by omega
          have HS := Lib.hid (HSt.out d)
          have hNx := HTl.out (d + 1) (by omega)
          have HOk := Lib.hid (HOw.out wr BW.out)
          have HIH := Lib.hid (fun A2 c2 W (hB : Below w.heap.size w W) hE hl => IH.out (f - 1) (by omega) (0 + d + 1) (I ++ [0 + d]) (by omega) (by omega) (by simp; omega) (.inr ⟨I, 0 + d, rfl, rfl⟩) A A2 c c2 wr.heap.size W (H.out.below hB) hE hl)
          have hgb := fun b (hb : (Value.ownBlock (.slice B n cc)) = some b) => (own_lt HO.out b hb).2
          have HGB := Lib.hid hgb; clear hgb
          have hdl : (allD xs (f - 1) (0 + d + 1) (I ++ [0 + d])).length ≤ 4096 := by
            have h2 := allD_len xs (f - 1) (0 + d + 1) (I ++ [0 + d]) (by omega)
            have h3 : 2 ^ (xs.length - (0 + d + 1)) ≤ 2 ^ 12 := Nat.pow_le_pow_right (by omega) (by omega)
            omega
          have hil : (I ++ [0 + d]).length = I.length + 1 := by simp
          have HIL := Lib.hid hil
          rw [hil] at HIH
          clear hil
          generalize allD xs (f - 1) (0 + d + 1) (I ++ [0 + d]) = M at HS HIH hdl
          go_wp2_with fail
          refine HOk.out.mono ?_; rintro e w2 ⟨v2, rfl, own2, b2⟩
          obtain ⟨A2, c2, rfl, _⟩ := own_shape own2
          have B2 := Lib.hid (BW.out.trans (b2.mono BW.out.size))
          have O2 := Lib.hid own2
          have BB := Lib.hid b2
          clear own2 b2
          go_wp2_with (at_builtin; refine wpList_append_any _ rfl (.tmp 38) (.tmp 40) _ rfl wr.heap.size 2 i1 _ 1 8 Tryz.underlying31 hi1 hy0 hy1 hy2 rfl (by omega) (.slice A2 I.length c2) I.length (inC (ints I)) rfl (O2.out.alloc _) _ (some ⟨w2.heap.size, 0, none⟩) 1 1 [.int .i64 ((d : Int))] rfl (new_in1 _ _ _) (by simp [Value.oneCell']) (by simp only [maxLen]; omega) (by omega) (by have := BB.out.size; simp; omega) ?_; intro v3 w3 hown3 hg3 hat3; obtain ⟨A3, c3, rfl, _⟩ := own_shape hown3)
          have BB3 := Lib.hid (below_own (BB.out.alloc BB.out.size _) (O2.out.alloc _) hg3 (Nat.le_refl _) (by have := BB.out.size; simp; omega))
          have B3 := Lib.hid (BW.out.trans (BB3.out.mono BW.out.size))
          have E3 := Lib.hid (show ElemAt w3 wr.heap.size none (.slice A3 (I.length + 1) c3) (I ++ [0 + d]) by
            have := hown3
            rw [show inC (ints I) ++ [Value.int .i64 ((d : Int))] = inC (ints (I ++ [0 + d])) by rw [ints_add]; simp] at this
            rw [← HIL.out] at this ⊢
            exact elem_own this (Nat.le_refl _) (fun b hb => by cases hb))
          clear hown3 hg3 hat3
          refine (HIH.out A3 c3 w3 B3.out E3.out BB3.out.size).mono ?_; rintro e w4 ⟨v4, vs, rfl, own4, el4, b4⟩
          obtain ⟨A4, c4, rfl, _⟩ := own_shape own4
          have B4 := Lib.hid (B3.out.trans (b4.mono B3.out.size))
          have BB4 := Lib.hid (BB3.out.trans (b4.mono BB3.out.size))
          have O4 := Lib.hid own4; have E4 := Lib.hid el4
          have OUT := Lib.hid (own_below HO.out BB4.out); have EL := Lib.hid (HEl.out.below BB4.out)
          have V1 := Lib.hid E4.out.oneCell
          clear own4 el4 b4
          have hbs := BW.out.size
          go_wp2_with (at_builtin; refine wpList_append_any _ rfl (.tmp 35) (.tmp 42) _ rfl w.heap.size 31 i0 _ 1 24 Tryz.underlying63 hi0 hz0 hz1 hz2 rfl (by omega) (.slice B n cc) n us rfl OUT.out _ A4 M.length c4 vs rfl (Reads.of_own O4.out) V1.out (by simp only [maxLen]; omega) (by omega) B4.out.size ?_; intro v5 w5 hown5 hg5 hat5; obtain ⟨A5, c5, rfl, _⟩ := own_shape hown5)
          have E5 := Lib.hid (show Elems w5 B0 (Value.ownBlock (.slice A5 (n + M.length) c5)) (us ++ vs) (allTo xs f 0 I (d + 1)) by
            rw [HS.out]
            have hw : w4.heap.size ≤ w5.heap.size := hg5.size
            have e1 := EL.out.app (E4.out.move (lo' := B0) (g' := Value.ownBlock (.slice B n cc)) (by omega) (fun b hb => .inr (.inl (HGB.out b hb))))
            have e2 := (e1.move (g' := Value.ownBlock (.slice A5 (n + M.length) c5)) (Nat.le_refl _) (fun b hb => by
              rcases hat5 with h5 | h5
              · exact .inl (h5 ▸ hb)
              · rw [h5] at hb; injection hb with hb; exact .inr (.inr (by omega))))
            rcases hat5 with h5 | h5
            · rw [h5] at e2 ⊢
              exact e2.grown hg5
            · have e3 := e1.grown hg5
              refine ⟨e3.1, fun k v L hv hL => ?_⟩
              obtain ⟨A9, c9, q1, q2, q3, q4⟩ := e3.2 k v L hv hL
              obtain ⟨A8, c8, r1, _, _, r4⟩ := e1.2 k v L hv hL
              refine ⟨A9, c9, q1, q2, q3, fun h0 => ?_⟩
              obtain ⟨b, off, s1, s2, s3, s4, s5⟩ := q4 h0
              obtain ⟨b', off', t1, _, t3, _, _⟩ := r4 h0
              rw [q1] at r1
              simp only [Value.slice.injEq, true_and] at r1
              rw [s1, t1] at r1
              have hbb : b = b' := by have := r1.1; simp at this; exact this.1
              exact ⟨b, off, s1, s2, s3, by rw [h5]; intro h; injection h with h; omega, s5⟩)
          have O5 := Lib.hid hown5
          have B5 := Lib.hid (below_own B4.out OUT.out hg5 (Nat.le_refl _) B4.out.size)
          clear hown5 hg5 hat5
          go_roundw
          case rel => exact ⟨d + 1, n + M.length, A5, c5, us ++ vs, by omega, by omega, by have := HN.out; rw [HS.out]; simp [Hid, this], rfl, O5.out, E5.out, B5.out, by go_num⟩
          case measure => simp [intOf]; omega
        · obtain rfl : d = xs.length - 0 := by omega
          have hge : ¬ (0 : Int) + ((xs.length - 0 : Nat) : Int) < (xs.length : Int) := by omega
          have HN' := HN.out
          go_wp2_with fail
          go_ret
          have f1 : wr.ownsRow w.heap.size 31 1 (.slice B n cc) R.length us := by rw [HAA.out, HN']; exact HO.out
          have f2 : Elems wr B0 (Value.ownBlock (.slice B n cc)) us R := by rw [HAA.out]; exact HEl.out
          first | exact ⟨_, us, rfl, f1, f2, BW.out⟩ | exact ⟨_, rfl, us, f1, f2, BW.out⟩
  · have HAA := Lib.hid (HA1.out hq1)
    rw [hq1] at HR1
    clear hq1
    generalize allD xs f lo I = R at HAA ⊢
    generalize minB xs I = q2 at *
    cases q2
    · have HA3 := Lib.hid (show R = [] from by rw [HAA.out]; rfl)
      clear HAA
      go_enter Tryz.func111, Tryz.ntmps111
      go_wp2_with fail
      refine HR1.out.mono ?_; rintro e w1 ⟨rfl, b1⟩
      have B1 := Lib.hid b1
      have HM2 := Lib.hid (HM1.out w1 b1); clear b1
      go_wp2_with fail
      refine HM2.out.mono ?_; rintro e w2 ⟨rfl, b2⟩
      have B2 := Lib.hid (B1.out.trans (b2.mono B1.out.size)); clear b2
      go_wp2_with fail
      go_ret
      first | refine ⟨_, [], rfl, ?_, ?_, B2.out.alloc B2.out.size _⟩ | refine ⟨_, rfl, [], ?_, ?_, B2.out.alloc B2.out.size _⟩
      · rw [HA3.out]
        exact own_mono (World.ownsRow_made (e := 31) (base := w2.heap.size) (size := 1) w2 #[] 0 (Nat.le_refl _) (by decide) rfl) B2.out.size
      · rw [HA3.out]
        exact Elems.nil_
    · have HA3 := Lib.hid (show R = [I] from by rw [HAA.out]; rfl)
      clear HAA
      go_enter Tryz.func111, Tryz.ntmps111
      go_wp2_with fail
      refine HR1.out.mono ?_; rintro e w1 ⟨rfl, b1⟩
      have B1 := Lib.hid b1
      have HM2 := Lib.hid (HM1.out w1 b1); clear b1
      go_wp2_with fail
      refine HM2.out.mono ?_; rintro e w2 ⟨rfl, b2⟩
      have B2 := Lib.hid (B1.out.trans (b2.mono B1.out.size)); clear b2
      go_wp2_with fail
      go_ret
      first | refine ⟨_, [.slice A' I.length c'], rfl, ?_, ?_, B2.out.alloc B2.out.size _⟩ | refine ⟨_, rfl, [.slice A' I.length c'], ?_, ?_, B2.out.alloc B2.out.size _⟩
      · rw [HA3.out]
        exact own_mono (World.ownsRow_lit (e := 31) (base := w2.heap.size) (size := 1) w2 #[.slice A' I.length c'] 1 (Nat.le_refl _) (by decide) rfl) B2.out.size
      · rw [HA3.out]
        have e1 := HE.out.below B2.out
        have e2 := e1.move (g' := some w2.heap.size) (Nat.le_refl _) (fun b hb => .inr (.inr (by injection hb with hb; omega)))
        exact Elems.one (e2.below ((Below.refl w2.heap.size w2).alloc (Nat.le_refl _) _))
end Go.Proofs.YtihhpmhigmegjaaGreatDoor

namespace Go.Proofs.YtihhpmhigmegjaaGreatDoor
open Go.ChangeShapes Go.WideShapes Go.ChangeAt Go.RowKit Go.Sort

/-- What a repair leaves tells a fact. -/
def told (xs : List Clm) (f : Fct) (I : List Nat) : Bool := decide (0 < (whichC (keepN I 0 xs) (fun c => telB c f)).length)
theorem asc_len : ∀ (S : List Nat) {lo n : Nat}, asc lo n S → S.length ≤ n - lo
  | [], _, _, _ => Nat.zero_le _
  | i :: r, lo, n, h => by
    rw [asc_cons] at h
    have := asc_len r h.2
    simp only [List.length_cons]
    omega
theorem all_small {xs : List Clm} (h12 : xs.length ≤ 12) : ∀ L ∈ allD xs xs.length 0 [], L.length ≤ 12 := fun L hL => by
  rw [mem_allD xs _ _ _ _ (by omega)] at hL
  obtain ⟨S, hS, hE, _⟩ := hL
  have := asc_len S hS
  rw [List.nil_append] at hE
  rw [hE]; omega
theorem allD_count {xs : List Clm} (h12 : xs.length ≤ 12) : (allD xs xs.length 0 []).length ≤ 4096 := by
  have h2 := allD_len xs xs.length 0 [] (by omega)
  have h3 : 2 ^ (xs.length - 0) ≤ 2 ^ 12 := Nat.pow_le_pow_right (by omega) (by omega)
  omega
theorem filter_at {α : Type} {xs : List α} {p : α → Bool} {k : Nat} (h : k < xs.length) : ((xs.take (k + 1)).filter p).length = ((xs.take k).filter p).length + (if p xs[k] = true then 1 else 0) := by
  rw [List.take_succ_eq_append_getElem h, List.filter_append, List.length_append]
  congr 1
  by_cases hp : p xs[k] = true <;> simp [hp]
set_option maxRecDepth 100000 in
set_option maxHeartbeats 4000000 in
theorem specCnt_any (xs : List Clm) (hf : Fine xs) (h12 : xs.length ≤ 12) (f : Fct) (A : Option Addr) (c : Nat) (w : World) (h : HasClm w xs A) :
    Calls Tryz.prog 51 #[.slice A xs.length c, f.val] w fun e w' => e = .returned (.tuple #[.int .i64 ((((allD xs xs.length 0 []).filter (told xs f)).length : Nat) : Int), .int .i64 (((allD xs xs.length 0 []).length : Nat) : Int)]) ∧ Below w.heap.size w w' := by
  have H := Lib.hid h; clear h
  have KN := Lib.hid (blks_two w 26 2 #[.int .i64 f.kind, .string f.place, .string f.val_, .int .i64 f.year] #[])
  have HA := Lib.hid (fun B0 W (hB : Below w.heap.size w W) A' c' hE hl => specAll_any xs hf h12 xs.length 0 [] (by omega) (by omega) (Nat.le_refl _) (.inl ⟨rfl, rfl⟩) A A' c c' B0 W (H.out.below hB) hE hl)
  have HSm := Lib.hid (all_small h12)
  have HCt := allD_count h12
  have HFine := Lib.hid hf
  have HX := Lib.hid (show ((allD xs xs.length 0 []).filter (told xs f)).length = (((allD xs xs.length 0 []).take (allD xs xs.length 0 []).length).filter (told xs f)).length by rw [List.take_length])
  generalize allD xs xs.length 0 [] = LL at *
  generalize (LL.filter (told xs f)).length = total at HX ⊢
  unfold Fct.val
  go_enter Tryz.func51, Tryz.ntmps51
  go_wp2_with fail
  generalize hW : (w.alloc (.cells #[.int .i64 f.kind, .string f.place, .string f.val_, .int .i64 f.year] 26)).alloc (.cells #[] 2) = W
  obtain ⟨kb, ke, bw, hsz⟩ := KN.out W hW.symm
  clear hW ke
  have KB := Lib.hid kb; have B1 := Lib.hid bw
  have E0 := Lib.hid (show ElemAt W w.heap.size none (.slice (some ⟨w.heap.size + 1, 0, none⟩) 0 0) [] from ⟨_, 0, rfl, Nat.le_refl _, by omega, fun h => absurd h (by simp)⟩)
  have HA2 := Lib.hid (HA.out w.heap.size W B1.out _ _ E0.out B1.out.size)
  clear kb bw hsz HA
  refine HA2.out.mono ?_; rintro e w2 ⟨v, us, rfl, own2, el2, b2⟩
  obtain ⟨B, d, rfl, _⟩ := own_shape own2
  have B2 := Lib.hid (B1.out.trans (b2.mono B1.out.size))
  have K2 := Lib.hid (KB.out.below b2 KB.out.lt)
  have RW := Lib.hid (Reads.of_own own2); have EL := Lib.hid el2
  have HLU := Lib.hid el2.1
  clear own2 el2 b2
  go_wp2_with fail
  go_loopw [7, 8] (fun v7 v8 wr => ∃ (k n : Nat), k ≤ LL.length ∧ n ≤ k ∧ Hid (((LL.take k).filter (told xs f)).length = n) ∧ Hid (Below w2.heap.size w2 wr) ∧ v7 = .int .i64 n ∧ v8 = .int .i64 k) (fun _ i _ => LL.length - (intOf i).toNat)
  case atStart => exact ⟨0, 0, by omega, by omega, rfl, Below.refl _ _, by go_num, by go_num⟩
  case round =>
    obtain ⟨k, n, hk, hnk, HN, BX, rfl, rfl⟩ := hrel
    by_cases hlt : k < LL.length
    · obtain ⟨rb, ro, rfl, hrdb0, hrc⟩ := RW.out.2 (by omega)
      have hrdb : rb < wr.heap.size := Nat.lt_of_lt_of_le hrdb0 BX.out.size
      have hku : k < us.length := by rw [HLU.out]; exact hlt
      have r00 := hrc k us[k] (by simp [hku])
      have HEk := (EL.out.below BX.out).2 k us[k] LL[k] (by simp [hku]) (by simp [hlt])
      obtain ⟨Ak, ck, hek, _⟩ := id HEk
      rw [hek] at r00 HEk
      have r0 := ((BX.out.cell (p := ⟨rb, ro + k, none⟩) hrdb0).trans r00)
      have HRk := Lib.hid HEk.reads
      have hLk := HSm.out LL[k] (List.getElem_mem hlt)
      have HFl := Lib.hid (filter_at (p := told xs f) hlt)
      clear hrc r00 HEk hek hrdb0
      generalize LL[k] = L at r0 HRk hLk HFl
      have HKF := Lib.hid (HFine.out.keep L)
      have HR1 := Lib.hid (fun W (hB : Below wr.heap.size wr W) => specRest_any xs.length HFine.out.len L (by omega) A Ak c ck W ((HRk.out.1.below hB).more hB.size))
      have HE := Lib.hid (show chos xs (restN L xs.length) = keepN L 0 xs by rw [chos_rest L xs _ (Nat.le_refl _), List.take_length])
      have HC1 := Lib.hid (fun Ar cr W (hB : Below wr.heap.size wr W) hr => specChos_any xs (restN L xs.length) rest_lt (Nat.le_trans (rest_len L _) HFine.out.len) HFine.out.len A Ar c cr W ((H.out.below (B2.out.trans ((BX.out.trans (hB.mono BX.out.size)).mono B2.out.size))).1) hr)
      rw [HE.out] at HC1
      have HT1 := Lib.hid (fun Ac cc W (hc : HasClm W (keepN L 0 xs) Ac) => specTelL_any (keepN L 0 xs) f HKF.out.len Ac cc W hc)
      have HTd := Lib.hid (show told xs f L = decide (0 < (whichC (keepN L 0 xs) (fun c => telB c f)).length) from rfl)
      have hwl := Nat.le_trans (wC_len (keepN L 0 xs) (fun c => telB c f) (keepN L 0 xs).length) HKF.out.len
      clear HE
      unfold Fct.val at HT1
      generalize told xs f L = q at HFl HTd
      rw [show wC (keepN L 0 xs) (fun c => telB c f) (keepN L 0 xs).length = whichC (keepN L 0 xs) (fun c => telB c f) from rfl] at hwl
      generalize whichC (keepN L 0 xs) (fun c => telB c f) = TL at HT1 HTd hwl
      generalize keepN L 0 xs = KL at *
      generalize restN L xs.length = RL at *
      obtain ⟨x0, x1, x2, x3⟩ := cells_4 (K2.out.below BX.out K2.out.lt)
      have SLw := Lib.hid (show w.heap.size < wr.heap.size from Nat.lt_of_lt_of_le K2.out.lt BX.out.size)
      have q1 : (0 : Int) ≤ (k : Int) := by omega
      have q2 : (k : Int) < (LL.length : Int) := by omega
      go_upto_region 6 with (fail)
      go_cut [29] (fun v29 wx => v29 = .bool q ∧ Below wr.heap.size wr wx)
      case first =>
        have Bd := (Below.refl wr.heap.size wr).drew
        go_region_held3 (fun w' => w'.cell? ⟨w.heap.size, 0, none⟩ = some (.int .i64 f.kind) ∧ w'.cell? ⟨w.heap.size, 1, none⟩ = some (.string f.place) ∧ w'.cell? ⟨w.heap.size, 2, none⟩ = some (.string f.val_) ∧ w'.cell? ⟨w.heap.size, 3, none⟩ = some (.int .i64 f.year) ∧ w'.cell? ⟨rb, ro + k, none⟩ = some (.slice Ak L.length ck))
          (first | exact ⟨k0, k1, k2, k3, k4⟩ | (go_keep; done) | ((try dsimp only); (repeat' apply And.intro) <;> (go_keep; done)))
          (first | (go_at_call 113; refine (HR1.out _ Bd).mono ?_; rintro e wn ⟨vr, rfl, or_, bn⟩; (obtain ⟨Ar, cr, rfl, _⟩ := own_shape or_); (have OR := Lib.hid or_); (have Bd := Bd.trans (bn.mono Bd.size)); (have k0 := (Bd.cell (p := ⟨w.heap.size, 0, none⟩) SLw.out).trans x0); (have k1 := (Bd.cell (p := ⟨w.heap.size, 1, none⟩) SLw.out).trans x1); (have k2 := (Bd.cell (p := ⟨w.heap.size, 2, none⟩) SLw.out).trans x2); (have k3 := (Bd.cell (p := ⟨w.heap.size, 3, none⟩) SLw.out).trans x3); (have k4 := (Bd.cell (p := ⟨rb, ro + k, none⟩) hrdb).trans r0); clear or_ bn) | (go_at_call 112; refine (HC1.out Ar cr _ Bd (Reads.of_own OR.out)).mono ?_; rintro e wn ⟨vr, rfl, or_, bn⟩; (obtain ⟨Ac, cc2, rfl, _⟩ := own_shape or_); (have OC := Lib.hid (has_own HKF.out or_)); (have Bd := Bd.trans (bn.mono Bd.size)); (have k0 := (Bd.cell (p := ⟨w.heap.size, 0, none⟩) SLw.out).trans x0); (have k1 := (Bd.cell (p := ⟨w.heap.size, 1, none⟩) SLw.out).trans x1); (have k2 := (Bd.cell (p := ⟨w.heap.size, 2, none⟩) SLw.out).trans x2); (have k3 := (Bd.cell (p := ⟨w.heap.size, 3, none⟩) SLw.out).trans x3); (have k4 := (Bd.cell (p := ⟨rb, ro + k, none⟩) hrdb).trans r0); clear or_ bn) | (go_at_call 54; refine (HT1.out Ac cc2 _ OC.out).mono ?_; rintro e wn ⟨vr, rfl, or_, bn⟩; (obtain ⟨At, ct, rfl, _⟩ := own_shape or_); (have Bd := Bd.trans (bn.mono Bd.size)); (have k0 := (Bd.cell (p := ⟨w.heap.size, 0, none⟩) SLw.out).trans x0); (have k1 := (Bd.cell (p := ⟨w.heap.size, 1, none⟩) SLw.out).trans x1); (have k2 := (Bd.cell (p := ⟨w.heap.size, 2, none⟩) SLw.out).trans x2); (have k3 := (Bd.cell (p := ⟨w.heap.size, 3, none⟩) SLw.out).trans x3); (have k4 := (Bd.cell (p := ⟨rb, ro + k, none⟩) hrdb).trans r0); clear or_ bn) | fail)
        all_goals
          go_wp2_with fail
          go_meet
          exact ⟨by first | (rw [HTd.out]; done) | (rw [HTd.out]; simp), Bd⟩
      case rest =>
        obtain ⟨rfl, bx⟩ := hcut
        have BY := Lib.hid (BX.out.trans (bx.mono BX.out.size))
        clear bx
        cases q
        · have HF := Lib.hid (show ((LL.take (k + 1)).filter (told xs f)).length = n by rw [HFl.out, HN.out]; rfl)
          clear HFl HTd
          go_wp2_with fail
          go_roundw
          case rel => exact ⟨k + 1, n, by omega, by omega, HF.out, BY.out, rfl, by go_num⟩
          case measure => simp [intOf]; omega
        · have HF := Lib.hid (show ((LL.take (k + 1)).filter (told xs f)).length = n + 1 by rw [HFl.out, HN.out]; rfl)
          clear HFl HTd
          go_wp2_with fail
          go_roundw
          case rel => exact ⟨k + 1, n + 1, by omega, by omega, HF.out, BY.out, by go_num, by go_num⟩
          case measure => simp [intOf]; omega
    · obtain rfl : k = LL.length := by omega
      have HF := Lib.hid (show total = n by rw [HX.out, HN.out])
      go_wp2_with fail
      go_ret2
      exact ⟨by rw [HF.out]; rfl, B2.out.trans (BX.out.mono B2.out.size)⟩
/-- A fact is possible; a fact is certain. -/
def posV (xs : List Clm) (f : Fct) : Bool := (codeF xs f == 0) && (allD xs xs.length 0 []).any (told xs f)
def cerV (xs : List Clm) (f : Fct) : Bool := (codeF xs f == 0) && !(allD xs xs.length 0 []).any (fun I => !told xs f I)
theorem count_any {α : Type} (L : List α) (p : α → Bool) : decide (0 < (L.filter p).length) = L.any p := by
  induction L with
  | nil => rfl
  | cons x r ih =>
    rw [List.filter_cons, List.any_cons]
    cases hp : p x
    · simpa [hp] using ih
    · simp
theorem count_all {α : Type} (L : List α) (p : α → Bool) : decide ((L.filter p).length = L.length) = !L.any (fun x => !p x) := by
  rw [Bool.eq_iff_iff, decide_eq_true_eq, List.length_filter_eq_length_iff, Bool.not_eq_true', Bool.eq_false_iff, ne_eq, List.any_eq_true]
  constructor
  · rintro h ⟨x, hx, h2⟩
    rw [h x hx] at h2; cases h2
  · intro h x hx
    cases hp : p x
    · exact absurd ⟨x, hx, by rw [hp]; rfl⟩ h
    · rfl
theorem fine_of {xs : List Clm} {f : Fct} (h : codeF xs f = 0) (hn : ∀ b ∈ xs, b.Ok) : Fine xs := ⟨(codeF_len h).1, by have := (codeF_len h).2.1; omega, hn⟩
set_option maxRecDepth 100000 in
theorem specIsPossible_any (xs : List Clm) (f : Fct) (hs : ∀ b ∈ xs, b.src.size ≤ 1048576 ∧ b.place.size ≤ 1048576 ∧ b.val_.size ≤ 1048576) (hf : f.place.size ≤ 1048576 ∧ f.val_.size ≤ 1048576) (A : Option Addr) (c : Nat) (w : World) (h : HasClm w xs A) :
    Calls Tryz.prog 11 #[.slice A xs.length c, f.val] w fun e w' => e = .returned (.tuple #[.bool (posV xs f), .int .i64 (codeF xs f)]) ∧ Below w.heap.size w w' := by
  have HC := Lib.hid (fun W (hB : Below w.heap.size w W) => specCode_any xs f hs hf A c W (h.below hB))
  have HL := Lib.hid (fun (hz : codeF xs f = 0) W (hB : Below w.heap.size w W) => specCnt_any xs (fine_of hz h.2.2) (codeF_len hz).2.1 f A c W (h.below hB))
  have HV := Lib.hid (show posV xs f = ((codeF xs f == 0) && decide (0 < ((allD xs xs.length 0 []).filter (told xs f)).length)) by unfold posV; rw [count_any])
  have HB := Lib.hid (fun (hz : codeF xs f = 0) => And.intro (allD_count (codeF_len hz).2.1) (List.length_filter_le (told xs f) (allD xs xs.length 0 [])))
  clear h
  have KN := Lib.hid (blks_one w 26 #[.int .i64 f.kind, .string f.place, .string f.val_, .int .i64 f.year])
  have h01 := codeF_01 xs f
  unfold Fct.val at HC HL ⊢
  generalize ((allD xs xs.length 0 []).filter (told xs f)).length = n at *
  generalize (allD xs xs.length 0 []).length = m at *
  generalize posV xs f = r at HV ⊢
  generalize codeF xs f = code at *
  go_enter Tryz.func11, Tryz.ntmps11
  go_upto_region 1 with (fail)
  generalize hW : w.alloc (.cells #[.int .i64 f.kind, .string f.place, .string f.val_, .int .i64 f.year] 26) = W
  obtain ⟨bk, bw, _⟩ := KN.out W hW.symm
  clear hW
  have KB := Lib.hid bk; have B0 := Lib.hid bw
  obtain ⟨x0, x1, x2, x3⟩ := cells_4 bk
  clear bk bw
  go_wp2_with fail
  refine (HC.out W B0.out).mono ?_; rintro e w1 ⟨rfl, b1⟩
  have B1 := Lib.hid (B0.out.trans (b1.mono B0.out.size))
  obtain ⟨y0, y1, y2, y3⟩ := cells_4 (KB.out.below b1 KB.out.lt)
  clear b1 x0 x1 x2 x3
  rcases h01 with rfl | rfl
  · have HL2 := Lib.hid (HL.out rfl w1 B1.out)
    obtain ⟨hm1, hm2⟩ := HB.out rfl
    clear HL HB
    go_wp2_with fail
    refine HL2.out.mono ?_; rintro e w2 ⟨rfl, b2⟩
    go_wp2_with fail
    go_ret2
    exact ⟨by rw [HV.out]; first | rfl | (simp; done) | (simp; rw [Bool.eq_iff_iff, beq_iff_eq, decide_eq_true_eq]; omega), B1.out.trans (b2.mono B1.out.size)⟩
  · clear HL HB
    go_wp2_with fail
    go_ret2
    exact ⟨by rw [HV.out]; rfl, B1.out⟩
set_option maxRecDepth 100000 in
theorem specIsCertain_any (xs : List Clm) (f : Fct) (hs : ∀ b ∈ xs, b.src.size ≤ 1048576 ∧ b.place.size ≤ 1048576 ∧ b.val_.size ≤ 1048576) (hf : f.place.size ≤ 1048576 ∧ f.val_.size ≤ 1048576) (A : Option Addr) (c : Nat) (w : World) (h : HasClm w xs A) :
    Calls Tryz.prog 9 #[.slice A xs.length c, f.val] w fun e w' => e = .returned (.tuple #[.bool (cerV xs f), .int .i64 (codeF xs f)]) ∧ Below w.heap.size w w' := by
  have HC := Lib.hid (fun W (hB : Below w.heap.size w W) => specCode_any xs f hs hf A c W (h.below hB))
  have HL := Lib.hid (fun (hz : codeF xs f = 0) W (hB : Below w.heap.size w W) => specCnt_any xs (fine_of hz h.2.2) (codeF_len hz).2.1 f A c W (h.below hB))
  have HV := Lib.hid (show cerV xs f = ((codeF xs f == 0) && decide (((allD xs xs.length 0 []).filter (told xs f)).length = (allD xs xs.length 0 []).length)) by unfold cerV; rw [count_all])
  have HB := Lib.hid (fun (hz : codeF xs f = 0) => And.intro (allD_count (codeF_len hz).2.1) (List.length_filter_le (told xs f) (allD xs xs.length 0 [])))
  clear h
  have KN := Lib.hid (blks_one w 26 #[.int .i64 f.kind, .string f.place, .string f.val_, .int .i64 f.year])
  have h01 := codeF_01 xs f
  unfold Fct.val at HC HL ⊢
  generalize ((allD xs xs.length 0 []).filter (told xs f)).length = n at *
  generalize (allD xs xs.length 0 []).length = m at *
  generalize cerV xs f = r at HV ⊢
  generalize codeF xs f = code at *
  go_enter Tryz.func9, Tryz.ntmps9
  go_upto_region 1 with (fail)
  generalize hW : w.alloc (.cells #[.int .i64 f.kind, .string f.place, .string f.val_, .int .i64 f.year] 26) = W
  obtain ⟨bk, bw, _⟩ := KN.out W hW.symm
  clear hW
  have KB := Lib.hid bk; have B0 := Lib.hid bw
  obtain ⟨x0, x1, x2, x3⟩ := cells_4 bk
  clear bk bw
  go_wp2_with fail
  refine (HC.out W B0.out).mono ?_; rintro e w1 ⟨rfl, b1⟩
  have B1 := Lib.hid (B0.out.trans (b1.mono B0.out.size))
  obtain ⟨y0, y1, y2, y3⟩ := cells_4 (KB.out.below b1 KB.out.lt)
  clear b1 x0 x1 x2 x3
  rcases h01 with rfl | rfl
  · have HL2 := Lib.hid (HL.out rfl w1 B1.out)
    obtain ⟨hm1, hm2⟩ := HB.out rfl
    clear HL HB
    go_wp2_with fail
    refine HL2.out.mono ?_; rintro e w2 ⟨rfl, b2⟩
    go_wp2_with fail
    go_ret2
    exact ⟨by rw [HV.out]; first | rfl | (simp; done) | (simp; rw [Bool.eq_iff_iff, beq_iff_eq, decide_eq_true_eq]; omega), B1.out.trans (b2.mono B1.out.size)⟩
  · clear HL HB
    go_wp2_with fail
    go_ret2
    exact ⟨by rw [HV.out]; rfl, B1.out⟩
end Go.Proofs.YtihhpmhigmegjaaGreatDoor

namespace Go.Proofs.YtihhpmhigmegjaaGreatDoor
open Go.ChangeShapes Go.WideShapes Go.ChangeAt Go.RowKit Go.Sort

set_option maxRecDepth 100000 in
set_option maxHeartbeats 2000000 in
theorem isTold_any (xs : List Clm) (hf : Fine xs) (f : Fct) (L : List Nat) (hL : L.length ≤ 1048576) (A A' : Option Addr) (c c' : Nat) (w : World) (h : HasClm w xs A) (hr : Reads w w.heap.size 1 A' L.length (inC (ints L))) :
    Calls Tryz.prog 49 #[.slice A xs.length c, .slice A' L.length c', f.val] w fun e w' => e = .returned (.bool (told xs f L)) ∧ Below w.heap.size w w' := by
  have KN := Lib.hid (blks_one w 26 #[.int .i64 f.kind, .string f.place, .string f.val_, .int .i64 f.year])
  have HKF := Lib.hid (hf.keep L)
  have HK1 := Lib.hid (fun W (hB : Below w.heap.size w W) => kept_any xs L hL hf.len A A' c c' W (h.below hB).1 ((hr.below hB).more hB.size))
  have HT1 := Lib.hid (fun Ac cc W (hc : HasClm W (keepN L 0 xs) Ac) => implTelL_any (keepN L 0 xs) f HKF.out.len Ac cc W hc)
  have HTd := Lib.hid (show told xs f L = decide (0 < (whichC (keepN L 0 xs) (fun c => telB c f)).length) from rfl)
  have hwl := Nat.le_trans (wC_len (keepN L 0 xs) (fun c => telB c f) (keepN L 0 xs).length) HKF.out.len
  clear h hr
  unfold Fct.val at HT1 ⊢
  generalize told xs f L = q at HTd ⊢
  rw [show wC (keepN L 0 xs) (fun c => telB c f) (keepN L 0 xs).length = whichC (keepN L 0 xs) (fun c => telB c f) from rfl] at hwl
  generalize whichC (keepN L 0 xs) (fun c => telB c f) = TL at HT1 HTd hwl
  generalize keepN L 0 xs = KL at *
  go_enter Tryz.func49, Tryz.ntmps49
  go_upto_region 1 with (fail)
  generalize hW : w.alloc (.cells #[.int .i64 f.kind, .string f.place, .string f.val_, .int .i64 f.year] 26) = W
  obtain ⟨bk, bw, _⟩ := KN.out W hW.symm
  clear hW
  have B1 := Lib.hid bw
  obtain ⟨x0, x1, x2, x3⟩ := cells_4 bk
  have SLw := Lib.hid bk.lt
  have HK2 := Lib.hid (fun W2 (hB : Below W.heap.size W W2) => HK1.out W2 (B1.out.trans (hB.mono B1.out.size)))
  clear bk bw
  have Bd := (Below.refl W.heap.size W).drew
  go_region_held3 (fun w' => w'.cell? ⟨w.heap.size, 0, none⟩ = some (.int .i64 f.kind) ∧ w'.cell? ⟨w.heap.size, 1, none⟩ = some (.string f.place) ∧ w'.cell? ⟨w.heap.size, 2, none⟩ = some (.string f.val_) ∧ w'.cell? ⟨w.heap.size, 3, none⟩ = some (.int .i64 f.year))
    (first | exact ⟨k0, k1, k2, k3⟩ | (go_keep; done) | ((try dsimp only); (repeat' apply And.intro) <;> (go_keep; done)))
    (first | (go_at_call 109; refine (HK2.out _ Bd).mono ?_; rintro e wn ⟨vr, rfl, or_, bn⟩; (obtain ⟨Ac, cc2, rfl, _⟩ := own_shape or_); (have OC := Lib.hid (has_own HKF.out or_)); (have Bd := Bd.trans (bn.mono Bd.size)); (have k0 := (Bd.cell (p := ⟨w.heap.size, 0, none⟩) SLw.out).trans x0); (have k1 := (Bd.cell (p := ⟨w.heap.size, 1, none⟩) SLw.out).trans x1); (have k2 := (Bd.cell (p := ⟨w.heap.size, 2, none⟩) SLw.out).trans x2); (have k3 := (Bd.cell (p := ⟨w.heap.size, 3, none⟩) SLw.out).trans x3); clear or_ bn) | (go_at_call 53; refine (HT1.out Ac cc2 _ OC.out).mono ?_; rintro e wn ⟨vr, rfl, or_, bn⟩; (obtain ⟨At, ct, rfl, _⟩ := own_shape or_); (have Bd := Bd.trans (bn.mono Bd.size)); (have k0 := (Bd.cell (p := ⟨w.heap.size, 0, none⟩) SLw.out).trans x0); (have k1 := (Bd.cell (p := ⟨w.heap.size, 1, none⟩) SLw.out).trans x1); (have k2 := (Bd.cell (p := ⟨w.heap.size, 2, none⟩) SLw.out).trans x2); (have k3 := (Bd.cell (p := ⟨w.heap.size, 3, none⟩) SLw.out).trans x3); clear or_ bn) | fail)
  all_goals
    go_wp2_with fail
    go_ret
    exact ⟨by first | (rw [HTd.out]; done) | (rw [HTd.out]; simp), B1.out.trans (Bd.mono B1.out.size)⟩
set_option maxRecDepth 100000 in
theorem pos1_any (xs : List Clm) (hf : Fine xs) (f : Fct) (L : List Nat) (hL : L.length ≤ 1048576) (A : Option Addr) (c gl gf lo : Nat) (g : Option Nat) (t : TypeId) (v : Value) (w : World) (h1 : Blk w gl t #[.slice A xs.length c]) (h2 : Blk w gf 26 #[.int .i64 f.kind, .string f.place, .string f.val_, .int .i64 f.year]) (h : HasClm w xs A) (hE : ElemAt w lo g v L) :
    Calls Tryz.prog 114 #[v, .pointer (some ⟨gl, 0, none⟩), .pointer (some ⟨gf, 0, none⟩)] w fun e w' => e = .returned (.bool (told xs f L)) ∧ Below w.heap.size w w' := by
  obtain ⟨A', c', rfl, _⟩ := id hE
  have HT := Lib.hid (isTold_any xs hf f L hL A A' c c' w h hE.reads.1)
  have y0 := h1.cell 0
  simp only [List.getElem?_toArray, List.getElem?_cons_zero] at y0
  obtain ⟨x0, x1, x2, x3⟩ := cells_4 h2
  clear h1 h2 h hE
  unfold Fct.val at HT
  generalize told xs f L = q at HT ⊢
  go_enter Tryz.func114, Tryz.ntmps114
  go_wp2_with fail
  refine HT.out.mono ?_; rintro e w1 ⟨rfl, b1⟩
  go_wp2_with fail
  go_ret
  exact ⟨rfl, b1⟩
set_option maxRecDepth 100000 in
theorem pos1Idx_any (P : List Nat → Bool) (LL : List (List Nat)) (us : List Value) (gl gf lo : Nat) (g : Option Nat) (B : Option Addr) (c : Nat) (w : World) (hr : Reads w w.heap.size 1 B LL.length us) (he : Elems w lo g us LL) (hm : LL.length ≤ 1048576)
    (hp : ∀ L ∈ LL, ∀ v W, Below w.heap.size w W → ElemAt W lo g v L → Calls Tryz.prog 114 #[v, .pointer (some ⟨gl, 0, none⟩), .pointer (some ⟨gf, 0, none⟩)] W fun e w' => e = .returned (.bool (P L)) ∧ Below W.heap.size W w') :
    Calls Tryz.prog 103 #[.slice B LL.length c, .func (.func 114) #[] #[.pointer (some ⟨gl, 0, none⟩), .pointer (some ⟨gf, 0, none⟩)]] w fun e w' => ∃ i : Int, e = .returned (.int .i64 i) ∧ decide (0 ≤ i) = LL.any P ∧ Below w.heap.size w w' := by
  have HR := Lib.hid hr; have HEl := Lib.hid he; have HP := Lib.hid hp; have HLU := Lib.hid he.1; clear hr he hp
  go_enter Tryz.func103, Tryz.ntmps103
  go_wp2_with fail
  go_loopw [8] (fun v8 wr => ∃ k : Nat, k ≤ LL.length ∧ Hid ((LL.take k).any P = false) ∧ Hid (Below w.heap.size w wr) ∧ v8 = .int .i64 k) (fun i _ => LL.length - (intOf i).toNat)
  case atStart => exact ⟨0, by omega, by simp [Hid], Below.refl _ _, rfl⟩
  case round =>
    obtain ⟨k, hk, HT, BW, rfl⟩ := hrel
    by_cases hlt : k < LL.length
    · obtain ⟨ab, ao, rfl, hadb, hcell⟩ := (HR.out.below BW.out).2 (by omega)
      have hku : k < us.length := by rw [HLU.out]; exact hlt
      have c0 := hcell k us[k] (by simp [hku])
      have HEk := (HEl.out.below BW.out).2 k us[k] LL[k] (by simp [hku]) (by simp [hlt])
      obtain ⟨Ak, ck, hek, _⟩ := id HEk
      rw [hek] at c0 HEk
      have HC := Lib.hid (HP.out LL[k] (List.getElem_mem hlt) _ wr BW.out HEk)
      have HS := Lib.hid (any_at (p := P) hlt)
      have HY := Lib.hid (show P LL[k] = true → LL.any P = true from fun h => List.any_eq_true.2 ⟨_, List.getElem_mem hlt, h⟩)
      clear hcell hek HEk
      generalize LL[k] = L at c0 HC HS HY
      cases hb : P L
      · rw [hb] at HC HS
        have HN := Lib.hid (show (LL.take (k + 1)).any P = false by rw [HS.out, HT.out]; rfl)
        clear hb
        go_wp2_with fail
        refine HC.out.mono ?_; rintro e w1 ⟨rfl, b1⟩
        go_wp2_with fail
        go_roundw
        case rel => exact ⟨k + 1, by omega, HN.out, BW.out.trans (b1.mono BW.out.size), by go_num⟩
        case measure => simp [intOf]; omega
      · rw [hb] at HC
        have HN := Lib.hid (HY.out hb)
        clear hb
        go_wp2_with fail
        refine HC.out.mono ?_; rintro e w1 ⟨rfl, b1⟩
        go_wp2_with fail
        go_ret
        exact ⟨k, rfl, by rw [HN.out]; simp, BW.out.trans (b1.mono BW.out.size)⟩
    · obtain rfl : k = LL.length := by omega
      have HN := Lib.hid (show LL.any P = false by have := HT.out; rwa [List.take_length] at this)
      go_wp2_with fail
      go_ret
      exact ⟨-1, rfl, by rw [HN.out]; rfl, BW.out⟩
theorem pos1Has_any (P : List Nat → Bool) (LL : List (List Nat)) (us : List Value) (gl gf lo : Nat) (g : Option Nat) (B : Option Addr) (c : Nat) (w : World) (hr : Reads w w.heap.size 1 B LL.length us) (he : Elems w lo g us LL) (hm : LL.length ≤ 1048576)
    (hp : ∀ L ∈ LL, ∀ v W, Below w.heap.size w W → ElemAt W lo g v L → Calls Tryz.prog 114 #[v, .pointer (some ⟨gl, 0, none⟩), .pointer (some ⟨gf, 0, none⟩)] W fun e w' => e = .returned (.bool (P L)) ∧ Below W.heap.size W w') :
    Calls Tryz.prog 46 #[.slice B LL.length c, .func (.func 114) #[] #[.pointer (some ⟨gl, 0, none⟩), .pointer (some ⟨gf, 0, none⟩)]] w fun e w' => e = .returned (.bool (LL.any P)) ∧ Below w.heap.size w w' := by
  have HC := Lib.hid (pos1Idx_any P LL us gl gf lo g B c w hr he hm hp); clear hr he hp
  generalize LL.any P = r at HC ⊢
  go_enter Tryz.func46, Tryz.ntmps46
  go_wp2_with fail
  refine HC.out.mono ?_; rintro e w1 ⟨i, rfl, hi, b1⟩
  have HI := Lib.hid hi; clear hi
  go_wp2_with fail
  go_ret
  exact ⟨ret_bool HI.out, b1⟩
set_option maxRecDepth 100000 in
theorem cer1_any (xs : List Clm) (hf : Fine xs) (f : Fct) (L : List Nat) (hL : L.length ≤ 1048576) (A : Option Addr) (c gl gf lo : Nat) (g : Option Nat) (t : TypeId) (v : Value) (w : World) (h1 : Blk w gl t #[.slice A xs.length c]) (h2 : Blk w gf 26 #[.int .i64 f.kind, .string f.place, .string f.val_, .int .i64 f.year]) (h : HasClm w xs A) (hE : ElemAt w lo g v L) :
    Calls Tryz.prog 48 #[v, .pointer (some ⟨gl, 0, none⟩), .pointer (some ⟨gf, 0, none⟩)] w fun e w' => e = .returned (.bool (!told xs f L)) ∧ Below w.heap.size w w' := by
  obtain ⟨A', c', rfl, _⟩ := id hE
  have HT := Lib.hid (isTold_any xs hf f L hL A A' c c' w h hE.reads.1)
  have y0 := h1.cell 0
  simp only [List.getElem?_toArray, List.getElem?_cons_zero] at y0
  obtain ⟨x0, x1, x2, x3⟩ := cells_4 h2
  clear h1 h2 h hE
  unfold Fct.val at HT
  generalize told xs f L = q at HT ⊢
  go_enter Tryz.func48, Tryz.ntmps48
  go_wp2_with fail
  refine HT.out.mono ?_; rintro e w1 ⟨rfl, b1⟩
  go_wp2_with fail
  go_ret
  exact ⟨rfl, b1⟩
set_option maxRecDepth 100000 in
theorem cer1Idx_any (P : List Nat → Bool) (LL : List (List Nat)) (us : List Value) (gl gf lo : Nat) (g : Option Nat) (B : Option Addr) (c : Nat) (w : World) (hr : Reads w w.heap.size 1 B LL.length us) (he : Elems w lo g us LL) (hm : LL.length ≤ 1048576)
    (hp : ∀ L ∈ LL, ∀ v W, Below w.heap.size w W → ElemAt W lo g v L → Calls Tryz.prog 48 #[v, .pointer (some ⟨gl, 0, none⟩), .pointer (some ⟨gf, 0, none⟩)] W fun e w' => e = .returned (.bool (P L)) ∧ Below W.heap.size W w') :
    Calls Tryz.prog 103 #[.slice B LL.length c, .func (.func 48) #[] #[.pointer (some ⟨gl, 0, none⟩), .pointer (some ⟨gf, 0, none⟩)]] w fun e w' => ∃ i : Int, e = .returned (.int .i64 i) ∧ decide (0 ≤ i) = LL.any P ∧ Below w.heap.size w w' := by
  have HR := Lib.hid hr; have HEl := Lib.hid he; have HP := Lib.hid hp; have HLU := Lib.hid he.1; clear hr he hp
  go_enter Tryz.func103, Tryz.ntmps103
  go_wp2_with fail
  go_loopw [8] (fun v8 wr => ∃ k : Nat, k ≤ LL.length ∧ Hid ((LL.take k).any P = false) ∧ Hid (Below w.heap.size w wr) ∧ v8 = .int .i64 k) (fun i _ => LL.length - (intOf i).toNat)
  case atStart => exact ⟨0, by omega, by simp [Hid], Below.refl _ _, rfl⟩
  case round =>
    obtain ⟨k, hk, HT, BW, rfl⟩ := hrel
    by_cases hlt : k < LL.length
    · obtain ⟨ab, ao, rfl, hadb, hcell⟩ := (HR.out.below BW.out).2 (by omega)
      have hku : k < us.length := by rw [HLU.out]; exact hlt
      have c0 := hcell k us[k] (by simp [hku])
      have HEk := (HEl.out.below BW.out).2 k us[k] LL[k] (by simp [hku]) (by simp [hlt])
      obtain ⟨Ak, ck, hek, _⟩ := id HEk
      rw [hek] at c0 HEk
      have HC := Lib.hid (HP.out LL[k] (List.getElem_mem hlt) _ wr BW.out HEk)
      have HS := Lib.hid (any_at (p := P) hlt)
      have HY := Lib.hid (show P LL[k] = true → LL.any P = true from fun h => List.any_eq_true.2 ⟨_, List.getElem_mem hlt, h⟩)
      clear hcell hek HEk
      generalize LL[k] = L at c0 HC HS HY
      cases hb : P L
      · rw [hb] at HC HS
        have HN := Lib.hid (show (LL.take (k + 1)).any P = false by rw [HS.out, HT.out]; rfl)
        clear hb
        go_wp2_with fail
        refine HC.out.mono ?_; rintro e w1 ⟨rfl, b1⟩
        go_wp2_with fail
        go_roundw
        case rel => exact ⟨k + 1, by omega, HN.out, BW.out.trans (b1.mono BW.out.size), by go_num⟩
        case measure => simp [intOf]; omega
      · rw [hb] at HC
        have HN := Lib.hid (HY.out hb)
        clear hb
        go_wp2_with fail
        refine HC.out.mono ?_; rintro e w1 ⟨rfl, b1⟩
        go_wp2_with fail
        go_ret
        exact ⟨k, rfl, by rw [HN.out]; simp, BW.out.trans (b1.mono BW.out.size)⟩
    · obtain rfl : k = LL.length := by omega
      have HN := Lib.hid (show LL.any P = false by have := HT.out; rwa [List.take_length] at this)
      go_wp2_with fail
      go_ret
      exact ⟨-1, rfl, by rw [HN.out]; rfl, BW.out⟩
theorem cer1Has_any (P : List Nat → Bool) (LL : List (List Nat)) (us : List Value) (gl gf lo : Nat) (g : Option Nat) (B : Option Addr) (c : Nat) (w : World) (hr : Reads w w.heap.size 1 B LL.length us) (he : Elems w lo g us LL) (hm : LL.length ≤ 1048576)
    (hp : ∀ L ∈ LL, ∀ v W, Below w.heap.size w W → ElemAt W lo g v L → Calls Tryz.prog 48 #[v, .pointer (some ⟨gl, 0, none⟩), .pointer (some ⟨gf, 0, none⟩)] W fun e w' => e = .returned (.bool (P L)) ∧ Below W.heap.size W w') :
    Calls Tryz.prog 46 #[.slice B LL.length c, .func (.func 48) #[] #[.pointer (some ⟨gl, 0, none⟩), .pointer (some ⟨gf, 0, none⟩)]] w fun e w' => e = .returned (.bool (LL.any P)) ∧ Below w.heap.size w w' := by
  have HC := Lib.hid (cer1Idx_any P LL us gl gf lo g B c w hr he hm hp); clear hr he hp
  generalize LL.any P = r at HC ⊢
  go_enter Tryz.func46, Tryz.ntmps46
  go_wp2_with fail
  refine HC.out.mono ?_; rintro e w1 ⟨i, rfl, hi, b1⟩
  have HI := Lib.hid hi; clear hi
  go_wp2_with fail
  go_ret
  exact ⟨ret_bool HI.out, b1⟩
end Go.Proofs.YtihhpmhigmegjaaGreatDoor
