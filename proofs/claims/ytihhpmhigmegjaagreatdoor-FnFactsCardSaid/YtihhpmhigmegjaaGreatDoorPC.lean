/- Merged: The order of lists of indices; the library's SortFunc at a list of lists of indices. Without one bit; minimalRepairs$1 and ContainsFunc at it. ContainsFunc at minimalRepairs$1; a sweep finds something. impl.minimalRepairs. impl.IsPossible, IsCertain. -/
import Derived.Test.YtihhpmhigmegjaaGreatDoorRows
import Derived.Test.YtihhpmhigmegjaaGreatDoorL0
import Derived.Test.YtihhpmhigmegjaaGreatDoorM0
import Derived.WalkKit
import Derived.ProofKit
import Derived.OpenShut
import Derived.BigQuiet
import Derived.Outline
import Derived.WalkSpells
import Derived.WalkLawsBesides
import Derived.Deep.DeepCutAuto
import Derived.Test.YtihhpmhigmegjaaGreatDoorPB
import Derived.Test.YtihhpmhigmegjaaGreatDoorI3
import Derived.Test.YtihhpmhigmegjaaGreatDoorKF
import Derived.Test.YtihhpmhigmegjaaGreatDoorMA
namespace Go.Proofs.YtihhpmhigmegjaaGreatDoor
open Go.ChangeShapes Go.WideShapes Go.ChangeAt Go.RowKit Go.Sort Go.Shelf

theorem cmpI_swap (a b : Int) : cmpI b a = - cmpI a b := by unfold cmpI; repeat' split <;> omega
theorem cmpI_zero (a b : Int) : cmpI a b = 0 ↔ a = b := by unfold cmpI; repeat' split <;> omega
theorem cmpI_neg (a b : Int) : cmpI a b < 0 ↔ a < b := by unfold cmpI; repeat' split <;> omega
theorem cmpL_cons (a b : Int) (I J : List Int) : cmpL (a :: I) (b :: J) = if cmpI a b = 0 then cmpL I J else cmpI a b := rfl
theorem cmpL_swap : ∀ I J : List Int, cmpL J I = - cmpL I J
  | [], [] => rfl
  | [], _ :: _ => rfl
  | _ :: _, [] => rfl
  | a :: I, b :: J => by
    rw [cmpL_cons, cmpL_cons, cmpI_swap a b]
    have ih := cmpL_swap I J
    by_cases h : cmpI a b = 0
    · rw [if_pos h, if_pos (by omega), ih]
    · rw [if_neg h, if_neg (by omega)]
theorem cmpL_zero : ∀ I J : List Int, cmpL I J = 0 → I = J
  | [], [], _ => rfl
  | [], _ :: _, h => by simp [cmpL] at h
  | _ :: _, [], h => by simp [cmpL] at h
  | a :: I, b :: J, h => by
    rw [cmpL_cons] at h
    by_cases h0 : cmpI a b = 0
    · rw [if_pos h0] at h
      rw [cmpL_zero I J h, (cmpI_zero a b).1 h0]
    · rw [if_neg h0] at h
      exact absurd h h0
theorem cmpL_trans : ∀ I J K : List Int, cmpL I J < 0 → cmpL J K < 0 → cmpL I K < 0
  | [], [], _, h, _ => by simp [cmpL] at h
  | [], _ :: _, [], _, h => by simp [cmpL] at h
  | [], _ :: _, _ :: _, _, _ => by simp [cmpL]
  | _ :: _, [], _, h, _ => by simp [cmpL] at h
  | _ :: _, _ :: _, [], _, h => by simp [cmpL] at h
  | a :: I, b :: J, c :: K, h1, h2 => by
    rw [cmpL_cons] at h1 h2 ⊢
    have ih := cmpL_trans I J K
    have z1 := cmpI_zero a b
    have z2 := cmpI_zero b c
    have z3 := cmpI_zero a c
    have n1 := cmpI_neg a b
    have n2 := cmpI_neg b c
    have n3 := cmpI_neg a c
    by_cases e1 : cmpI a b = 0
    · rw [if_pos e1] at h1
      by_cases e2 : cmpI b c = 0
      · rw [if_pos e2] at h2
        rw [if_pos (by omega)]
        exact ih h1 h2
      · rw [if_neg e2] at h2
        rw [if_neg (by omega)]
        omega
    · rw [if_neg e1] at h1
      by_cases e2 : cmpI b c = 0
      · rw [if_neg (by omega)]; omega
      · rw [if_neg e2] at h2
        rw [if_neg (by omega)]; omega
theorem cmpL_swo {α : Type} (L : α → List Int) : SWO (ltOf fun x y => cmpL (L x) (L y)) where
  irrefl x := by
    unfold ltOf
    dsimp only
    rw [decide_eq_false_iff_not]
    have := cmpL_swap (L x) (L x)
    omega
  trans x y z h1 h2 := by
    unfold ltOf at *
    dsimp only at *
    rw [decide_eq_true_eq] at *
    exact cmpL_trans _ _ _ h1 h2
  ntrans x y z h1 h2 := by
    unfold ltOf at *
    dsimp only at *
    rw [decide_eq_false_iff_not] at *
    have s1 := cmpL_swap (L x) (L y)
    have s2 := cmpL_swap (L y) (L z)
    have s3 := cmpL_swap (L x) (L z)
    intro h3
    rcases Int.lt_trichotomy (cmpL (L x) (L y)) 0 with h | h | h
    · exact h1 h
    · rw [cmpL_zero _ _ h] at h3; exact h2 h3
    · rcases Int.lt_trichotomy (cmpL (L y) (L z)) 0 with h' | h' | h'
      · exact h2 h'
      · rw [← cmpL_zero _ _ h'] at h3; omega
      · have := cmpL_trans _ _ _ (show cmpL (L z) (L y) < 0 by omega) (show cmpL (L y) (L x) < 0 by omega)
        omega
theorem grownBy_sortedG {α : Type} (enc : α → Value) {w : World} {g n : Nat} {os : Array Obj} (d : Array α) [Inhabited α] : w.grownBy (sortWorld enc w g 0 n d os) (some g) := by
  unfold sortWorld
  refine ⟨rfl, rfl, rfl, by simp, fun k hk hne => ?_⟩
  rw [Go.Sort.heap_grow_old _ _ (by simpa using hk)]
  have : g ≠ k := fun e => hne (by rw [e])
  simp [putRow, mapBlock, Sort.ahead, Array.getElem?_modify, this]
theorem perm_sorted {α : Type} [Inhabited α] {n : Nat} {d d' : Array α} (hs : d.size = n) (h : PermIn 0 n d d') : d'.size = n ∧ d'.toList.Perm d.toList := by
  obtain ⟨h1, _, h3⟩ := h
  have e0 : d'.size = n := by omega
  subst hs
  have e1 : d'.extract 0 d.size = d' := by rw [← e0]; simp
  have e2 : d.extract 0 d.size = d := by simp
  rw [e1, e2] at h3
  exact ⟨e0, h3⟩
set_option maxHeartbeats 1000000 in
theorem sortRows_any (LL : List (List Nat)) (us : List Value) (lo base g cap : Nat) (hn : 0 < LL.length) (hl : LL.length ≤ 1048576) (hs : ∀ L ∈ LL, L.length ≤ 1048576) (w : World)
    (hown : w.ownsRow base 31 1 (.slice (some ⟨g, 0, none⟩) LL.length cap) LL.length us) (he : Elems w lo (some g) us LL) :
    Calls Tryz.prog 107 #[.slice (some ⟨g, 0, none⟩) LL.length cap, .func (.func 108) #[] #[]] w fun e w' => e = .returned (.tuple #[]) ∧
      ∃ us' LL', LL'.Perm LL ∧ Reads w' w'.heap.size 1 (some ⟨g, 0, none⟩) LL.length us' ∧ Elems w' lo (some g) us' LL' ∧ w.grownBy w' (some g) := by
  have hlu : us.length = LL.length := he.1
  have hgl : g < w.heap.size := (own_lt hown g rfl).2
  letI inh : Inhabited (Fin LL.length) := ⟨⟨0, hn⟩⟩
  let enc : Fin LL.length → Value := fun i => us[i.val]'(by rw [hlu]; exact i.isLt)
  let cf : Fin LL.length → Fin LL.length → Int := fun x y => cmpL (ints LL[x.val]) (ints LL[y.val])
  let d : Array (Fin LL.length) := (List.finRange LL.length).toArray
  have hdz : d.size = LL.length := by simp [d]
  have hdg : ∀ j (h : j < LL.length), d[j]! = ⟨j, h⟩ := fun j h => by
    rw [getElem!_pos d j (by rw [hdz]; exact h)]
    simp [d]
  have hel : ∀ i : Fin LL.length, ElemAt w lo (some g) (enc i) LL[i.val] := fun i => he.2 i.val _ _ (by simp [enc, hlu]) (by simp)
  have h1 : OneCell enc := fun i => by
    obtain ⟨A, c, e, _⟩ := hel i
    rw [e]; rfl
  have hH : Holds enc w g 0 d := fun j hj => by
    rw [hdz] at hj
    refine ⟨?_, ?_⟩
    · rw [hdg j hj]
      have := hown.cells (g := g) rfl j _ (List.getElem?_eq_getElem (show j < us.length by omega))
      rw [add_lit0] at this
      exact this
    · rcases hown.2 with ⟨e, _⟩ | ⟨g', c', cur, e, _, hb, _⟩
      · cases e
      · simp only [Value.slice.injEq, Option.some.injEq, Addr.mk.injEq, and_true] at e
        obtain ⟨rfl, _⟩ := e
        simp [World.frozen?, hb]
  have hcmp : CmpLays1 Tryz.prog 108 #[] enc cf g 0 LL.length w := by
    intro m os dk hk x y
    have gx := (hel x).grown (grownBy_sortedG enc (w := w) (g := g) (n := m) (os := os) dk)
    have gy := (hel y).grown (grownBy_sortedG enc (w := w) (g := g) (n := m) (os := os) dk)
    obtain ⟨Ax, cx, ex, _⟩ := id gx
    obtain ⟨Ay, cy, ey, _⟩ := id gy
    rw [ex] at gx ⊢
    rw [ey] at gy ⊢
    have hc := compareL_any (ints LL[x.val]) (ints LL[y.val]) (by rw [ints_len]; have := hs _ (List.getElem_mem x.isLt); omega) (by rw [ints_len]; have := hs _ (List.getElem_mem y.isLt); omega) Ax Ay cx cy (sortWorld enc w g 0 m dk os) (by rw [ints_len]; exact gx.reads.1) (by rw [ints_len]; exact gy.reads.1)
    rw [ints_len, ints_len] at hc
    rw [Array.append_empty]
    refine hc.mono fun e w' ⟨h1, h2⟩ => ⟨h1, 0, #[], ?_⟩
    rw [← h2, grow_empty]; rfl
  have eg : ∀ args w, (callFunc 108 args).run Tryz.prog w = .ok (.enter 108 args) w := enters_of Tryz.func108 (by kernel_rfl) rfl
  have hc := Any.slices_SortFunc Tryz.lays6_f107 enc h1 cf (cmpL_swo fun x : Fin LL.length => ints LL[x.val]) 108 #[] g 0 cap d w eg (by rw [hdz]; exact hcmp) hH hgl (by rw [hdz]; omega)
  rw [hdz] at hc
  refine hc.mono fun e w' ⟨h1, d', n, os, hp, _, hw⟩ => ⟨h1, d'.toList.map enc, d'.toList.map (fun i => LL[i.val]), ?_, ?_, ?_, ?_⟩
  · have h2 := (perm_sorted hdz hp).2
    have h3 : d.toList.map (fun i => LL[i.val]) = LL := by
      apply List.ext_getElem
      · simp [d]
      · intro i h4 h5
        simp [d]
    exact (h2.map fun i => LL[i.val]).trans (List.Perm.of_eq h3)
  · have h2 := (perm_sorted hdz hp).1
    refine ⟨by simp [h2], fun _ => ⟨g, 0, rfl, ?_, fun j u hu => ?_⟩⟩
    · rw [hw]; have := (grownBy_sortedG enc (w := w) (g := g) (n := n) (os := os) d').size; omega
    · have hj : j < LL.length := by
        rcases Nat.lt_or_ge j LL.length with h | h
        · exact h
        · rw [List.getElem?_eq_none (by simp [h2]; omega)] at hu; cases hu
      have hh := (holds_putRow enc (Sort.ahead w n) g 0 d d' (holds_ahead enc w n g 0 d hH) (by omega) j (by omega)).1
      rw [hw]
      unfold sortWorld
      rw [cell?_grow _ _ _ (by simpa using hgl), hh]
      rw [List.getElem?_map, Array.getElem?_toList, Array.getElem?_eq_getElem (by omega)] at hu
      rw [getElem!_pos d' j (by omega)]
      simpa using hu
  · rw [hw]
    refine ⟨by simp, fun k v L hv hL => ?_⟩
    rw [List.getElem?_map] at hv hL
    cases hk : d'.toList[k]? with
    | none => rw [hk] at hv; cases hv
    | some i =>
      rw [hk] at hv hL
      rw [Option.map_some] at hv hL
      injection hv with hv; injection hL with hL
      rw [← hv, ← hL]
      exact (hel i).grown (grownBy_sortedG enc d')
  · rw [hw]; exact grownBy_sortedG enc d'
end Go.Proofs.YtihhpmhigmegjaaGreatDoor

namespace Go.Proofs.YtihhpmhigmegjaaGreatDoor
open Go.ChangeShapes Go.WideShapes Go.ChangeAt Go.RowKit Go.Sort

/-- A number without a bit that it has. -/
def clr (b i : Nat) : Nat := b ^^^ 2 ^ i
theorem clr_bit (b i j : Nat) : (clr b i).testBit j = (b.testBit j != decide (i = j)) := by
  unfold clr
  rw [Nat.testBit_xor, Nat.testBit_two_pow]
theorem clr_lt {b i : Nat} (h : b.testBit i = true) : clr b i < b := by
  have h1 : b &&& clr b i = clr b i := by
    apply Nat.eq_of_testBit_eq
    intro j
    rw [Nat.testBit_and, clr_bit]
    by_cases e : i = j
    · subst e; simp [h]
    · rw [decide_eq_false e]; cases b.testBit j <;> rfl
  have h2 : clr b i ≤ b := by rw [← h1]; exact Nat.and_le_left
  have h3 : clr b i ≠ b := fun e => by
    have h4 := clr_bit b i i
    rw [e, h] at h4
    simp at h4
  omega
theorem clr_sans {n b i : Nat} (h : b.testBit i = true) : bitsI n (clr b i) = sans (bitsI n b) i := by
  unfold bitsI sans
  rw [List.filter_filter]
  refine List.filter_congr fun j _ => ?_
  rw [clr_bit]
  by_cases e : i = j
  · subst e; simp [h]
  · rw [decide_eq_false e, decide_eq_true (show j ≠ i from fun h => e h.symm)]
    cases b.testBit j <;> rfl
theorem clr_val {b i : Nat} (hb : b < 2 ^ 60) (hi : i < 60) (h : b.testBit i = true) : bits .andNot .i64 (b : Int) ((2 ^ i : Nat) : Int) = ((clr b i : Nat) : Int) := by
  have hp : 2 ^ i < 2 ^ 60 := Nat.pow_lt_pow_right (by omega) hi
  have e1 : BitVec.ofInt 64 (b : Int) = BitVec.ofNat 64 b := rfl
  have e2 : BitVec.ofInt 64 ((2 ^ i : Nat) : Int) = BitVec.ofNat 64 (2 ^ i) := rfl
  have key : (BitVec.ofInt 64 (b : Int) &&& ~~~ BitVec.ofInt 64 ((2 ^ i : Nat) : Int)) = BitVec.ofNat 64 (clr b i) := by
    rw [e1, e2]
    apply BitVec.eq_of_getLsbD_eq
    intro j hj
    rw [BitVec.getLsbD_and, BitVec.getLsbD_not, BitVec.getLsbD_ofNat, BitVec.getLsbD_ofNat, BitVec.getLsbD_ofNat, clr_bit, Nat.testBit_two_pow]
    by_cases e : i = j
    · subst e; simp [h]
    · rw [decide_eq_false e]; simp [hj]
  show IntKind.i64.wrap ((BitVec.ofInt 64 (b : Int) &&& ~~~ BitVec.ofInt 64 ((2 ^ i : Nat) : Int)).toNat : Nat) = _
  rw [key, IntKind.wrap_i64, BitVec.toNat_ofNat]
  have := clr_lt h
  omega
set_option maxRecDepth 100000 in
theorem min1_any (b i N gg bt gb : Nat) (q : Bool) (hb : b < N) (hN : N ≤ 4096) (hi : i < 60) (hbit : b.testBit i = true) (w : World) (hgg : gg < w.heap.size) (hbt : bt < w.heap.size) (hgb : gb < w.heap.size)
    (x0 : w.cell? ⟨gg, 0, none⟩ = some (.slice (some ⟨gb, 0, none⟩) N N)) (y0 : w.cell? ⟨bt, 0, none⟩ = some (.int .i64 (b : Int))) (z0 : w.cell? ⟨gb, clr b i, none⟩ = some (.bool q)) :
    Calls Tryz.prog 105 #[.int .i64 (i : Int), .pointer (some ⟨gg, 0, none⟩), .pointer (some ⟨bt, 0, none⟩)] w fun e w' => e = .returned (.bool q) ∧ Below w.heap.size w w' := by
  have hcv := clr_val (show b < 2 ^ 60 by omega) hi hbit
  have hcl := clr_lt hbit
  have hpl : 2 ^ i < 2 ^ 60 := Nat.pow_lt_pow_right (by omega) hi
  have hpi : (2 : Int) ^ i = ((2 ^ i : Nat) : Int) := by push_cast; rfl
  have hi64 : i ≤ 64 := by omega
  have him : min i 64 = i := by omega
  generalize clr b i = d at *
  generalize 2 ^ i = P at *
  have q0 : (0 : Int) ≤ (d : Int) := by omega
  have q1 : (d : Int) < (N : Int) := by omega
  have q2 : ((d : Int)).toNat = d := by omega
  clear hbit
  have x1 := cell_regrown x0
  have y1 := cell_regrown y0
  have z1 := cell_regrown z0
  clear x0 y0 z0
  go_enter Tryz.func105, Tryz.ntmps105
  go_wp2_with fail
  refine wp_region_quiet_below (by kernel_rfl) (by kernel_rfl) ?_; (repeat (first | go_big_quiet_step (fail))); refine wpQuiet_nil ?_; intro _ hw'; obtain ⟨⟨dq, osq⟩, rfl⟩ := hw'
  go_wp2_with fail
  go_ret
  exact ⟨rfl, below_regrown w dq osq⟩
end Go.Proofs.YtihhpmhigmegjaaGreatDoor

namespace Go.Proofs.YtihhpmhigmegjaaGreatDoor
open Go.ChangeShapes Go.WideShapes Go.ChangeAt Go.RowKit Go.Sort

theorem keep_none {I : List Nat} : ∀ (xs : List Clm) (k : Nat), (∀ i, k ≤ i → i < k + xs.length → i ∈ I) → keepN I k xs = []
  | [], _, _ => rfl
  | c :: r, k, h => by
    rw [keepN, if_pos (h k (Nat.le_refl _) (by simp)), keep_none r (k + 1) (fun i h1 h2 => h i (by omega) (by simp; omega))]
theorem least_true (p : Nat → Bool) : ∀ k, p k = true → ∃ b, b ≤ k ∧ p b = true ∧ ∀ j, j < b → p j = false := by
  intro k
  induction k using Nat.strongRecOn with
  | _ k ih =>
  intro hk
  by_cases h : ∃ j, j < k ∧ p j = true
  · obtain ⟨j, hj, hp⟩ := h
    obtain ⟨b, h1, h2, h3⟩ := ih j hj hp
    exact ⟨b, by omega, h2, h3⟩
  · refine ⟨k, Nat.le_refl _, hk, fun j hj => ?_⟩
    cases hp : p j
    · rfl
    · exact absurd ⟨j, hj, hp⟩ h
theorem bits_mem {n b i : Nat} : i ∈ bitsI n b ↔ i < n ∧ b.testBit i = true := by unfold bitsI; rw [List.mem_filter, List.mem_range]
theorem sweep_pos (xs : List Clm) : 0 < (sweep xs (2 ^ xs.length)).length := by
  have hp := Nat.pow_pos (n := xs.length) (show 0 < 2 by omega)
  have hfull : repB xs (bitsI xs.length (2 ^ xs.length - 1)) = true := by
    unfold repB
    rw [keep_none xs 0 (fun i _ hi => bits_mem.2 ⟨by omega, by rw [Nat.testBit_two_pow_sub_one]; exact decide_eq_true (by omega)⟩)]
    rfl
  obtain ⟨b, h1, h2, h3⟩ := least_true (fun b => repB xs (bitsI xs.length b)) _ hfull
  have hmin : minB xs (bitsI xs.length b) = true := by
    rw [min_sml (asc_bits _ _).1, h2, Bool.true_and, Bool.not_eq_true', Bool.eq_false_iff]
    intro hs
    unfold smlB at hs
    rw [List.any_eq_true] at hs
    obtain ⟨x, hx, hr⟩ := hs
    have hb := (bits_mem.1 hx).2
    rw [← clr_sans hb] at hr
    have := h3 _ (clr_lt hb)
    rw [this] at hr
    cases hr
  refine List.length_pos_of_mem (a := bitsI xs.length b) ?_
  unfold sweep
  rw [List.mem_map]
  exact ⟨b, List.mem_filter.2 ⟨List.mem_range.2 (by omega), hmin⟩, rfl⟩
theorem inC_at (I : List Nat) (k : Nat) (h : k < I.length) : (inC (ints I))[k]? = some (.int .i64 ((I[k] : Nat) : Int)) := by simp [inC, ints, h]
set_option maxRecDepth 100000 in
theorem min1Idx_any (P : Nat → Bool) (I : List Nat) (gl gf : Nat) (B : Option Addr) (c : Nat) (w : World) (hr : Reads w w.heap.size 1 B I.length (inC (ints I))) (hm : I.length ≤ 1048576)
    (hp : ∀ i ∈ I, ∀ W, Below w.heap.size w W → Calls Tryz.prog 105 #[.int .i64 (i : Int), .pointer (some ⟨gl, 0, none⟩), .pointer (some ⟨gf, 0, none⟩)] W fun e w' => e = .returned (.bool (P i)) ∧ Below W.heap.size W w') :
    Calls Tryz.prog 147 #[.slice B I.length c, .func (.func 105) #[] #[.pointer (some ⟨gl, 0, none⟩), .pointer (some ⟨gf, 0, none⟩)]] w fun e w' => ∃ i : Int, e = .returned (.int .i64 i) ∧ decide (0 ≤ i) = I.any P ∧ Below w.heap.size w w' := by
  have HR := Lib.hid hr; have HP := Lib.hid hp; clear hr hp
  go_enter Tryz.func147, Tryz.ntmps147
  go_wp2_with fail
  go_loopw [8] (fun v8 wr => ∃ k : Nat, k ≤ I.length ∧ Hid ((I.take k).any P = false) ∧ Hid (Below w.heap.size w wr) ∧ v8 = .int .i64 k) (fun i _ => I.length - (intOf i).toNat)
  case atStart => exact ⟨0, by omega, by simp [Hid], Below.refl _ _, rfl⟩
  case round =>
    obtain ⟨k, hk, HT, BW, rfl⟩ := hrel
    by_cases hlt : k < I.length
    · obtain ⟨ab, ao, rfl, hadb, hcell⟩ := (HR.out.below BW.out).2 (by omega)
      have c0 := hcell k _ (inC_at I k hlt)
      have HC := Lib.hid (HP.out I[k] (List.getElem_mem hlt) wr BW.out)
      have HS := Lib.hid (any_at (p := P) hlt)
      have HY := Lib.hid (show P I[k] = true → I.any P = true from fun h => List.any_eq_true.2 ⟨_, List.getElem_mem hlt, h⟩)
      clear hcell
      generalize I[k] = x at c0 HC HS HY
      cases hb : P x
      · rw [hb] at HC HS
        have HN := Lib.hid (show (I.take (k + 1)).any P = false by rw [HS.out, HT.out]; rfl)
        clear hb
        go_wp2_with fail
        refine HC.out.mono ?_; rintro e w1 ⟨rfl, b1⟩
        go_wp2_with fail
        go_roundw
        case rel => exact ⟨k + 1, by omega, HN.out, BW.out.trans (b1.mono BW.out.size), by go_num⟩
        case measure => simp [intOf]; omega
      · rw [hb] at HC
        have HN := Lib.hid (HY.out hb)
        clear hb
        go_wp2_with fail
        refine HC.out.mono ?_; rintro e w1 ⟨rfl, b1⟩
        go_wp2_with fail
        go_ret
        exact ⟨k, rfl, by rw [HN.out]; simp, BW.out.trans (b1.mono BW.out.size)⟩
    · obtain rfl : k = I.length := by omega
      have HN := Lib.hid (show I.any P = false by have := HT.out; rwa [List.take_length] at this)
      go_wp2_with fail
      go_ret
      exact ⟨-1, rfl, by rw [HN.out]; rfl, BW.out⟩
theorem min1Has_any (P : Nat → Bool) (I : List Nat) (gl gf : Nat) (B : Option Addr) (c : Nat) (w : World) (hr : Reads w w.heap.size 1 B I.length (inC (ints I))) (hm : I.length ≤ 1048576)
    (hp : ∀ i ∈ I, ∀ W, Below w.heap.size w W → Calls Tryz.prog 105 #[.int .i64 (i : Int), .pointer (some ⟨gl, 0, none⟩), .pointer (some ⟨gf, 0, none⟩)] W fun e w' => e = .returned (.bool (P i)) ∧ Below W.heap.size W w') :
    Calls Tryz.prog 88 #[.slice B I.length c, .func (.func 105) #[] #[.pointer (some ⟨gl, 0, none⟩), .pointer (some ⟨gf, 0, none⟩)]] w fun e w' => e = .returned (.bool (I.any P)) ∧ Below w.heap.size w w' := by
  have HC := Lib.hid (min1Idx_any P I gl gf B c w hr hm hp); clear hr hp
  generalize I.any P = r at HC ⊢
  go_enter Tryz.func88, Tryz.ntmps88
  go_wp2_with fail
  refine HC.out.mono ?_; rintro e w1 ⟨i, rfl, hi, b1⟩
  have HI := Lib.hid hi; clear hi
  go_wp2_with fail
  go_ret
  exact ⟨ret_bool HI.out, b1⟩
end Go.Proofs.YtihhpmhigmegjaaGreatDoor

namespace Go.Proofs.YtihhpmhigmegjaaGreatDoor
open Go.ChangeShapes Go.WideShapes Go.ChangeAt Go.RowKit Go.Sort

theorem infoBool_ : (Tryz.prog.info? 4).map (fun i => (i.zero, i.size, i.bytes)) = some (some (.bool false), 1, 1) := by kernel_rfl
/-- What good holds in the end. -/
def goodL (xs : List Clm) (N : Nat) : List Value := (List.range N).map fun b => .bool (repB xs (bitsI xs.length b))
theorem goodL_at (xs : List Clm) {N b : Nat} (h : b < N) : (goodL xs N)[b]? = some (.bool (repB xs (bitsI xs.length b))) := by simp [goodL, h]
theorem goodL_len (xs : List Clm) (N : Nat) : (goodL xs N).length = N := by simp [goodL]
theorem made_start (w : World) (N : Nat) (L : List Value) (hl : L.length = N) (t t' : TypeId) (v : Value) (W : World) (hW : W = (w.alloc (.cells (madeCells #[.bool false] N) t)).alloc (.cells #[v] t')) :
    Copied W w.heap.size t 0 L ∧ Blk W (w.heap.size + 1) t' #[v] ∧ Below w.heap.size w W ∧ W.heap.size = w.heap.size + 2 := by
  subst hW
  have h0 : Copied (w.alloc (.cells (madeCells #[.bool false] N) t)) w.heap.size t 0 L := Copied.start w t _ (by rw [size_madeCells, hl])
  have hk := Blk.new (w.alloc (.cells (madeCells #[.bool false] N) t)) t' #[v]
  have hz : (w.alloc (.cells (madeCells #[.bool false] N) t)).heap.size = w.heap.size + 1 := by simp
  rw [hz] at hk
  exact ⟨h0.alloc _, hk, ((Below.refl w.heap.size w).alloc (Nat.le_refl _) _).alloc (by simp) _, by simp⟩
theorem grown_b {w w' : World} (h : Below w.heap.size w w') (row : Option Nat) : w.grownBy w' row := ⟨h.os, h.tape, h.output, h.size, fun k hk _ => h.block k hk⟩
theorem new_val1 (w : World) (t : TypeId) (a : Value) : Reads (w.alloc (.cells #[a] t)) (w.alloc (.cells #[a] t)).heap.size 1 (some ⟨w.heap.size, 0, none⟩) 1 [a] := by
  refine ⟨rfl, fun _ => ⟨w.heap.size, 0, rfl, by simp, fun j u hu => ?_⟩⟩
  have h1 := (Blk.new w t #[a]).cell (0 + j)
  rw [h1]
  match j with
  | 0 => simpa using hu
  | j + 1 => simp at hu
theorem set_grown (w : World) (g j : Nat) (u : Value) : w.grownBy (w.setCell ⟨g, j, none⟩ u) (some g) := ⟨rfl, rfl, rfl, by simp [World.setCell], fun k _ hne => Below.heap_setCell w ⟨g, j, none⟩ u k (fun e => hne (by rw [e]))⟩
theorem ElemAt.past {w w' : World} {lo gb : Nat} {g : Option Nat} {v : Value} {L : List Nat} (h : ElemAt w lo g v L) (hg' : w.grownBy w' (some gb)) (hb : gb < lo) : ElemAt w' lo g v L := by
  obtain ⟨A, c, e, h1, h2, h3⟩ := h
  refine ⟨A, c, e, h1, h2, fun h0 => ?_⟩
  obtain ⟨b, off, e, hl, hbb, hg, hc⟩ := h3 h0
  exact ⟨b, off, e, hl, Nat.lt_of_lt_of_le hbb hg'.size, hg, fun j u hu => (hg'.cell_far ⟨b, off + j, none⟩ hbb (fun h => by injection h with h; simp at h; omega)).trans (hc j u hu)⟩
theorem Elems.past {w w' : World} {lo gb : Nat} {g : Option Nat} {vs : List Value} {LL : List (List Nat)} (h : Elems w lo g vs LL) (hg' : w.grownBy w' (some gb)) (hb : gb < lo) : Elems w' lo g vs LL := ⟨h.1, fun k v L hv hL => (h.2 k v L hv hL).past hg' hb⟩
theorem Elems.appended {w w' : World} {lo : Nat} {g g' : Option Nat} {vs : List Value} {LL : List (List Nat)} (h : Elems w lo g vs LL) (hg : w.grownBy w' g) (hat : g' = g ∨ g' = some w.heap.size) : Elems w' lo g' vs LL := by
  rcases hat with rfl | rfl
  · exact h.grown hg
  · refine ⟨h.1, fun k v L hv hL => ?_⟩
    obtain ⟨A9, c9, q1, q2, q3, q4⟩ := h.2 k v L hv hL
    refine ⟨A9, c9, q1, q2, q3, fun h0 => ?_⟩
    obtain ⟨b, off, s1, s2, s3, s4, s5⟩ := q4 h0
    exact ⟨b, off, s1, s2, Nat.lt_of_lt_of_le s3 hg.size, fun e => by injection e with e; omega, fun j u hu => (hg.cell_far ⟨b, off + j, none⟩ s3 (fun e => s4 e.symm)).trans (s5 j u hu)⟩
theorem copied_kept {w w' : World} {g m : Nat} {t : TypeId} {L : List Value} {row : Option Nat} (h : Copied w g t m L) (hb : w.grownBy w' row) (hg : row ≠ some g) : Copied w' g t m L := by
  obtain ⟨cs, h1, h2⟩ := h
  exact ⟨cs, h1.grown hb (fun e => hg e.symm), h2⟩
theorem good_step {w4 W W8 : World} {gb gg bt k : Nat} {t t2 t3 : TypeId} {L : List Value} {a : Value} {cg ct : Array Value} (hB : Below w4.heap.size w4 W) (hW : W8 = W.setCell ⟨gb, k, none⟩ a ∨ W8 = (W.setCell ⟨gb, k, none⟩ a).drew) (hC : Copied w4 gb t k L) (ha : L[k]? = some a) (hG : Blk w4 gg t2 cg) (hT : Blk w4 bt t3 ct) (n1 : gb ≠ gg) (n2 : gb ≠ bt) :
    Copied W8 gb t (k + 1) L ∧ Blk W8 gg t2 cg ∧ Blk W8 bt t3 ct ∧ w4.grownBy W8 (some gb) := by
  have c1 := (hC.below hB hC.lt).set_ ha
  have g1 := (hG.below hB hG.lt).far (p := ⟨gb, k, none⟩) (fun e => n1 e.symm) a
  have t1 := (hT.below hB hT.lt).far (p := ⟨gb, k, none⟩) (fun e => n2 e.symm) a
  have w1 := (grown_b hB (some gb)).trans (set_grown W gb k a)
  rcases hW with rfl | rfl
  · exact ⟨c1, g1, t1, w1⟩
  · exact ⟨c1, g1.drew, t1.drew, w1.trans (grown_b (Below.refl _ _).drew (some gb))⟩
theorem sweep_small (xs : List Clm) (k : Nat) : ∀ L ∈ sweep xs k, L.length ≤ xs.length := fun L hL => by
  unfold sweep at hL
  rw [List.mem_map] at hL
  obtain ⟨b, _, rfl⟩ := hL
  exact bits_len _ _
theorem Copied.at_ {w : World} {g m j : Nat} {t : TypeId} {L : List Value} (h : Copied w g t m L) (hj : j < m) : w.cell? ⟨g, j, none⟩ = L[j]? := by
  obtain ⟨cs, h1, _, h3⟩ := h
  rw [h1.cell, h3 j hj]
theorem sweep_next (xs : List Clm) (k : Nat) : sweep xs (k + 1) = if (repB xs (bitsI xs.length k) && !smlB xs (bitsI xs.length k)) = true then sweep xs k ++ [bitsI xs.length k] else sweep xs k := by
  rw [sweep_step, min_sml (asc_bits _ _).1]
set_option maxRecDepth 100000 in
set_option maxHeartbeats 4000000 in
theorem minRep_any (xs : List Clm) (hf : Fine xs) (h12 : xs.length ≤ 12) (A : Option Addr) (c : Nat) (w : World) (h : HasClm w xs A) :
    Calls Tryz.prog 47 #[.slice A xs.length c] w fun e w' => ∃ LL B cc us, e = .returned (.slice B LL.length cc) ∧ LL.Perm (sweep xs (2 ^ xs.length)) ∧ Reads w' w'.heap.size 1 B LL.length us ∧ Elems w' (w.heap.size + 2) (Value.ownBlock (.slice B LL.length cc)) us LL ∧ Below w.heap.size w w' := by
  obtain ⟨i0, hi0, hz0, hz1, hz2⟩ := info_parts infoRow
  obtain ⟨ib, hib, hb0, hb1, hb2⟩ := info_parts infoBool_
  have H := Lib.hid h; clear h
  have HSB := Lib.hid (fun I hI (A' : Option Addr) c' W (hB : Below w.heap.size w W) hr => implRep_any xs hf I hI A A' c c' W (H.out.below hB).1 hr)
  have hNp := Nat.pow_pos (n := xs.length) (show 0 < 2 by omega)
  have hNm : 2 ^ xs.length ≤ 2 ^ 12 := Nat.pow_le_pow_right (by omega) h12
  have hN2 : (2 : Int) ^ xs.length = ((2 ^ xs.length : Nat) : Int) := by push_cast; rfl
  have hx64 : xs.length ≤ 64 := by omega
  have hx63 : min xs.length 64 = xs.length := by omega
  have HPos := Lib.hid (sweep_pos xs)
  have HSub := Lib.hid (fun b (hb : b < 2 ^ xs.length) => subset_any xs.length b hb (by omega))
  generalize 2 ^ xs.length = N at *
  have hN4 : N ≤ 4096 := by omega
  clear hNm
  have hmk := fun W => run_make_rowN (P := Tryz.prog) 109 4 ib _ Tryz.underlying109 hib hb0 .i64 .i64 N N (Nat.le_refl _) (by rw [hb2]; omega) (by omega) W
  rw [hb1] at hmk
  have KN := Lib.hid (made_start w N (goodL xs N) (goodL_len xs N) 4 109 (.slice (some ⟨w.heap.size, 0, none⟩) N N))
  go_enter Tryz.func47, Tryz.ntmps47
  go_upto_region 2 with (fail)
  generalize hW : ((w.alloc (.cells (madeCells #[.bool false] N) 4)).alloc (.cells #[.slice (some ⟨w.heap.size, 0, none⟩) N N] 109)) = W1
  obtain ⟨C1, G1, B1, S1⟩ := KN.out W1 hW.symm
  have HC1 := Lib.hid C1; have HG1 := Lib.hid G1; have HB1 := Lib.hid B1; have HS1 := Lib.hid S1
  clear C1 G1 B1 S1 KN hW hmk
  obtain ⟨gb, hgb⟩ : ∃ gb, gb = w.heap.size := ⟨_, rfl⟩
  obtain ⟨gg, hgg⟩ : ∃ gg, gg = w.heap.size + 1 := ⟨_, rfl⟩
  rw [← hgg, ← hgb] at HG1
  rw [← hgb] at HC1
  rw [← hgg, ← hgb]
  have HGG := Lib.hid hgg; have HGB := Lib.hid hgb
  clear hgg hgb
  go_wp2_with fail
  go_loopw [4, 15] (fun v4 v15 wr => ∃ (k m : Nat) (B : Option Addr) (d : Nat) (us : List Value), k ≤ N ∧ m ≤ k ∧ Hid ((sweep xs k).length = m) ∧ v4 = .slice B m d ∧ Hid (wr.ownsRow (w.heap.size + 2) 31 1 (.slice B m d) m us) ∧ Hid (Elems wr (w.heap.size + 2) (Value.ownBlock (.slice B m d)) us (sweep xs k)) ∧ Hid (Copied wr gb 4 k (goodL xs N)) ∧ Hid (Blk wr gg 109 #[.slice (some ⟨gb, 0, none⟩) N N]) ∧ Hid (Below w.heap.size w wr) ∧ Hid (w.heap.size + 2 ≤ wr.heap.size) ∧ v15 = .int .i64 k) (fun _ i _ => N - (intOf i).toNat)
  case atStart => exact ⟨0, 0, none, 0, [], by omega, by omega, rfl, rfl, World.ownsRow_nil _ _ _ _, Elems.nil_, HC1.out, HG1.out, HB1.out, by rw [HS1.out]; exact Nat.le_refl _, rfl⟩
  case round =>
    clear HC1 HG1 HB1 HS1
    obtain ⟨k, m, B, d, us, hk, hmk, HN, rfl, HO, HEl, HC, HG, BW, HSz, rfl⟩ := hrel
    by_cases hlt : k < N
    · have hlt0 : (k : Int) < (N : Int) := by omega
      have hk0 : (0 : Int) ≤ (k : Int) := by omega
      have hk1 : ((k : Int)).toNat = k := by omega
      have KB := Lib.hid (blks_one wr 2 #[.int .i64 (k : Int)])
      have HSk := Lib.hid (HSub.out k hlt)
      have HSt := Lib.hid (sweep_next xs k)
      have hil := bits_len xs.length k
      have HSm := Lib.hid (fun h => sml_rep (xs := xs) (I := bitsI xs.length k) h)
      have HGd := Lib.hid (goodL_at xs hlt)
      go_wp2_with fail
      refine (HSk.out _).mono ?_; rintro e w3 ⟨v3, rfl, own3, b3⟩
      obtain ⟨A3, c3, rfl, _⟩ := own_shape own3
      generalize hW2 : wr.alloc (.cells #[.int .i64 (k : Int)] 2) = W2 at own3 b3 ⊢
      obtain ⟨kb1, kb2, kb3⟩ := KB.out W2 hW2.symm
      clear hW2 KB
      obtain ⟨bt, hbt⟩ : ∃ bt, bt = wr.heap.size := ⟨_, rfl⟩
      rw [← hbt] at kb1 kb3 ⊢
      have HBT := Lib.hid hbt; clear hbt
      have B3 := Lib.hid (kb2.trans (b3.mono kb2.size))
      have O3 := Lib.hid own3
      have hb3 := b3.size
      have hb2' := kb2.size
      have KBt := Lib.hid (kb1.below b3 kb1.lt)
      have HCF := Lib.hid (min1Has_any (fun i => repB xs (sans (bitsI xs.length k) i)) (bitsI xs.length k) gg bt A3 c3 w3 (Reads.of_own own3) (by omega) (fun i hi W hB => by
        have hBW := B3.out.trans (hB.mono B3.out.size)
        have g1 := HG.out.below hBW HG.out.lt
        have g2 := KBt.out.below hB KBt.out.lt
        have g3 := HC.out.below hBW HC.out.lt
        have hbit := (bits_mem.1 hi).2
        refine min1_any k i N gg bt gb _ hlt hN4 (by have := (bits_mem.1 hi).1; omega) hbit W g1.lt g2.lt g3.lt ?_ ?_ ?_
        · rw [g1.cell]; rfl
        · rw [g2.cell]; rfl
        · rw [g3.at_ (clr_lt hbit), goodL_at xs (by have := clr_lt hbit; omega), clr_sans hbit]))
      rw [show ((bitsI xs.length k).any fun i => repB xs (sans (bitsI xs.length k) i)) = smlB xs (bitsI xs.length k) from rfl] at HCF
      have hs2 := kb3
      rw [HBT.out] at hs2
      clear own3 b3 kb1 kb2 kb3 hb3 hb2' HSk
      have HRp := Lib.hid (fun W (hB : Below w.heap.size w W) hr => HSB.out (bitsI xs.length k) (by omega) A3 c3 W hB hr)
      have HSW := Lib.hid (show W2.heap.size = wr.heap.size + 1 from hs2)
      clear hs2
      generalize repB xs (bitsI xs.length k) = r at HSt HSm HGd HRp
      generalize bitsI xs.length k = I at *
      generalize smlB xs I = q at *
      go_wp2_with fail
      refine HCF.out.mono ?_; rintro e w4 ⟨rfl, b4⟩
      have B4 := Lib.hid (B3.out.trans (b4.mono B3.out.size))
      have KB4 := Lib.hid (KBt.out.below b4 KBt.out.lt)
      have HG4 := Lib.hid (HG.out.below B4.out HG.out.lt)
      have HC4 := Lib.hid (HC.out.below B4.out HC.out.lt)
      have O4 := Lib.hid (own_below O3.out b4)
      have B40 := Lib.hid (BW.out.trans (B4.out.mono BW.out.size))
      clear b4 HCF B3 KBt O3
      go_upto_region 8 with (fail)
      have k0 : w4.cell? ⟨gg, 0, none⟩ = some (.slice (some ⟨gb, 0, none⟩) N N) := by rw [HG4.out.cell]; rfl
      have k1 : w4.cell? ⟨bt, 0, none⟩ = some (.int .i64 (k : Int)) := by rw [KB4.out.cell]; rfl
      obtain ⟨⟨u8, c8⟩, f8⟩ := HC4.out.cell (j := k) (by rw [goodL_len]; exact hlt)
      have hn1 : gb ≠ gg := by have := HGG.out; have := HGB.out; omega
      have hn2 : gb ≠ bt := by have := HBT.out; have := HGB.out; have := HSz.out; omega
      have mixed : Tryz.prog.follows Departure.mixedOrders = true := by kernel_rfl
      clear HSB HSub
      cases q
      · clear HSm
        have Bd := (Below.refl w4.heap.size w4).drew
        go_region_held3 (fun w' => w'.cell? ⟨gg, 0, none⟩ = some (.slice (some ⟨gb, 0, none⟩) N N) ∧ w'.cell? ⟨bt, 0, none⟩ = some (.int .i64 (k : Int)))
          (first | exact ⟨k0, k1⟩ | (go_keep; done) | ((try dsimp only); (repeat' apply And.intro) <;> (go_keep; done)))
          (first | (go_at_call 106; refine (HRp.out _ (B40.out.trans (Bd.mono B40.out.size)) (Reads.of_own (own_below O4.out Bd))).mono ?_; rintro e wn ⟨rfl, bn⟩; (have Bd := Bd.trans (bn.mono Bd.size)); (have k0 : wn.cell? ⟨gg, 0, none⟩ = some (.slice (some ⟨gb, 0, none⟩) N N) := (Bd.cell (p := ⟨gg, 0, none⟩) HG4.out.lt).trans k0); (have k1 : wn.cell? ⟨bt, 0, none⟩ = some (.int .i64 (k : Int)) := (Bd.cell (p := ⟨bt, 0, none⟩) KB4.out.lt).trans k1); (have c8 : wn.cell? ⟨gb, k, none⟩ = some u8 := (Bd.cell (p := ⟨gb, k, none⟩) HC4.out.lt).trans c8); (have f8 : wn.frozen? ⟨gb, k, none⟩ = false := (Bd.frozen (p := ⟨gb, k, none⟩) HC4.out.lt).trans f8); clear bn) | fail)
        generalize hW8 : wn.setCell ⟨gb, k, none⟩ (.bool r) = W8
        obtain ⟨C8, G8, T8, R8⟩ := good_step Bd (.inl hW8.symm) HC4.out HGd.out HG4.out KB4.out hn1 hn2
        clear hW8
        have R0 := Lib.hid ((grown_b B4.out (some gb)).trans R8)
        have OUT8 := Lib.hid (HO.out.kept R0.out (.inr (fun e => by have := (own_lt HO.out gb e).1; have := HGB.out; omega)))
        have EL8 := Lib.hid (HEl.out.past R0.out (by have := HGB.out; omega))
        have BW8 := Lib.hid (BW.out.grown R0.out BW.out.size (fun j hj => by injection hj with hj; have := HGB.out; omega))
        have O8 := Lib.hid (O4.out.kept R8 (.inr (fun e => by have := (own_lt O4.out gb e).1; have := HGB.out; have := HSW.out; have := BW.out.size; omega)))
        have S8 := Lib.hid (Nat.le_trans HSz.out R0.out.size)
        have j0 : W8.cell? ⟨gg, 0, none⟩ = some (.slice (some ⟨gb, 0, none⟩) N N) := by rw [G8.cell]; rfl
        have j1 : W8.cell? ⟨bt, 0, none⟩ = some (.int .i64 (k : Int)) := by rw [T8.cell]; rfl
        have j2 : W8.cell? ⟨gb, k, none⟩ = some (.bool r) := by rw [C8.at_ (Nat.lt_succ_self k), HGd.out]
        have HC8 := Lib.hid C8; have HG8 := Lib.hid G8
        clear C8 G8 T8 R8
        clear k0 k1 c8 f8 Bd
        cases r
        · have HS2 := Lib.hid (show sweep xs (k + 1) = sweep xs k from HSt.out)
          go_wp2_with fail
          go_roundw
          case rel => exact ⟨k + 1, m, B, d, us, by omega, by omega, by rw [HS2.out]; exact HN.out, rfl, OUT8.out, by rw [HS2.out]; exact EL8.out, HC8.out, HG8.out, BW8.out, S8.out, by go_num⟩
          case measure => simp [intOf]; omega
        · have HS2 := Lib.hid (show sweep xs (k + 1) = sweep xs k ++ [I] from HSt.out)
          go_wp2_with (at_builtin; refine wpList_append_any _ rfl (.tmp 40) (.tmp 42) _ rfl (w.heap.size + 2) 31 i0 _ 1 24 Tryz.underlying63 hi0 hz0 hz1 hz2 rfl (by omega) (.slice B m d) m us rfl (OUT8.out.alloc _) _ (some ⟨W8.heap.size, 0, none⟩) 1 1 [.slice A3 I.length c3] rfl (new_val1 _ _ _) (by simp [Value.oneCell']) (by simp only [maxLen]; omega) (by omega) (by have := S8.out; simp; omega) ?_; intro v5 w5 hown5 hg5 hat5; obtain ⟨A5, c5, rfl, _⟩ := own_shape hown5)
          have BA := Lib.hid ((Below.refl W8.heap.size W8).alloc (Nat.le_refl _) (.cells #[.slice A3 I.length c3] 31))
          have R5 := Lib.hid ((grown_b BA.out (Value.ownBlock (.slice B m d))).trans hg5)
          have E5 := Lib.hid (show Elems w5 (w.heap.size + 2) (Value.ownBlock (.slice A5 (m + 1) c5)) (us ++ [.slice A3 I.length c3]) (sweep xs (k + 1)) by
            rw [HS2.out]
            have e1 := EL8.out.app (Elems.one (elem_own (g := Value.ownBlock (.slice B m d)) (lo := w.heap.size + 2) O8.out (by have := HSW.out; have := HSz.out; omega) (fun b hb => by have := (own_lt HO.out b hb).2; have := HSW.out; omega)))
            exact (e1.below BA.out).appended hg5 hat5)
          have B5 := Lib.hid (BW8.out.grown R5.out BW8.out.size (fun j hj => by have := (own_lt OUT8.out j hj).1; omega))
          have HC5 := Lib.hid (copied_kept HC8.out R5.out (fun e => by have := (own_lt OUT8.out gb e).1; have := HGB.out; omega))
          have HG5 := Lib.hid (HG8.out.grown R5.out (fun e => by have := (own_lt OUT8.out gg e.symm).1; have := HGG.out; omega))
          have S5 := Lib.hid (Nat.le_trans S8.out R5.out.size)
          have O5 := Lib.hid hown5
          clear hown5 hg5 hat5
          go_roundw
          case rel => exact ⟨k + 1, m + 1, A5, c5, us ++ [Value.slice A3 I.length c3], by omega, by omega, by have := HN.out; rw [HS2.out]; simp [Hid, this], rfl, O5.out, E5.out, HC5.out, HG5.out, B5.out, S5.out, by go_num⟩
          case measure => simp [intOf]; omega
      · obtain rfl : r = true := HSm.out rfl
        have HS2 := Lib.hid (show sweep xs (k + 1) = sweep xs k from HSt.out)
        clear HSm
        go_big_region_o
        generalize hW8 : (w4.setCell ⟨gb, k, none⟩ (.bool true)).drew = W8
        obtain ⟨C8, G8, T8, R8⟩ := good_step (Below.refl w4.heap.size w4) (.inr hW8.symm) HC4.out HGd.out HG4.out KB4.out hn1 hn2
        clear hW8
        have R0 := Lib.hid ((grown_b B4.out (some gb)).trans R8)
        have OUT8 := Lib.hid (HO.out.kept R0.out (.inr (fun e => by have := (own_lt HO.out gb e).1; have := HGB.out; omega)))
        have EL8 := Lib.hid (HEl.out.past R0.out (by have := HGB.out; omega))
        have BW8 := Lib.hid (BW.out.grown R0.out BW.out.size (fun j hj => by injection hj with hj; have := HGB.out; omega))
        have O8 := Lib.hid (O4.out.kept R8 (.inr (fun e => by have := (own_lt O4.out gb e).1; have := HGB.out; have := HSW.out; have := BW.out.size; omega)))
        have S8 := Lib.hid (Nat.le_trans HSz.out R0.out.size)
        have j0 : W8.cell? ⟨gg, 0, none⟩ = some (.slice (some ⟨gb, 0, none⟩) N N) := by rw [G8.cell]; rfl
        have j1 : W8.cell? ⟨bt, 0, none⟩ = some (.int .i64 (k : Int)) := by rw [T8.cell]; rfl
        have j2 : W8.cell? ⟨gb, k, none⟩ = some (.bool true) := by rw [C8.at_ (Nat.lt_succ_self k), HGd.out]
        have HC8 := Lib.hid C8; have HG8 := Lib.hid G8
        clear C8 G8 T8 R8
        clear k0 k1 c8 f8
        go_wp2_with fail
        go_roundw
        case rel => exact ⟨k + 1, m, B, d, us, by omega, by omega, by rw [HS2.out]; exact HN.out, rfl, OUT8.out, by rw [HS2.out]; exact EL8.out, HC8.out, HG8.out, BW8.out, S8.out, by go_num⟩
        case measure => simp [intOf]; omega
    · obtain rfl : k = N := by omega
      have hmp : 0 < m := by have := HPos.out; have := HN.out; omega
      obtain ⟨g, cur, hform⟩ : ∃ g d', B = some ⟨g, 0, none⟩ ∧ d' = d := by
        rcases HO.out.2 with ⟨e, _⟩ | ⟨g', c', cur, e, _⟩
        · simp only [Value.slice.injEq] at e; omega
        · simp only [Value.slice.injEq] at e; exact ⟨g', d, e.1, rfl⟩
      obtain ⟨rfl, _⟩ := hform
      have hNN := HN.out
      have HSR := Lib.hid (sortRows_any (sweep xs k) us (w.heap.size + 2) (w.heap.size + 2) g d (by omega) (by omega) (fun L hL => by have := sweep_small xs k L hL; omega) wr (by rw [hNN]; exact HO.out) (by simpa [Value.ownBlock] using HEl.out))
      rw [hNN] at HSR
      clear hNN
      go_wp2_with fail
      refine HSR.out.mono ?_; rintro e w9 ⟨rfl, us9, LL9, p9, r9, e9, g9⟩
      have hl9 : LL9.length = m := by have := HN.out; rw [p9.length_eq]; exact this
      go_wp2_with fail
      go_ret
      subst hl9
      exact ⟨LL9, _, _, us9, rfl, p9, r9, by simpa [Value.ownBlock] using e9, BW.out.grown g9 BW.out.size (fun j hj => by have := (own_lt HO.out j (by simpa [Value.ownBlock] using hj)).1; omega)⟩
end Go.Proofs.YtihhpmhigmegjaaGreatDoor

namespace Go.Proofs.YtihhpmhigmegjaaGreatDoor
open Go.ChangeShapes Go.WideShapes Go.ChangeAt Go.RowKit Go.Sort

theorem boxes_lf (w : World) (t t' : TypeId) (v : Value) (cs : Array Value) : ∀ W, W = (w.alloc (.cells #[v] t)).alloc (.cells cs t') → Blk W w.heap.size t #[v] ∧ Blk W (w.heap.size + 1) t' cs ∧ Below w.heap.size w W := by
  rintro W rfl
  have h1 := (Blk.new w t #[v]).alloc (.cells cs t')
  have h2 := Blk.new (w.alloc (.cells #[v] t)) t' cs
  rw [show (w.alloc (.cells #[v] t)).heap.size = w.heap.size + 1 by simp] at h2
  exact ⟨h1, h2, ((Below.refl w.heap.size w).alloc (Nat.le_refl _) _).alloc (by simp) _⟩
set_option maxRecDepth 100000 in
set_option maxHeartbeats 2000000 in
theorem isPossible_any (xs : List Clm) (hf : Fine xs) (h12 : xs.length ≤ 12) (f : Fct) (A : Option Addr) (c : Nat) (w : World) (h : HasClm w xs A) :
    Calls Tryz.prog 52 #[.slice A xs.length c, f.val] w fun e w' => e = .returned (.bool ((allD xs xs.length 0 []).any (told xs f))) ∧ Below w.heap.size w w' := by
  have h0 := Lib.hid h; have HFn := Lib.hid hf; clear h hf
  have KN := Lib.hid (boxes_lf w 24 26 (.slice A xs.length c) #[.int .i64 f.kind, .string f.place, .string f.val_, .int .i64 f.year])
  unfold Fct.val
  obtain ⟨qq, hqq⟩ : ∃ qq, (allD xs xs.length 0 []).any (told xs f) = qq := ⟨_, rfl⟩
  rw [hqq]
  have HQQ := Lib.hid hqq; clear hqq
  go_enter Tryz.func52, Tryz.ntmps52
  go_upto_region 1 with (fail)
  generalize hW : (w.alloc (.cells #[.slice A xs.length c] 24)).alloc (.cells #[.int .i64 f.kind, .string f.place, .string f.val_, .int .i64 f.year] 26) = W
  obtain ⟨bk1, bk2, bw⟩ := KN.out W hW.symm
  clear hW KN
  obtain ⟨gl, hgl⟩ : ∃ gl, gl = w.heap.size := ⟨_, rfl⟩
  obtain ⟨gf, hgf⟩ : ∃ gf, gf = w.heap.size + 1 := ⟨_, rfl⟩
  rw [← hgf] at bk2 ⊢
  rw [← hgl] at bk1 ⊢
  clear hgl hgf
  have KB1 := Lib.hid bk1; have KB2 := Lib.hid bk2; have B0 := Lib.hid bw
  have x0 : W.cell? ⟨gl, 0, none⟩ = some (.slice A xs.length c) := by rw [bk1.cell]; rfl
  clear bk1 bk2 bw
  have HM := Lib.hid (minRep_any xs HFn.out h12 A c W (h0.out.below B0.out))
  go_wp2_with fail
  refine HM.out.mono ?_; rintro e w8 ⟨LL, Br, cr, us, rfl, hp, hr, he, b8⟩
  have B8 := Lib.hid (B0.out.trans (b8.mono B0.out.size))
  have hll := hp.length_eq
  have hl2 := sweep_len xs (2 ^ xs.length)
  have hl3 : 2 ^ xs.length ≤ 2 ^ 12 := Nat.pow_le_pow_right (by omega) h12
  have HE := Lib.hid (hp.any_eq (f := told xs f))
  have HH := Lib.hid (pos1Has_any (told xs f) LL us gl gf _ _ Br cr w8 hr he (by omega) (fun L hL v W hB hE => pos1_any xs HFn.out f L (by have := sweep_small xs _ L (hp.mem_iff.1 hL); omega) A c gl gf _ _ _ v W (KB1.out.below (b8.trans (hB.mono b8.size)) KB1.out.lt) (KB2.out.below (b8.trans (hB.mono b8.size)) KB2.out.lt) (h0.out.below (B8.out.trans (hB.mono B8.out.size))) hE))
  rw [HE.out, sweep_any] at HH
  clear hp hr he b8 hll hl2 hl3 HE HM
  generalize (allD xs xs.length 0 []).any (told xs f) = q at *
  go_wp2_with fail
  refine HH.out.mono ?_; rintro e w9 ⟨rfl, b9⟩
  have B9 := Lib.hid (B8.out.trans (b9.mono B8.out.size)); clear b9
  go_wp2_with fail
  go_ret
  exact ⟨ret_bool HQQ.out, B9.out⟩
set_option maxRecDepth 100000 in
theorem implIsPossible_any (xs : List Clm) (f : Fct) (hs : ∀ b ∈ xs, b.src.size ≤ 1048576 ∧ b.place.size ≤ 1048576 ∧ b.val_.size ≤ 1048576) (hf : f.place.size ≤ 1048576 ∧ f.val_.size ≤ 1048576) (A : Option Addr) (c : Nat) (w : World) (h : HasClm w xs A) :
    Calls Tryz.prog 10 #[.slice A xs.length c, f.val] w fun e w' => e = .returned (.tuple #[.bool (posV xs f), .int .i64 (codeF xs f)]) ∧ Below w.heap.size w w' := by
  have HC := Lib.hid (fun W (hB : Below w.heap.size w W) => implCode_any xs f hs hf A c W (h.below hB))
  have HL := Lib.hid (fun (hz : codeF xs f = 0) W (hB : Below w.heap.size w W) => isPossible_any xs (fine_of hz h.2.2) (codeF_len hz).2.1 f A c W (h.below hB))
  have HV := Lib.hid (show posV xs f = ((codeF xs f == 0) && (allD xs xs.length 0 []).any (told xs f)) from rfl)
  clear h
  have KN := Lib.hid (blks_one w 26 #[.int .i64 f.kind, .string f.place, .string f.val_, .int .i64 f.year])
  have h01 := codeF_01 xs f
  unfold Fct.val at HC HL ⊢
  generalize (allD xs xs.length 0 []).any (told xs f) = q at *
  generalize posV xs f = r at HV ⊢
  generalize codeF xs f = code at *
  go_enter Tryz.func10, Tryz.ntmps10
  go_upto_region 1 with (fail)
  generalize hW : w.alloc (.cells #[.int .i64 f.kind, .string f.place, .string f.val_, .int .i64 f.year] 26) = W
  obtain ⟨bk, bw, _⟩ := KN.out W hW.symm
  clear hW
  have KB := Lib.hid bk; have B0 := Lib.hid bw
  obtain ⟨x0, x1, x2, x3⟩ := cells_4 bk
  clear bk bw
  go_wp2_with fail
  refine (HC.out W B0.out).mono ?_; rintro e w1 ⟨rfl, b1⟩
  have B1 := Lib.hid (B0.out.trans (b1.mono B0.out.size))
  obtain ⟨y0, y1, y2, y3⟩ := cells_4 (KB.out.below b1 KB.out.lt)
  clear b1 x0 x1 x2 x3
  rcases h01 with rfl | rfl
  · have HL2 := Lib.hid (HL.out rfl w1 B1.out)
    clear HL
    go_wp2_with fail
    refine HL2.out.mono ?_; rintro e w2 ⟨rfl, b2⟩
    go_wp2_with fail
    go_ret2
    exact ⟨by rw [HV.out]; rfl, B1.out.trans (b2.mono B1.out.size)⟩
  · clear HL
    go_wp2_with fail
    go_ret2
    exact ⟨by rw [HV.out]; rfl, B1.out⟩
set_option maxRecDepth 100000 in
set_option maxHeartbeats 2000000 in
theorem implIsCertain_any (xs : List Clm) (f : Fct) (hs : ∀ b ∈ xs, b.src.size ≤ 1048576 ∧ b.place.size ≤ 1048576 ∧ b.val_.size ≤ 1048576) (hf : f.place.size ≤ 1048576 ∧ f.val_.size ≤ 1048576) (A : Option Addr) (c : Nat) (w : World) (h : HasClm w xs A) :
    Calls Tryz.prog 8 #[.slice A xs.length c, f.val] w fun e w' => e = .returned (.tuple #[.bool (cerV xs f), .int .i64 (codeF xs f)]) ∧ Below w.heap.size w w' := by
  have h0 := Lib.hid h; clear h
  have HC := Lib.hid (fun W (hB : Below w.heap.size w W) => implCode_any xs f hs hf A c W (h0.out.below hB))
  have HLn := Lib.hid (fun (hz : codeF xs f = 0) => And.intro (fine_of hz h0.out.2.2) (codeF_len hz).2.1)
  have HV := Lib.hid (show cerV xs f = ((codeF xs f == 0) && !(allD xs xs.length 0 []).any (fun I => !told xs f I)) from rfl)
  have h01 := codeF_01 xs f
  have KN := Lib.hid (boxes_lf w 24 26 (.slice A xs.length c) #[.int .i64 f.kind, .string f.place, .string f.val_, .int .i64 f.year])
  unfold Fct.val at HC ⊢
  generalize cerV xs f = r at HV ⊢
  generalize codeF xs f = code at *
  go_enter Tryz.func8, Tryz.ntmps8
  go_upto_region 1 with (fail)
  generalize hW : (w.alloc (.cells #[.slice A xs.length c] 24)).alloc (.cells #[.int .i64 f.kind, .string f.place, .string f.val_, .int .i64 f.year] 26) = W
  obtain ⟨bk1, bk2, bw⟩ := KN.out W hW.symm
  clear hW KN
  obtain ⟨gl, hgl⟩ : ∃ gl, gl = w.heap.size := ⟨_, rfl⟩
  obtain ⟨gf, hgf⟩ : ∃ gf, gf = w.heap.size + 1 := ⟨_, rfl⟩
  rw [← hgf] at bk2 ⊢
  rw [← hgl] at bk1 ⊢
  clear hgl hgf
  have KA1 := Lib.hid bk1; have KA2 := Lib.hid bk2; have B0 := Lib.hid bw
  have x4 : W.cell? ⟨gl, 0, none⟩ = some (.slice A xs.length c) := by rw [bk1.cell]; rfl
  obtain ⟨x0, x1, x2, x3⟩ := cells_4 bk2
  clear bk1 bk2 bw
  go_wp2_with fail
  refine (HC.out W B0.out).mono ?_; rintro e w1 ⟨rfl, b1⟩
  have B1 := Lib.hid (B0.out.trans (b1.mono B0.out.size))
  have KB1 := Lib.hid (KA1.out.below b1 KA1.out.lt)
  have KB2 := Lib.hid (KA2.out.below b1 KA2.out.lt)
  have y4 : w1.cell? ⟨gl, 0, none⟩ = some (.slice A xs.length c) := by rw [KB1.out.cell]; rfl
  clear b1 x0 x1 x2 x3 x4
  rcases h01 with rfl | rfl
  · have HFn := Lib.hid (HLn.out rfl).1
    have h12 := (HLn.out rfl).2
    clear HLn
    have HM := Lib.hid (minRep_any xs HFn.out h12 A c w1 (h0.out.below B1.out))
    go_wp2_with fail
    refine HM.out.mono ?_; rintro e w8 ⟨LL, Br, cr, us, rfl, hp, hr, he, b8⟩
    have B8 := Lib.hid (B1.out.trans (b8.mono B1.out.size))
    have hll := hp.length_eq
    have hl2 := sweep_len xs (2 ^ xs.length)
    have hl3 : 2 ^ xs.length ≤ 2 ^ 12 := Nat.pow_le_pow_right (by omega) h12
    have HE := Lib.hid (hp.any_eq (f := fun I => !told xs f I))
    have HH := Lib.hid (cer1Has_any (fun I => !told xs f I) LL us gl gf _ _ Br cr w8 hr he (by omega) (fun L hL v W hB hE => cer1_any xs HFn.out f L (by have := sweep_small xs _ L (hp.mem_iff.1 hL); omega) A c gl gf _ _ _ v W (KB1.out.below (b8.trans (hB.mono b8.size)) KB1.out.lt) (KB2.out.below (b8.trans (hB.mono b8.size)) KB2.out.lt) (h0.out.below (B8.out.trans (hB.mono B8.out.size))) hE))
    rw [HE.out, sweep_any] at HH
    clear hp hr he b8 hll hl2 hl3 HE HM
    generalize (allD xs xs.length 0 []).any (fun I => !told xs f I) = q at *
    go_wp2_with fail
    refine HH.out.mono ?_; rintro e w9 ⟨rfl, b9⟩
    have B9 := Lib.hid (B8.out.trans (b9.mono B8.out.size)); clear b9
    go_wp2_with fail
    go_ret2
    exact ⟨by rw [HV.out]; rfl, B9.out⟩
  · clear HLn
    go_wp2_with fail
    go_ret2
    exact ⟨by rw [HV.out]; rfl, B1.out⟩
end Go.Proofs.YtihhpmhigmegjaaGreatDoor
