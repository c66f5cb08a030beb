/- Texts in order, each once: inserted one by one, or sorted and compacted. Plain lists. -/
import Derived.Test.YthlpclnfnfbeiaaGreatDoorRows
import Derived.Test.YthlpclnfnfbeiaaGreatDoorL0
import Derived.Test.YthlpclnfnfbeiaaGreatDoorM0
import Derived.WalkKit
import Derived.ProofKit
import Derived.OpenShut
import Derived.BigQuiet
import Derived.Outline
import Derived.WalkSpells
import Derived.WalkLawsBesides
import Derived.Deep.DeepCutAuto
import Derived.Sort.OwnSorted
import Derived.Lib.SlicesCompact
import Derived.Lib.RowBridge
namespace Go.Proofs.YthlpclnfnfbeiaaGreatDoor
open Go.ChangeShapes Go.WideShapes Go.ChangeAt Go.Sort

theorem bl_cons (a b : UInt8) (x y : List UInt8) : Op.bytesLess (a :: x) (b :: y) = (decide (a < b) || (a == b && Op.bytesLess x y)) := rfl
theorem bl_irrefl : ∀ x : List UInt8, Op.bytesLess x x = false
  | [] => rfl
  | a :: x => by rw [bl_cons, bl_irrefl x, decide_eq_false (by exact UInt8.lt_irrefl a)]; simp
theorem bl_trans : ∀ x y z : List UInt8, Op.bytesLess x y = true → Op.bytesLess y z = true → Op.bytesLess x z = true
  | _, _, [], _, h => by
    exfalso
    revert h
    unfold Op.bytesLess
    simp
  | [], _, _ :: _, _, _ => rfl
  | _ :: _, [], _ :: _, h, _ => by simp [Op.bytesLess] at h
  | a :: x, b :: y, c :: z, h1, h2 => by
    rw [bl_cons, Bool.or_eq_true, Bool.and_eq_true, decide_eq_true_eq, beq_iff_eq] at h1 h2 ⊢
    rcases h1 with h1 | ⟨rfl, h1⟩
    · rcases h2 with h2 | ⟨rfl, h2⟩
      · exact .inl (UInt8.lt_trans h1 h2)
      · exact .inl h1
    · rcases h2 with h2 | ⟨rfl, h2⟩
      · exact .inl h2
      · exact .inr ⟨rfl, bl_trans x y z h1 h2⟩
theorem bl_tri : ∀ x y : List UInt8, Op.bytesLess x y = true ∨ x = y ∨ Op.bytesLess y x = true
  | [], [] => .inr (.inl rfl)
  | [], _ :: _ => .inl rfl
  | _ :: _, [] => .inr (.inr rfl)
  | a :: x, b :: y => by
    rw [bl_cons, bl_cons]
    by_cases e : a = b
    · subst e
      rcases bl_tri x y with h1 | h1 | h1
      · left; simp [h1]
      · right; left; rw [h1]
      · right; right; simp [h1]
    · rcases UInt8.lt_or_lt_of_ne e with h1 | h1
      · left; simp [h1]
      · right; right; simp [h1]
theorem bl_asymm {x y : List UInt8} (h : Op.bytesLess x y = true) : Op.bytesLess y x = false := by
  cases h2 : Op.bytesLess y x
  · rfl
  · have := bl_trans x y x h h2
    rw [bl_irrefl] at this
    cases this
/-- Put where it belongs, unless it is there. -/
def insS : List (List UInt8) → List UInt8 → List (List UInt8)
  | [], s => [s]
  | a :: r, s => if Op.bytesLess a s = true then a :: insS r s else if a = s then a :: r else s :: a :: r
/-- Where. -/
def posS (s : List UInt8) : List (List UInt8) → Nat
  | [] => 0
  | a :: r => if Op.bytesLess a s = true then posS s r + 1 else 0
theorem posS_le (s : List UInt8) : ∀ L, posS s L ≤ L.length
  | [] => Nat.le_refl _
  | a :: r => by
    rw [posS]
    have := posS_le s r
    split <;> simp <;> omega
theorem insS_pos (s : List UInt8) : ∀ L, insS L s = if L[posS s L]? = some s then L else L.take (posS s L) ++ (s :: L.drop (posS s L))
  | [] => by simp [insS, posS]
  | a :: r => by
    rw [insS, posS]
    by_cases h : Op.bytesLess a s = true
    · rw [if_pos h, if_pos h, insS_pos s r]
      by_cases h2 : r[posS s r]? = some s
      · rw [if_pos h2, if_pos (by simpa using h2)]
      · rw [if_neg h2, if_neg (by simpa using h2)]
        simp
    · rw [if_neg h, if_neg h]
      by_cases h2 : a = s
      · rw [if_pos h2, if_pos (by simp [h2])]
      · rw [if_neg h2, if_neg (by simp [h2])]
        simp
/-- The walk's step. -/
theorem posS_at {s : List UInt8} : ∀ {L : List (List UInt8)} {k : Nat} (hk : k < L.length), k ≤ posS s L → (Op.bytesLess L[k] s = true → k + 1 ≤ posS s L) ∧ (Op.bytesLess L[k] s = false → posS s L = k)
  | a :: r, 0, _, _ => by
    rw [posS]
    refine ⟨fun h => ?_, fun h => ?_⟩
    · rw [List.getElem_cons_zero] at h; rw [if_pos h]; omega
    · rw [List.getElem_cons_zero] at h; rw [if_neg (by rw [h]; simp)]
  | a :: r, k + 1, hk, hp => by
    rw [posS] at hp ⊢
    rw [List.getElem_cons_succ]
    have hk' : k < r.length := by simpa using hk
    by_cases h : Op.bytesLess a s = true
    · rw [if_pos h] at hp ⊢
      have := posS_at (s := s) hk' (by omega)
      exact ⟨fun h => by have := this.1 h; omega, fun h => by have := this.2 h; omega⟩
    · rw [if_neg h] at hp; omega
def strict (L : List (List UInt8)) : Prop := L.Pairwise fun x y => Op.bytesLess x y = true
theorem insS_mem {x s : List UInt8} : ∀ L, x ∈ insS L s ↔ x ∈ L ∨ x = s
  | [] => by simp [insS]
  | a :: r => by
    rw [insS]
    have ih := insS_mem (x := x) (s := s) r
    by_cases h : Op.bytesLess a s = true
    · rw [if_pos h, List.mem_cons, List.mem_cons, ih, or_assoc]
    · rw [if_neg h]
      by_cases h2 : a = s
      · rw [if_pos h2]
        subst h2
        rw [List.mem_cons]
        constructor
        · exact .inl
        · rintro (h | rfl)
          · exact h
          · exact .inl rfl
      · rw [if_neg h2, List.mem_cons]
        exact Or.comm
theorem insS_strict {s : List UInt8} : ∀ {L}, strict L → strict (insS L s)
  | [], _ => by simp [insS, strict]
  | a :: r, h => by
    unfold strict at h ⊢
    have h0 := h
    rw [List.pairwise_cons] at h
    rw [insS]
    by_cases hl : Op.bytesLess a s = true
    · rw [if_pos hl, List.pairwise_cons]
      refine ⟨fun x hx => ?_, insS_strict (s := s) h.2⟩
      rcases (insS_mem r).1 hx with hx | rfl
      · exact h.1 x hx
      · exact hl
    · rw [if_neg hl]
      by_cases h2 : a = s
      · rw [if_pos h2]; exact h0
      · rw [if_neg h2, List.pairwise_cons]
        have hsa : Op.bytesLess s a = true := by
          rcases bl_tri a s with h | h | h
          · exact absurd h hl
          · exact absurd h h2
          · exact h
        refine ⟨fun x hx => ?_, h0⟩
        rcases List.mem_cons.1 hx with rfl | hx
        · exact hsa
        · exact bl_trans _ _ _ hsa (h.1 x hx)
theorem strict_ext : ∀ {L M : List (List UInt8)}, strict L → strict M → (∀ x, x ∈ L ↔ x ∈ M) → L = M
  | [], [], _, _, _ => rfl
  | [], b :: _, _, _, h => by have := (h b).2 (List.mem_cons_self ..); cases this
  | a :: _, [], _, _, h => by have := (h a).1 (List.mem_cons_self ..); cases this
  | a :: r, b :: t, h1, h2, h => by
    unfold strict at h1 h2
    rw [List.pairwise_cons] at h1 h2
    have hab : a = b := by
      rcases List.mem_cons.1 ((h a).1 (List.mem_cons_self ..)) with e | ha
      · exact e
      · rcases List.mem_cons.1 ((h b).2 (List.mem_cons_self ..)) with e | hb
        · exact e.symm
        · have c1 := h2.1 a ha
          have c2 := h1.1 b hb
          rw [bl_asymm c1] at c2
          cases c2
    subst hab
    congr 1
    refine strict_ext h1.2 h2.2 fun x => ?_
    constructor
    · intro hx
      rcases List.mem_cons.1 ((h x).1 (List.mem_cons_of_mem _ hx)) with e | hx'
      · subst e
        have := h1.1 x hx
        rw [bl_irrefl] at this; cases this
      · exact hx'
    · intro hx
      rcases List.mem_cons.1 ((h x).2 (List.mem_cons_of_mem _ hx)) with e | hx'
      · subst e
        have := h2.1 x hx
        rw [bl_irrefl] at this; cases this
      · exact hx'
theorem fold_strict (V : List (List UInt8)) : ∀ L, strict L → strict (V.foldl insS L) := by
  induction V with
  | nil => exact fun _ h => h
  | cons a r ih => exact fun L h => ih _ (insS_strict h)
theorem fold_mem (V : List (List UInt8)) (x : List UInt8) : ∀ L, x ∈ V.foldl insS L ↔ x ∈ L ∨ x ∈ V := by
  induction V with
  | nil => intro L; simp
  | cons a r ih =>
    intro L
    rw [List.foldl_cons, ih, insS_mem, List.mem_cons, or_assoc]
theorem compact_upto (d : Array (List UInt8)) (hs : ∀ i j, i ≤ j → j < d.size → Op.bytesLess d[j]! d[i]! = false) : ∀ m, m ≤ d.size → strict (Lib.compactUpTo d m) ∧ ∀ x, x ∈ Lib.compactUpTo d m ↔ ∃ j, j < m ∧ d[j]! = x := by
  intro m
  induction m with
  | zero => intro _; exact ⟨by simp [Lib.compactUpTo, strict], fun x => by simp [Lib.compactUpTo]⟩
  | succ m ih =>
    intro hm
    obtain ⟨h1, h2⟩ := ih (by omega)
    rw [Lib.compactUpTo_succ]
    cases hk : Lib.keeps d m
    · have hk2 : 0 < m ∧ d[m]! = d[m - 1]! := by
        have : ¬ (m = 0 ∨ d[m]! ≠ d[m - 1]!) := by simpa [Lib.keeps] using hk
        constructor
        · exact Nat.pos_of_ne_zero fun e => this (.inl e)
        · exact Classical.byContradiction fun e => this (.inr e)
      simp only [Bool.false_eq_true, if_false, List.append_nil]
      refine ⟨h1, fun x => ?_⟩
      rw [h2]
      constructor
      · rintro ⟨j, hj, e⟩; exact ⟨j, by omega, e⟩
      · rintro ⟨j, hj, e⟩
        by_cases hjm : j = m
        · subst hjm; exact ⟨j - 1, by omega, by rw [← e, hk2.2]⟩
        · exact ⟨j, by omega, e⟩
    · simp only [if_true]
      refine ⟨?_, fun x => ?_⟩
      · unfold strict at h1 ⊢
        rw [List.pairwise_append]
        refine ⟨h1, by simp, fun x hx y hy => ?_⟩
        rw [List.mem_singleton] at hy
        subst hy
        obtain ⟨j, hj, rfl⟩ := (h2 x).1 hx
        have hne : d[m]! ≠ d[m - 1]! := by
          have : m = 0 ∨ d[m]! ≠ d[m - 1]! := by simpa [Lib.keeps] using hk
          rcases this with h | h
          · omega
          · exact h
        have c1 := hs (m - 1) m (by omega) (by omega)
        have c2 := hs j (m - 1) (by omega) (by omega)
        have c3 : Op.bytesLess d[m - 1]! d[m]! = true := by
          rcases bl_tri d[m - 1]! d[m]! with h | h | h
          · exact h
          · exact absurd h.symm hne
          · rw [h] at c1; cases c1
        rcases bl_tri d[j]! d[m - 1]! with h | h | h
        · exact bl_trans _ _ _ h c3
        · rw [h]; exact c3
        · rw [h] at c2; cases c2
      · rw [List.mem_append, h2, List.mem_singleton]
        constructor
        · rintro (⟨j, hj, e⟩ | rfl)
          · exact ⟨j, by omega, e⟩
          · exact ⟨m, by omega, rfl⟩
        · rintro ⟨j, hj, e⟩
          by_cases hjm : j = m
          · subst hjm; exact .inr e.symm
          · exact .inl ⟨j, by omega, e⟩
theorem bl_lt : ∀ (x y : List UInt8), Op.bytesLess x y = decide (x < y)
  | [], [] => by simp [Op.bytesLess]
  | _ :: _, [] => by simp [Op.bytesLess]
  | [], _ :: _ => by simp [Op.bytesLess]
  | a :: x, b :: y => by
    rw [Op.bytesLess, bl_lt x y]
    simp only [List.cons_lt_cons_iff]
    by_cases h1 : a < b <;> by_cases h2 : a = b <;> by_cases h3 : x < y <;> simp [h1, h2, h3]
theorem le_bl (x y : List UInt8) : decide (x ≤ y) = !Op.bytesLess y x := by
  rw [bl_lt]
  show decide (¬ y < x) = _
  by_cases h : y < x <;> simp [h]
/-- Both give the same. -/
theorem sorted_ins (V : List (List UInt8)) : Lib.compact (V.mergeSort fun x y => decide (x ≤ y)) = V.foldl insS [] := by
  have hsort : (V.mergeSort fun x y => decide (x ≤ y)).Pairwise fun x y => decide (x ≤ y) = true := by
    apply List.pairwise_mergeSort
    · intro x y z h1 h2
      rw [le_bl, Bool.not_eq_true'] at h1 h2 ⊢
      cases h3 : Op.bytesLess z x
      · rfl
      · exfalso
        rcases bl_tri y z with h | h | h
        · rw [bl_trans y z x h h3] at h1; cases h1
        · subst h; rw [h3] at h1; cases h1
        · rw [h] at h2; cases h2
    · intro x y
      rw [le_bl, le_bl]
      cases h : Op.bytesLess y x
      · rfl
      · rw [bl_asymm h]; rfl
  generalize hZ : (V.mergeSort fun x y => decide (x ≤ y)) = Z at hsort
  have hmem : ∀ x, x ∈ Z ↔ x ∈ V := fun x => by rw [← hZ]; exact List.mem_mergeSort
  have hs : ∀ i j, i ≤ j → j < Z.toArray.size → Op.bytesLess Z.toArray[j]! Z.toArray[i]! = false := by
    intro i j hij hj
    have hj' : j < Z.length := by simpa using hj
    have hi' : i < Z.length := by omega
    have e1 : Z.toArray[j]! = Z[j] := by simp [hj']
    have e2 : Z.toArray[i]! = Z[i] := by simp [hi']
    rw [e1, e2]
    rcases Nat.lt_or_ge i j with h | h
    · have := List.pairwise_iff_getElem.1 hsort i j hi' hj' h
      rw [le_bl, Bool.not_eq_true'] at this
      exact this
    · obtain rfl : i = j := by omega
      exact bl_irrefl _
  obtain ⟨c1, c2⟩ := compact_upto Z.toArray hs Z.length (by simp)
  refine strict_ext (L := Lib.compact Z) c1 (fold_strict V [] List.Pairwise.nil) fun x => ?_
  show x ∈ Lib.compactUpTo Z.toArray Z.length ↔ _
  rw [c2, fold_mem, ← hmem]
  constructor
  · rintro ⟨j, hj, rfl⟩
    right
    rw [show Z.toArray[j]! = Z[j] by simp [hj]]
    exact List.getElem_mem hj
  · rintro (h | h)
    · cases h
    · obtain ⟨j, hj, rfl⟩ := List.getElem_of_mem h
      exact ⟨j, hj, by simp [hj]⟩
end Go.Proofs.YthlpclnfnfbeiaaGreatDoor
