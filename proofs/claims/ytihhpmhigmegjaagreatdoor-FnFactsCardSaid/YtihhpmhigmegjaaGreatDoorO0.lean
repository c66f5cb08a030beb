/- Claims: when two contradict each other, when a list is consistent; fewer claims are consistent if more are. Plain lists. -/
import Derived.Test.YtihhpmhigmegjaaGreatDoorRows
import Derived.Test.YtihhpmhigmegjaaGreatDoorL0
import Derived.Test.YtihhpmhigmegjaaGreatDoorM0
import Derived.WalkKit
import Derived.ProofKit
import Derived.OpenShut
import Derived.BigQuiet
import Derived.Outline
import Derived.WalkSpells
import Derived.WalkLawsBesides
import Derived.Deep.DeepCutAuto
import Derived.Test.YtihhpmhigmegjaaGreatDoorFC0
import Derived.Test.YtihhpmhigmegjaaGreatDoorW2
import Derived.Test.YtihhpmhigmegjaaGreatDoorI6
namespace Go.Proofs.YtihhpmhigmegjaaGreatDoor
open Go.ChangeShapes Go.WideShapes Go.ChangeAt Go.RowKit

/-- One tells a parent that another tells to be missing. -/
def woB (a b : Clm) : Bool := decide (a.kind = 1) && (decide (b.kind = 3) && decide (b.place = a.val_))
def meetB (a b : Clm) : Bool := decide (a.lo ≤ b.hi) && decide (b.lo ≤ a.hi)
def npB (a : Clm) : Bool := decide (a.kind = 0) || decide (a.kind = 1)
/-- Two claims contradict each other. -/
def ctrB (a b : Clm) : Bool :=
  meetB a b && ((woB a b || woB b a) || (decide (a.place = b.place) && ((decide (a.kind = 3) != decide (b.kind = 3)) || (decide (a.kind = b.kind) && (npB a && !decide (a.val_ = b.val_))))))
theorem ctr_symm (a b : Clm) : ctrB a b = ctrB b a := by
  rw [Bool.eq_iff_iff]
  unfold ctrB meetB npB
  simp only [Bool.and_eq_true, Bool.or_eq_true, bne_iff_ne, ne_eq, Bool.not_eq_true', decide_eq_true_eq, decide_eq_false_iff_not]
  constructor
  · rintro ⟨⟨h1, h2⟩, (h | h) | ⟨h3, h4⟩⟩
    · exact ⟨⟨h2, h1⟩, .inl (.inr h)⟩
    · exact ⟨⟨h2, h1⟩, .inl (.inl h)⟩
    · refine ⟨⟨h2, h1⟩, .inr ⟨h3.symm, ?_⟩⟩
      rcases h4 with h4 | ⟨h4, h5, h6⟩
      · exact .inl (fun h => h4 h.symm)
      · exact .inr ⟨h4.symm, by rw [← h4]; exact h5, fun h => h6 h.symm⟩
  · rintro ⟨⟨h1, h2⟩, (h | h) | ⟨h3, h4⟩⟩
    · exact ⟨⟨h2, h1⟩, .inl (.inr h)⟩
    · exact ⟨⟨h2, h1⟩, .inl (.inl h)⟩
    · refine ⟨⟨h2, h1⟩, .inr ⟨h3.symm, ?_⟩⟩
      rcases h4 with h4 | ⟨h4, h5, h6⟩
      · exact .inl (fun h => h4 h.symm)
      · exact .inr ⟨h4.symm, by rw [← h4]; exact h5, fun h => h6 h.symm⟩
theorem ctr_self (a : Clm) : ctrB a a = false := by
  unfold ctrB woB
  rw [Bool.eq_false_iff]
  simp only [ne_eq, Bool.and_eq_true, Bool.or_eq_true, bne_iff_ne, Bool.not_eq_true', decide_eq_true_eq, decide_eq_false_iff_not]
  rintro ⟨_, (⟨h1, h2, _⟩ | ⟨h1, h2, _⟩) | ⟨_, h | ⟨_, _, h⟩⟩⟩
  · omega
  · omega
  · first | exact h rfl | exact h trivial | (simp at h)
  · first | exact h rfl | exact h trivial | (simp at h)

/-- A parent claim about a place in a year. -/
def atB (p : ByteArray) (y : Int) (c : Clm) : Bool := decide (c.kind = 1) && (decide (c.place = p) && inB y c.lo c.hi)
def nxt (xs : List Clm) (y : Int) (p : ByteArray) : Option ByteArray := (xs.find? (atB p y)).map (·.val_)
/-- Two parent claims about a place in a year that don't contradict each other tell the same. -/
theorem at_same {p : ByteArray} {y : Int} {c d : Clm} (hc : atB p y c = true) (hd : atB p y d = true) (h : ctrB c d = false) : c.val_ = d.val_ := by
  unfold atB inB at hc hd
  simp only [Bool.and_eq_true, decide_eq_true_eq] at hc hd
  obtain ⟨k1, p1, y1, y2⟩ := hc
  obtain ⟨k2, p2, y3, y4⟩ := hd
  rcases Classical.em (c.val_ = d.val_) with e | e
  · exact e
  · exfalso
    have : ctrB c d = true := by
      unfold ctrB meetB npB
      simp only [Bool.and_eq_true, Bool.or_eq_true, Bool.not_eq_true', decide_eq_true_eq, decide_eq_false_iff_not]
      exact ⟨⟨by omega, by omega⟩, .inr ⟨by rw [p1, p2], .inr ⟨by omega, .inr k1, e⟩⟩⟩
    rw [this] at h; cases h

/-- Following the first parent claims: whether one comes back to the place before another place comes twice. -/
def cirF (xs : List Clm) (y : Int) (p : ByteArray) : Nat → List ByteArray → ByteArray → Bool
  | 0, _, _ => false
  | n + 1, out, at_ => match nxt xs y at_ with
    | none => false
    | some v => if v = p then true else if 0 ≤ ixS v out then false else cirF xs y p n (out ++ [v]) v
def cirB (xs : List Clm) (p : ByteArray) (y : Int) : Bool := cirF xs y p (xs.length + 1) [p] p
theorem cir_step (xs : List Clm) (y : Int) (p : ByteArray) (n : Nat) (out : List ByteArray) (a : ByteArray) : cirF xs y p (n + 1) out a = match nxt xs y a with
    | none => false
    | some v => if v = p then true else if 0 ≤ ixS v out then false else cirF xs y p n (out ++ [v]) v := rfl
theorem cir_mono {xs ys : List Clm} {y : Int} {p : ByteArray} (h : ∀ a v, nxt ys y a = some v → nxt xs y a = some v) : ∀ (n m : Nat), n ≤ m → ∀ out a, cirF ys y p n out a = true → cirF xs y p m out a = true
  | 0, _, _, _, _, h0 => by cases h0
  | n + 1, 0, hm, _, _, _ => by omega
  | n + 1, m + 1, hm, out, a, h0 => by
    rw [cir_step] at h0 ⊢
    cases hn : nxt ys y a with
    | none => rw [hn] at h0; cases h0
    | some v =>
      rw [hn] at h0
      rw [h a v hn]
      dsimp only at h0 ⊢
      by_cases h1 : v = p
      · rw [if_pos h1]
      · rw [if_neg h1] at h0 ⊢
        by_cases h2 : 0 ≤ ixS v out
        · rw [if_pos h2] at h0; cases h0
        · rw [if_neg h2] at h0 ⊢
          exact cir_mono h n m (by omega) _ _ h0

/-- No claim contradicts an earlier one. -/
def apart (xs : List Clm) : Prop := xs.Pairwise fun a b => ctrB a b = false
instance (xs : List Clm) : Decidable (apart xs) := by unfold apart; infer_instance
def circs (xs : List Clm) : Bool := xs.any fun c => decide (c.kind = 1) && xs.any fun d => cirB xs d.place c.lo
/-- A list of claims is consistent. -/
def conB (xs : List Clm) : Bool := decide (apart xs) && !circs xs
theorem apart_all {xs : List Clm} (h : apart xs) : ∀ a ∈ xs, ∀ b ∈ xs, ctrB a b = false := by
  induction xs with
  | nil => intro a ha; cases ha
  | cons x r ih =>
    unfold apart at h
    rw [List.pairwise_cons] at h
    obtain ⟨h1, h2⟩ := h
    intro a ha b hb
    rcases List.mem_cons.1 ha with e1 | ha'
    · rcases List.mem_cons.1 hb with e2 | hb'
      · rw [e1, e2]; exact ctr_self _
      · rw [e1]; exact h1 b hb'
    · rcases List.mem_cons.1 hb with e2 | hb'
      · rw [ctr_symm, e2]; exact h1 a ha'
      · exact ih h2 a ha' b hb'
theorem nxt_sub {xs ys : List Clm} (hs : ys.Sublist xs) (ha : apart xs) (y : Int) (a v : ByteArray) (h : nxt ys y a = some v) : nxt xs y a = some v := by
  unfold nxt at h ⊢
  cases hf : ys.find? (atB a y) with
  | none => rw [hf] at h; cases h
  | some c =>
    rw [hf] at h
    have hv : c.val_ = v := by simpa using h
    have hc := List.find?_some hf
    have hm : c ∈ xs := hs.subset (List.mem_of_find?_eq_some hf)
    cases hg : xs.find? (atB a y) with
    | none => exact absurd hc (by have := List.find?_eq_none.1 hg c hm; simpa using this)
    | some d =>
      have hd := List.find?_some hg
      have := at_same hc hd (apart_all ha c hm d (List.mem_of_find?_eq_some hg))
      rw [Option.map_some, ← this, hv]
theorem con_sub {xs ys : List Clm} (hs : ys.Sublist xs) (h : conB xs = true) : conB ys = true := by
  unfold conB at h ⊢
  rw [Bool.and_eq_true, decide_eq_true_eq, Bool.not_eq_true'] at h ⊢
  obtain ⟨h1, h2⟩ := h
  refine ⟨List.Pairwise.sublist hs h1, ?_⟩
  rw [Bool.eq_false_iff] at h2 ⊢
  intro h3
  refine h2 ?_
  unfold circs at h3 ⊢
  rw [List.any_eq_true] at h3 ⊢
  obtain ⟨c, hc, h3⟩ := h3
  rw [Bool.and_eq_true, List.any_eq_true] at h3
  obtain ⟨k, d, hd, h3⟩ := h3
  refine ⟨c, hs.subset hc, ?_⟩
  rw [Bool.and_eq_true, List.any_eq_true]
  exact ⟨k, d, hs.subset hd, cir_mono (fun a v => nxt_sub hs h1 c.lo a v) _ _ (by have := hs.length_le; omega) _ _ h3⟩
/-- The circles as the program looks for them. -/
def circP (xs : List Clm) : Bool := xs.any fun c => xs.any fun d => decide (c.kind = 1) && (decide (d.kind = 1) && (inB c.lo d.lo d.hi && cirB xs d.place c.lo))
theorem cir_first {xs : List Clm} {p : ByteArray} {y : Int} (h : cirB xs p y = true) : ∃ d ∈ xs, atB p y d = true := by
  unfold cirB at h
  rw [cir_step] at h
  cases hn : nxt xs y p with
  | none => rw [hn] at h; cases h
  | some v =>
    unfold nxt at hn
    cases hf : xs.find? (atB p y) with
    | none => rw [hf] at hn; cases hn
    | some d => exact ⟨d, List.mem_of_find?_eq_some hf, List.find?_some hf⟩
theorem circP_eq (xs : List Clm) : circP xs = circs xs := by
  rw [Bool.eq_iff_iff]
  unfold circP circs
  simp only [List.any_eq_true, Bool.and_eq_true, decide_eq_true_eq]
  constructor
  · rintro ⟨c, hc, d, hd, h1, h2, h3, h4⟩
    exact ⟨c, hc, h1, d, hd, h4⟩
  · rintro ⟨c, hc, h1, d, hd, h4⟩
    obtain ⟨d', hd', h5⟩ := cir_first h4
    unfold atB at h5
    simp only [Bool.and_eq_true, decide_eq_true_eq] at h5
    obtain ⟨k1, k2, k3⟩ := h5
    exact ⟨c, hc, d', hd', h1, k1, k3, by rw [k2]; exact h4⟩
/-- Places that come one after another are bounded by the claims. -/
theorem nodup_le : ∀ (l m : List ByteArray), l.Nodup → (∀ a ∈ l, a ∈ m) → l.length ≤ m.length
  | [], _, _, _ => Nat.zero_le _
  | a :: r, m, h, hs => by
    rw [List.nodup_cons] at h
    have h1 := nodup_le r (m.eraseP fun c => decide (c = a)) h.2 (fun b hb => by
      rw [List.mem_eraseP_of_neg (by
        rw [decide_eq_true_eq]
        exact fun e => h.1 (by rw [← e]; exact hb))]
      exact hs b (List.mem_cons_of_mem _ hb))
    have hm := hs a (List.mem_cons_self ..)
    have h2 : (m.eraseP fun c => decide (c = a)).length = m.length - 1 := List.length_eraseP_of_mem hm (by simp)
    have h3 : 0 < m.length := List.length_pos_of_mem hm
    rw [h2] at h1
    simp only [List.length_cons]
    omega
theorem nxt_mem {xs : List Clm} {y : Int} {a v : ByteArray} (h : nxt xs y a = some v) : v ∈ xs.map (·.val_) := by
  unfold nxt at h
  cases hf : xs.find? (atB a y) with
  | none => rw [hf] at h; cases h
  | some c =>
    rw [hf] at h
    have hv : c.val_ = v := by simpa using h
    exact List.mem_map.2 ⟨c, List.mem_of_find?_eq_some hf, hv⟩
end Go.Proofs.YtihhpmhigmegjaaGreatDoor
