/- The plain law of ShortestRest: levels of procedures, breadth first and depth first. -/
import Derived.Test.YteffnidkkeeaiaaP1
import Derived.Test.YteffnidkkeeaiaaC3
namespace Go.Proofs.Yteffnidkkeeaiaa

/-- The day of the earliest step of a kind. -/
def earlyD (day : Int) (ys : List Stp) (kind : Int) : Int := max (max (winL (runR ys) kind) (runR ys).last) day
def kid (day : Int) (ys : List Stp) (kind : Int) : Option (List Stp) :=
  if allowB (runR ys) ys.length (earlyD day ys kind, kind) = true then some (ys ++ [(earlyD day ys kind, kind)]) else none
/-- The procedures with one step more, of the kinds below k. -/
def kidsTo (day : Int) (ys : List Stp) : Nat → List (List Stp)
  | 0 => []
  | k + 1 => kidsTo day ys k ++ (kid day ys k).toList
def kids (day : Int) (ys : List Stp) : List (List Stp) := kidsTo day ys 8
def levs (day : Int) (L : List (List Stp)) : Nat → List (List Stp)
  | 0 => L
  | n + 1 => levs day (L.flatMap (kids day)) n
def hit (o : Int) (ys : List Stp) : Bool := decide (outcomeS (runR ys) = o)
def restS (day o : Int) : Nat → List Stp → Option (List Stp)
  | 0, ys => if hit o ys = true then some ys else none
  | n + 1, ys => (kids day ys).findSome? (restS day o n)
theorem findSome_flat {α β : Type} (f : β → Option β) (g : α → List β) : ∀ L : List α, (L.flatMap g).findSome? f = L.findSome? fun a => (g a).findSome? f
  | [] => rfl
  | a :: L => by
    simp only [List.flatMap_cons, List.findSome?_append, List.findSome?_cons]
    rw [findSome_flat f g L]
    cases (g a).findSome? f <;> rfl
theorem find_hit (o : Int) : ∀ L : List (List Stp), L.find? (hit o) = L.findSome? fun y => if hit o y = true then some y else none
  | [] => rfl
  | y :: L => by
    simp only [List.find?_cons, List.findSome?_cons]
    cases hit o y
    · simpa using find_hit o L
    · rfl
/-- The first hit on a level, breadth first, is the first depth first. -/
theorem levs_find (day o : Int) : ∀ (n : Nat) (L : List (List Stp)), (levs day L n).find? (hit o) = L.findSome? (restS day o n)
  | 0, L => find_hit o L
  | n + 1, L => by
    rw [levs, levs_find day o n, findSome_flat]
    rfl

def dayS (day : Int) (s : St) (kind : Int) : Int := max (max (winL s kind) s.last) day
def exS (day o : Int) : Nat → St → Nat → Prop
  | 0, s, _ => outcomeS s = o
  | m + 1, s, n => ∃ kind : Nat, kind < 8 ∧ allowB s n (dayS day s kind, kind) = true ∧ exS day o m (takeB s (dayS day s kind, kind)) (n + 1)
theorem exS_room (day o : Int) : ∀ (m : Nat) (s : St) (n : Nat), n ≤ 12 → exS day o m s n → n + m ≤ 12
  | 0, _, n, hn, _ => hn
  | m + 1, s, n, _, h => by
    obtain ⟨kind, _, ha, hx⟩ := h
    have hn : n < 12 := by simp [allowB] at ha; omega
    have := exS_room day o m _ (n + 1) (by omega) hx
    omega
theorem allow_iff (s : St) (n : Nat) (d k : Int) : allowB s n (d, k) = true ↔ n < 12 ∧ max (winL s k) s.last ≤ d ∧ d ≤ min (winH s k) 1000000000000 := by
  simp [allowB, inB]; omega
/-- Uphold on the day of the appeal. -/
theorem ex4 {day o : Int} {s : St} {n : Nat} (h4 : s.stage = 4) (hn : n < 12) (hl0 : 0 ≤ s.last) (hl : s.last ≤ 1000000000000) (hd : day ≤ 1000000000000) (ho : (if s.granted = true then 1 else -1) = o) : exS day o 1 s n := by
  refine ⟨5, by omega, ?_, ?_⟩
  · rw [allow_iff]
    simp [dayS, winL, winH, h4]; omega
  · simp [exS, takeB, outcomeS, ← ho]
theorem ex3 {day o : Int} {s : St} {n : Nat} (h3 : s.stage = 3) (hn : n + 1 < 12) (hl0 : 0 ≤ s.last) (hl : s.last ≤ 1000000000000) (hd : day ≤ 1000000000000) (hdec : max s.last day ≤ s.decision + 14) (ho : (if s.granted = true then 1 else -1) = o) : exS day o 2 s n := by
  refine ⟨4, by omega, ?_, ?_⟩
  · rw [allow_iff]
    simp [dayS, winL, winH, h3]; omega
  · refine ex4 (by simp [takeB]) (by omega) ?_ ?_ hd (by simpa [takeB] using ho)
    · simp [takeB, dayS, winL, h3]; omega
    · simp [takeB, dayS, winL, h3]; omega
theorem ex2 {day o : Int} {s : St} {n : Nat} (h2 : s.stage = 2) (hn : n + 2 < 12) (hl0 : 0 ≤ s.last) (hl : s.last ≤ 1000000000000) (hd : day ≤ 1000000000000) (ho : o = 1 ∨ o = -1) : exS day o 3 s n := by
  rcases ho with rfl | rfl
  · refine ⟨2, by omega, ?_, ?_⟩
    · rw [allow_iff]
      simp [dayS, winL, winH, h2]; omega
    · refine ex3 (by simp [takeB]) (by omega) ?_ ?_ hd ?_ (by simp [takeB]) <;> simp [takeB, dayS, winL, h2] <;> omega
  · refine ⟨3, by omega, ?_, ?_⟩
    · rw [allow_iff]
      simp [dayS, winL, winH, h2]; omega
    · refine ex3 (by simp [takeB]) (by omega) ?_ ?_ hd ?_ (by simp [takeB]) <;> simp [takeB, dayS, winL, h2] <;> omega
theorem ex1 {day o : Int} {s : St} {n : Nat} (h1 : s.stage = 1) (hn : n + 3 < 12) (hn0 : 0 ≤ s.notice) (hl0 : 0 ≤ s.last) (hl : s.last ≤ 1000000000000) (hd : day ≤ 1000000000000) (ho : o = 1 ∨ o = -1) : exS day o 3 s n ∨ exS day o 4 s n := by
  by_cases hb : s.notice + 31 ≤ 1000000000000
  · left
    rcases ho with rfl | rfl
    · refine ⟨2, by omega, ?_, ?_⟩
      · rw [allow_iff]
        simp [dayS, winL, winH, h1]; omega
      · refine ex3 (by simp [takeB]) (by omega) ?_ ?_ hd ?_ (by simp [takeB]) <;> simp [takeB, dayS, winL, h1] <;> omega
    · refine ⟨3, by omega, ?_, ?_⟩
      · rw [allow_iff]
        simp [dayS, winL, winH, h1]; omega
      · refine ex3 (by simp [takeB]) (by omega) ?_ ?_ hd ?_ (by simp [takeB]) <;> simp [takeB, dayS, winL, h1] <;> omega
  · right
    refine ⟨1, by omega, ?_, ?_⟩
    · rw [allow_iff]
      simp [dayS, winL, winH, h1]; omega
    · refine ex2 (by simp [takeB]) (by omega) ?_ ?_ hd ho <;> simp [takeB, dayS, winL, h1] <;> omega
theorem ex0 {day o : Int} {s : St} {n : Nat} (h0 : s.stage = 0) (hn : n + 4 < 12) (hl0 : 0 ≤ s.last) (hl : s.last ≤ 1000000000000) (hd : day ≤ 1000000000000) (ho : o = 1 ∨ o = -1) : exS day o 4 s n ∨ exS day o 5 s n := by
  have key := ex1 (day := day) (o := o) (s := takeB s (dayS day s 0, 0)) (n := n + 1) (by simp [takeB]) (by omega) (by simp [takeB, dayS, winL, h0]; omega) (by simp [takeB, dayS, winL, h0]; omega) (by simp [takeB, dayS, winL, h0]; omega) hd ho
  have ha : allowB s n (dayS day s ((0 : Nat) : Int), ((0 : Nat) : Int)) = true := by
    rw [allow_iff]
    simp [dayS, winL, winH, h0]; omega
  rcases key with k | k
  · exact .inl ⟨0, by omega, ha, k⟩
  · exact .inr ⟨0, by omega, ha, k⟩
theorem no5 {day o : Int} {s : St} {n m : Nat} (h5 : s.stage = 5) : ¬ exS day o (m + 1) s n := by
  rintro ⟨kind, _, ha, _⟩
  rw [allow_iff] at ha
  simp [winL, winH, h5] at ha
  omega
theorem kinds8 {kind : Nat} (h : kind < 8) : kind = 0 ∨ kind = 1 ∨ kind = 2 ∨ kind = 3 ∨ kind = 4 ∨ kind = 5 ∨ kind = 6 ∨ kind = 7 := by omega
theorem no4 {day o : Int} {s : St} {n m : Nat} (h4 : s.stage = 4) : ¬ exS day o (m + 2) s n := by
  rintro ⟨kind, hk, ha, hx⟩
  rw [allow_iff] at ha
  rcases kinds8 hk with rfl | rfl | rfl | rfl | rfl | rfl | rfl | rfl <;> simp [winL, winH, h4] at ha
  all_goals first
    | omega
    | exact no5 (by simp [takeB]) hx
theorem no3 {day o : Int} {s : St} {n m : Nat} (h3 : s.stage = 3) : ¬ exS day o (m + 3) s n := by
  rintro ⟨kind, hk, ha, hx⟩
  rw [allow_iff] at ha
  rcases kinds8 hk with rfl | rfl | rfl | rfl | rfl | rfl | rfl | rfl <;> simp [winL, winH, h3] at ha
  all_goals first
    | omega
    | exact absurd hx (no4 rfl)
    | exact absurd hx (no5 rfl)
    | fail
/-- A hit at any level gives one at a level up to five. -/
theorem ex_five {day o : Int} {s : St} {n m : Nat} (h : StOk s) (hn : n ≤ 12) (hd : day ≤ 1000000000000) (ho : o = 1 ∨ o = -1) (hx : exS day o m s n) : ∃ k, k ≤ 5 ∧ exS day o k s n := by
  by_cases hm : m ≤ 5
  · exact ⟨m, hm, hx⟩
  · have hr := exS_room day o m s n hn hx
    obtain ⟨h1, h2, f0, f1, f2, f3, f4, f5⟩ := h
    have hst : s.stage = 0 ∨ s.stage = 1 ∨ s.stage = 2 ∨ s.stage = 3 ∨ s.stage = 4 ∨ s.stage = 5 := by omega
    rcases hst with h | h | h | h | h | h
    · rcases ex0 h (n := n) (by omega) f4 f5 hd ho with k | k
      · exact ⟨4, by omega, k⟩
      · exact ⟨5, by omega, k⟩
    · rcases ex1 h (n := n) (by omega) f0 f4 f5 hd ho with k | k
      · exact ⟨3, by omega, k⟩
      · exact ⟨4, by omega, k⟩
    · exact ⟨3, by omega, ex2 h (n := n) (by omega) f4 f5 hd ho⟩
    · obtain ⟨q, rfl⟩ : ∃ q, m = q + 3 := ⟨m - 3, by omega⟩
      exact absurd hx (no3 h)
    · obtain ⟨q, rfl⟩ : ∃ q, m = q + 2 := ⟨m - 2, by omega⟩
      exact absurd hx (no4 h)
    · obtain ⟨q, rfl⟩ : ∃ q, m = q + 1 := ⟨m - 1, by omega⟩
      exact absurd hx (no5 h)
end Go.Proofs.Yteffnidkkeeaiaa
