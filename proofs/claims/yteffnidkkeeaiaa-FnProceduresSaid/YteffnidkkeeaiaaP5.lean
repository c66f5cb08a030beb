/- The plain law of ShortestRest: lengths of the levels. -/
import Derived.Test.YteffnidkkeeaiaaP4
import Derived.Test.YteffnidkkeeaiaaC9
namespace Go.Proofs.Yteffnidkkeeaiaa

theorem kidsTo_len (day : Int) (ys : List Stp) (k : Nat) : (kidsTo day ys k).length ≤ k := by
  induction k with
  | zero => simp [kidsTo]
  | succ k ih =>
    rw [kidsTo_succ, List.length_append]
    cases kid day ys k <;> simp <;> omega
theorem flat_len (day : Int) : ∀ L : List (List Stp), (L.flatMap (kids day)).length ≤ 8 * L.length
  | [] => by simp
  | y :: L => by
    have h1 := flat_len day L
    have h2 := kidsTo_len day y 8
    have e : (kids day y).length ≤ 8 := h2
    simp only [List.flatMap_cons, List.length_append, List.length_cons]
    omega
theorem levs_mem {day : Int} {xs : List Stp} (h : isProc xs = true) : ∀ (n : Nat) (y : List Stp), y ∈ levs day [xs] n → isProc y = true ∧ y.length = xs.length + n
  | 0, y, hy => by
    simp only [levs, List.mem_singleton] at hy
    subst hy
    exact ⟨h, rfl⟩
  | n + 1, y, hy => by
    rw [levs_succ, List.mem_flatMap] at hy
    obtain ⟨z, hz, hyz⟩ := hy
    obtain ⟨p, l⟩ := levs_mem h n z hz
    obtain ⟨kind, hk, hkz⟩ := (mem_kidsTo day z y 8).1 hyz
    obtain ⟨q1, q2, _⟩ := kid_some hk p hkz
    exact ⟨q1, by omega⟩
theorem levs_pow (day : Int) (xs : List Stp) : ∀ n, (levs day [xs] n).length ≤ 8 ^ n
  | 0 => by simp [levs]
  | n + 1 => by
    rw [levs_succ]
    have h1 := flat_len day (levs day [xs] n)
    have h2 := levs_pow day xs n
    rw [Nat.pow_succ]
    omega
theorem levs_bound {day : Int} {xs : List Stp} (h : isProc xs = true) (n : Nat) : (levs day [xs] n).length ≤ 68719476736 ∧ (0 < (levs day [xs] n).length → n ≤ 12) := by
  have key : 0 < (levs day [xs] n).length → n ≤ 12 := fun hp => by
    have hm := List.getElem_mem hp
    obtain ⟨p, l⟩ := levs_mem h n _ hm
    have := isProc_len p
    omega
  refine ⟨?_, key⟩
  by_cases hp : 0 < (levs day [xs] n).length
  · have h1 := levs_pow day xs n
    have h2 : 8 ^ n ≤ 8 ^ 12 := Nat.pow_le_pow_right (by decide) (key hp)
    have h3 : (8 : Nat) ^ 12 = 68719476736 := by decide
    omega
  · omega
theorem find_at {o : Int} : ∀ (L : List (List Stp)) (j : Nat) (hj : j < L.length), (∀ y ∈ L.take j, hit o y = false) → hit o L[j] = true → L.find? (hit o) = some L[j]
  | [], j, hj, _, _ => absurd hj (by simp)
  | a :: L, 0, _, _, h => by
    have h' : hit o a = true := by simpa using h
    simp [List.find?_cons, h']
  | a :: L, j + 1, hj, h0, h => by
    have ha : hit o a = false := h0 a (by simp)
    rw [List.find?_cons, ha]
    exact find_at L j (by simpa using hj) (fun y hy => h0 y (by simp [hy])) (by simpa using h)
theorem find_no {o : Int} {L : List (List Stp)} (h : ∀ y ∈ L, hit o y = false) : L.find? (hit o) = none := by
  rw [List.find?_eq_none]
  intro y hy
  simp [h y hy]
theorem take_no {o : Int} {L : List (List Stp)} {j : Nat} (hj : j < L.length) (h : ∀ y ∈ L.take j, hit o y = false) (hn : hit o L[j] = false) : ∀ y ∈ L.take (j + 1), hit o y = false := by
  intro y hy
  rw [List.take_succ_eq_append_getElem hj, List.mem_append] at hy
  rcases hy with hy | hy
  · exact h y hy
  · simp at hy; subst hy; exact hn
theorem take_flat {day : Int} {L : List (List Stp)} {j : Nat} (hj : j < L.length) : (L.take (j + 1)).flatMap (kids day) = (L.take j).flatMap (kids day) ++ kidsTo day L[j] 8 := by
  rw [List.take_succ_eq_append_getElem hj, List.flatMap_append]
  simp [kids]
/-- What the search by levels shows of the answer. -/
theorem short_hit {day o : Int} {xs z : List Stp} {n : Nat} (h : isProc xs = true) (hc : codeB xs day = 0) (hd : day ≤ 1000000000000) (ho : o = 1 ∨ o = -1) (h0 : firstTo (fun m => restS day o m xs) n = none) (hz : (levs day [xs] n).find? (hit o) = some z) :
    shortR day o xs = (z.drop xs.length, 0) := by
  rw [shortR, if_pos hc, if_pos ho, first_hit h hd ho h0 hz]
theorem short_end {day o : Int} {xs : List Stp} {n : Nat} (hc : codeB xs day = 0) (ho : o = 1 ∨ o = -1) (h0 : firstTo (fun m => restS day o m xs) n = none) (hz : levs day [xs] n = []) : shortR day o xs = ([], 4) := by
  rw [shortR, if_pos hc, if_pos ho, first_end h0 hz]
theorem first_next {day o : Int} {xs : List Stp} {n : Nat} (h0 : firstTo (fun m => restS day o m xs) n = none) (hz : (levs day [xs] n).find? (hit o) = none) : firstTo (fun m => restS day o m xs) (n + 1) = none := by
  rw [firstTo, h0]
  show restS day o n xs = none
  rw [rest_lev, hz]
end Go.Proofs.Yteffnidkkeeaiaa
