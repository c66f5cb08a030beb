/- The plain law of FnShortest: what a shortest rest is. -/
import Derived.Test.YteffnidkkeeaiaaP5
import Derived.Test.YteffnidkkeeaiaaC9
namespace Go.Proofs.Yteffnidkkeeaiaa

theorem firstTo_lt {α : Type} {f : Nat → Option α} {z : α} : ∀ k, firstTo f k = some z → ∃ m, m < k ∧ f m = some z
  | 0, h => by cases h
  | k + 1, h => by
    unfold firstTo at h
    cases hk : firstTo f k with
    | none => rw [hk] at h; exact ⟨k, by omega, h⟩
    | some y =>
      rw [hk] at h
      cases h
      obtain ⟨m, h1, h2⟩ := firstTo_lt k hk
      exact ⟨m, by omega, h2⟩
/-- A rest leads to the outcome, step by step. -/
def RestOk (day o : Int) (xs r : List Stp) : Prop :=
  outcomeS (runR (xs ++ r)) = o ∧ (∀ i, i ≤ r.length → isProc (xs ++ r.take i) = true) ∧ ∀ s ∈ r, day ≤ s.1
theorem restS_ok {day o : Int} : ∀ (m : Nat) (xs z : List Stp), isProc xs = true → restS day o m xs = some z → ∃ r, z = xs ++ r ∧ r.length = m ∧ RestOk day o xs r
  | 0, xs, z, hp, h => by
    unfold restS at h
    split at h
    · cases h
      rename_i hh
      refine ⟨[], by simp, rfl, by simpa [hit] using hh, fun i hi => by simpa using hp, by simp⟩
    · cases h
  | m + 1, xs, z, hp, h => by
    simp only [restS] at h
    obtain ⟨y, hy, hr⟩ := List.exists_of_findSome?_eq_some h
    obtain ⟨kind, hk, hkz⟩ := (mem_kidsTo day xs y 8).1 hy
    obtain ⟨p, l, _⟩ := kid_some hk hp hkz
    obtain ⟨r, rfl, hl, h1, h2, h3⟩ := restS_ok m y z p hr
    unfold kid at hkz
    split at hkz
    · simp only [Option.some.injEq] at hkz
      subst hkz
      refine ⟨(earlyD day xs kind, (kind : Int)) :: r, by simp, by simp [hl], by simpa using h1, fun i hi => ?_, fun s hs => ?_⟩
      · cases i with
        | zero => simpa using hp
        | succ i =>
          have := h2 i (by simp at hi; omega)
          simpa using this
      · rcases List.mem_cons.1 hs with rfl | hs
        · show day ≤ max _ day; omega
        · exact h3 s hs
    · cases hkz
theorem short_ok {day o : Int} {xs : List Stp} (h : (shortR day o xs).2 = 0) : isProc xs = true ∧ inB day 0 1000000000000 = true ∧ (shortR day o xs).1.length ≤ 5 ∧ RestOk day o xs (shortR day o xs).1 := by
  unfold shortR at h ⊢
  split at h
  · rename_i hc
    have hp : isProc xs = true ∧ inB day 0 1000000000000 = true := by
      unfold codeB at hc; split at hc
      · split at hc
        · exact ⟨‹_›, ‹_›⟩
        · cases hc
      · cases hc
    refine ⟨hp.1, hp.2, ?_⟩
    rw [if_pos hc]
    split at h
    · rename_i ho
      rw [if_pos ho]
      split at h
      · rename_i z hz
        obtain ⟨m, hm, hr⟩ := firstTo_lt 6 hz
        obtain ⟨r, rfl, hl, hok⟩ := restS_ok m xs z hp.1 hr
        simp only [List.drop_left]
        exact ⟨by omega, hok⟩
      · cases h
    · cases h
  · rename_i hc; simp only at h; exact absurd h hc
theorem rest_step {xs r : List Stp} {day o : Int} (h : RestOk day o xs r) {i : Nat} (hi : i < r.length) : takeR (xs ++ r.take i) r[i] = (xs ++ r.take (i + 1), 0) := by
  have h1 := h.2.1 i (by omega)
  have h2 := h.2.1 (i + 1) (by omega)
  rw [List.take_succ_eq_append_getElem hi, ← List.append_assoc] at h2
  have hd := runR_ok h2
  rw [StOk] at hd
  have hl := last_snoc h2
  obtain ⟨_, _, _, _, _, _, f4, f5⟩ := hd
  rw [hl] at f4 f5
  have hc : codeB (xs ++ r.take i) r[i].1 = 0 := by
    have : inB r[i].1 0 1000000000000 = true := by simp [inB]; omega
    rw [codeB, if_pos h1, if_pos this]
  rw [takeR, if_pos hc, if_pos h2, List.take_succ_eq_append_getElem hi, ← List.append_assoc]
end Go.Proofs.Yteffnidkkeeaiaa
