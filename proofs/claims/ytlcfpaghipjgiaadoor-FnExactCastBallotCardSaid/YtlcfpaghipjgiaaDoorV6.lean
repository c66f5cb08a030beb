/- An argument that is a slice of ballots, opened. -/
import Derived.Test.YtlcfpaghipjgiaaDoorM6
import Derived.Test.YtlcfpaghipjgiaaDoorV3
namespace Go.Proofs.YtlcfpaghipjgiaaDoor
open Go.ChangeShapes Go.WideShapes Go.Deep Go.RowKit
section
variable {H : Type} {enc : TypeId × Value → H} {w : World} {base : Nat} {spare : Nat → Bool} {held : Bool}
theorem open_ballots {P : Program} {t e e0 e1 : TypeId} {n0 n1 n2 : Field} {d : DataW H} {p : List MemPlace} (ht : P.underlying t = some (.slice e)) (he : P.underlying e = some (.struct #[n0, n1, n2]))
    (hone : oneCellFields P #[n0, n1, n2] = true) (hC : P.cellsOf e = 3) (t0 : n0.type = e0) (t1 : n1.type = e1) (t2 : n2.type = e1) (hstr : P.underlying e0 = some .string) (hint : P.underlying e1 = some (.int .i64)) {a : Option Addr} {len cap : Nat} (h : DataW.Trod enc P w base spare held t (.slice a len cap) d p) :
    ∃ xs : List Bal, xs.length = len ∧ HasBal w xs a := by
  obtain ⟨fuel, hf⟩ := h
  rcases open_slice_fields ht he hone (by simpa using hC) hf with ⟨hcs, _⟩ | ⟨x, l, c, m, D, Pl, hcs, _, hl, hm, hmm, _, hi⟩
  · simp [Value.cells] at hcs
    obtain ⟨rfl, rfl, rfl⟩ := hcs
    exact ⟨[], rfl, by simpa [baC] using Reads.nil_, by simp, by simp⟩
  · simp [Value.cells] at hcs
    obtain ⟨rfl, rfl, rfl⟩ := hcs
    have hlm : len ≤ m := by rw [hmm]; split <;> omega
    have key : ∀ i, i < len → ∃ s : Bal, (w.cell? (x.add (i * 3)) = some (.string s.name) ∧ w.cell? (x.add (i * 3 + 1)) = some (.int .i64 s.choice) ∧ w.cell? (x.add (i * 3 + 2)) = some (.int .i64 s.weight)) ∧ s.name.size ≤ maxLen := by
      intro i hil
      obtain ⟨ys, n, _, _, _, hff⟩ := hi i (by omega)
      obtain ⟨u0, y0, hc0, _, ht0⟩ := hff 0 n0 rfl
      obtain ⟨u1, y1, hc1, _, ht1⟩ := hff 1 n1 rfl
      obtain ⟨u2, y2, hc2, _, ht2⟩ := hff 2 n2 rfl
      rw [t0] at ht0
      rw [t1] at ht1
      rw [t2] at ht2
      obtain ⟨k0, e0', _, hk⟩ := DataW.trod_string hstr ht0
      obtain ⟨k1, e1', _⟩ := DataW.trod_int hint ht1
      obtain ⟨k2, e2', _⟩ := DataW.trod_int hint ht2
      simp at e0' e1' e2'
      subst e0' e1' e2'
      exact ⟨⟨k0, k1, k2⟩, ⟨by simpa using hc0, by simpa using hc1, by simpa using hc2⟩, hk⟩
    obtain ⟨xs, hxl, hxp⟩ := list_of key
    refine ⟨xs, hxl, ?_, by unfold maxLen at hm; omega, ?_⟩
    · rw [hxl]
      refine reads_of (by decide) (by rw [baC_len, hxl]) (fun i j hil hj u hu => ?_) (fun h0 => ⟨_, by simpa using (hxp 0 (by omega)).1.1⟩)
      obtain ⟨g0, g1, g2⟩ := baC_get xs i (by omega)
      obtain ⟨⟨q0, q1, q2⟩, _⟩ := hxp i (by omega)
      have hj3 : j = 0 ∨ j = 1 ∨ j = 2 := by omega
      rcases hj3 with rfl | rfl | rfl
      · rw [Nat.add_zero] at hu ⊢; rw [g0] at hu; cases hu; exact q0
      · rw [g1] at hu; cases hu; exact q1
      · rw [g2] at hu; cases hu; exact q2
    · intro b hb
      obtain ⟨i, hi, rfl⟩ := List.getElem_of_mem hb
      have := (hxp i hi).2
      unfold maxLen at this
      omega
end
end Go.Proofs.YtlcfpaghipjgiaaDoor
