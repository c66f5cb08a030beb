/- The sites that a walk needs; an argument that is a slice of sites, opened. -/
import Derived.Test.YtnbpbidflacoiaaDoorM6
import Derived.Test.YtnbpbidflacoiaaDoorR2
namespace Go.Proofs.YtnbpbidflacoiaaDoor
open Go.ChangeShapes Go.WideShapes Go.Deep Go.RowKit
/-- The sites that a walk needs: they lie in memory, and their codes are not too long. -/
def HasSit (w : World) (xs : List Sit) (A : Option Addr) : Prop := Reads w w.heap.size 3 A xs.length (siC xs) ∧ xs.length ≤ 9223372036854775807 ∧ ∀ b ∈ xs, b.name.size ≤ 9223372036854775807
theorem HasSit.below {w w' : World} {xs : List Sit} {A : Option Addr} (h : HasSit w xs A) (hb : Below w.heap.size w w') : HasSit w' xs A := ⟨(h.1.below hb).more hb.size, h.2⟩
section
variable {H : Type} {enc : TypeId × Value → H} {w : World} {base : Nat} {spare : Nat → Bool} {held : Bool}
theorem open_sites {P : Program} {t e e0 e1 : TypeId} {n0 n1 m0 m1 : Field} {d : DataW H} {p : List MemPlace} (ht : P.underlying t = some (.slice e)) (he : P.underlying e = some (.struct #[n0, n1])) (hp : P.underlying n1.type = some (.struct #[m0, m1]))
    (hC : P.cellsOf e = 3) (o0 : n0.offset = 0) (o1 : n1.offset = 1) (q0 : m0.offset = 0) (q1 : m1.offset = 1) (c0 : P.cellsOf n0.type = 1) (c1 : P.cellsOf n1.type = 2) (d0 : P.cellsOf m0.type = 1) (d1 : P.cellsOf m1.type = 1)
    (t0 : n0.type = e0) (u0 : m0.type = e1) (u1 : m1.type = e1) (hstr : P.underlying e0 = some .string) (hint : P.underlying e1 = some (.int .i64)) {a : Option Addr} {len cap : Nat} (h : DataW.Trod enc P w base spare held t (.slice a len cap) d p) :
    ∃ xs : List Sit, xs.length = len ∧ HasSit w xs a := by
  obtain ⟨fuel, hf⟩ := h
  rcases open_slice ht hf with ⟨hcs, _⟩ | ⟨x, l, c, m, n, D, Pl, hcs, _, hl, hm, hmm, _, hi⟩
  · simp [Value.cells] at hcs
    obtain ⟨rfl, rfl, rfl⟩ := hcs
    exact ⟨[], rfl, by simpa [siC] using Reads.nil_, by simp, by simp⟩
  · simp [Value.cells] at hcs
    obtain ⟨rfl, rfl, rfl⟩ := hcs
    have hlm : len ≤ m := by rw [hmm]; split <;> omega
    have key : ∀ i, i < len → ∃ s : Sit, (w.cell? (x.add (i * 3)) = some (.string s.name) ∧ w.cell? (x.add (i * 3 + 1)) = some (.int .i64 s.x) ∧ w.cell? (x.add (i * 3 + 2)) = some (.int .i64 s.y)) ∧ s.name.size ≤ maxLen := by
      intro i hil
      obtain ⟨cs', hc, htr⟩ := hi i (by omega)
      rw [hC] at hc
      obtain ⟨ys, n', _, _, hlen, hyl, hff⟩ := DataW.trod_struct he htr
      obtain ⟨_, hcl, hat⟩ := World.cells?_some hc
      match cs', hcl with
      | [a0, a1, a2], _ =>
        have h0 := hff 0 n0 rfl
        have h1 := hff 1 n1 rfl
        rw [o0, c0, List.getElem?_eq_getElem (by rw [hyl]; simp)] at h0
        rw [o1, c1, List.getElem?_eq_getElem (by rw [hyl]; simp)] at h1
        rw [t0] at h0
        obtain ⟨s, e1', _, hs⟩ := DataW.trod_string hstr h0
        obtain ⟨zs, n'', _, _, _, hzl, hgg⟩ := DataW.trod_struct hp h1
        have g0 := hgg 0 m0 rfl
        have g1 := hgg 1 m1 rfl
        rw [q0, d0, List.getElem?_eq_getElem (by rw [hzl]; simp), u0] at g0
        rw [q1, d1, List.getElem?_eq_getElem (by rw [hzl]; simp), u1] at g1
        obtain ⟨k1, e2', _⟩ := DataW.trod_int hint g0
        obtain ⟨k2, e3', _⟩ := DataW.trod_int hint g1
        simp at e1' e2' e3'
        subst e1' e2' e3'
        have b0 := hat 0 (by omega)
        have b1 := hat 1 (by omega)
        have b2 := hat 2 (by omega)
        rw [Go.Deep.add_add] at b0 b1 b2
        exact ⟨⟨s, k1, k2⟩, ⟨by simpa using b0, by simpa using b1, by simpa using b2⟩, hs⟩
    obtain ⟨xs, hxl, hxp⟩ := list_of key
    refine ⟨xs, hxl, ?_, by unfold maxLen at hm; omega, ?_⟩
    · rw [hxl]
      refine reads_of (by decide) (by rw [siC_len, hxl]) (fun i j hil hj u hu => ?_) (fun h0 => ⟨_, by simpa using (hxp 0 (by omega)).1.1⟩)
      obtain ⟨g0, g1, g2⟩ := siC_get xs i (by omega)
      obtain ⟨⟨q0, q1, q2⟩, _⟩ := hxp i (by omega)
      have hj3 : j = 0 ∨ j = 1 ∨ j = 2 := by omega
      rcases hj3 with rfl | rfl | rfl
      · rw [Nat.add_zero] at hu ⊢; rw [g0] at hu; cases hu; exact q0
      · rw [g1] at hu; cases hu; exact q1
      · rw [g2] at hu; cases hu; exact q2
    · intro b hb
      obtain ⟨i, hi, rfl⟩ := List.getElem_of_mem hb
      have := (hxp i hi).2
      unfold maxLen at this
      omega
end
end Go.Proofs.YtnbpbidflacoiaaDoor
