/- An argument that is a list of these, opened. -/
import Derived.Test.YthlpclnfnfbeiaaGreatDoorM6
import Derived.Test.YthlpclnfnfbeiaaGreatDoorFC0
namespace Go.Proofs.YthlpclnfnfbeiaaGreatDoor
open Go.ChangeShapes Go.WideShapes Go.Deep Go.RowKit
section
variable {H : Type} {enc : TypeId × Value → H} {w : World} {base : Nat} {spare : Nat → Bool} {held : Bool}
theorem open_clm {P : Program} {t e e0 e1 : TypeId} {n0 n1 n2 n3 n4 n5 m0 m1 : Field} {d : DataW H} {p : List MemPlace} (ht : P.underlying t = some (.slice e)) (he : P.underlying e = some (.struct #[n0, n1, n2, n3, n4, n5])) (hp : P.underlying n4.type = some (.struct #[m0, m1]))
    (hC : P.cellsOf e = 7) (o0 : n0.offset = 0) (o1 : n1.offset = 1) (o2 : n2.offset = 2) (o3 : n3.offset = 3) (o4 : n4.offset = 4) (o5 : n5.offset = 6) (c0 : P.cellsOf n0.type = 1) (c1 : P.cellsOf n1.type = 1) (c2 : P.cellsOf n2.type = 1) (c3 : P.cellsOf n3.type = 1) (c4 : P.cellsOf n4.type = 2) (c5 : P.cellsOf n5.type = 1) (q0 : m0.offset = 0) (q1 : m1.offset = 1) (d0 : P.cellsOf m0.type = 1) (d1 : P.cellsOf m1.type = 1) (u0 : m0.type = e1) (u1 : m1.type = e1) (t0 : n0.type = e0) (t1 : n1.type = e1) (t2 : n2.type = e0) (t3 : n3.type = e0) (t5 : n5.type = e1) (hstr : P.underlying e0 = some .string) (hint : P.underlying e1 = some (.int .i64)) {a : Option Addr} {len cap : Nat} (h : DataW.Trod enc P w base spare held t (.slice a len cap) d p) :
    ∃ xs : List Clm, xs.length = len ∧ HasClm w xs a := by
  obtain ⟨fuel, hf⟩ := h
  rcases open_slice ht hf with ⟨hcs, _⟩ | ⟨x, l, c, m, n, D, Pl, hcs, _, hl, hm, hmm, _, hi⟩
  · simp [Value.cells] at hcs
    obtain ⟨rfl, rfl, rfl⟩ := hcs
    exact ⟨[], rfl, by simpa [clC] using Reads.nil_, by simp, by simp⟩
  · simp [Value.cells] at hcs
    obtain ⟨rfl, rfl, rfl⟩ := hcs
    have hlm : len ≤ m := by rw [hmm]; split <;> omega
    have key : ∀ i, i < len → ∃ s : Clm, (w.cell? (x.add (i * 7)) = some (.string s.src) ∧ w.cell? (x.add (i * 7 + 1)) = some (.int .i64 s.kind) ∧ w.cell? (x.add (i * 7 + 2)) = some (.string s.place) ∧ w.cell? (x.add (i * 7 + 3)) = some (.string s.val_) ∧ w.cell? (x.add (i * 7 + 4)) = some (.int .i64 s.lo) ∧ w.cell? (x.add (i * 7 + 5)) = some (.int .i64 s.hi) ∧ w.cell? (x.add (i * 7 + 6)) = some (.int .i64 s.weight)) ∧ (s.src.size ≤ maxLen ∧ s.place.size ≤ maxLen ∧ s.val_.size ≤ maxLen) := by
      intro i hil
      obtain ⟨cs', hc, htr⟩ := hi i (by omega)
      rw [hC] at hc
      obtain ⟨ys, n', _, _, hlen, hyl, hff⟩ := DataW.trod_struct he htr
      obtain ⟨_, hcl, hat⟩ := World.cells?_some hc
      match cs', hcl with
      | [a0, a1, a2, a3, a4, a5, a6], _ =>
        have h0 := hff 0 n0 rfl
        rw [o0, c0, List.getElem?_eq_getElem (by rw [hyl]; simp)] at h0
        rw [t0] at h0
        obtain ⟨r0, y0, _, hs0⟩ := DataW.trod_string hstr h0
        have h1 := hff 1 n1 rfl
        rw [o1, c1, List.getElem?_eq_getElem (by rw [hyl]; simp)] at h1
        rw [t1] at h1
        obtain ⟨r1, y1, _⟩ := DataW.trod_int hint h1
        have h2 := hff 2 n2 rfl
        rw [o2, c2, List.getElem?_eq_getElem (by rw [hyl]; simp)] at h2
        rw [t2] at h2
        obtain ⟨r2, y2, _, hs2⟩ := DataW.trod_string hstr h2
        have h3 := hff 3 n3 rfl
        rw [o3, c3, List.getElem?_eq_getElem (by rw [hyl]; simp)] at h3
        rw [t3] at h3
        obtain ⟨r3, y3, _, hs3⟩ := DataW.trod_string hstr h3
        have h4 := hff 4 n4 rfl
        rw [o4, c4, List.getElem?_eq_getElem (by rw [hyl]; simp)] at h4
        obtain ⟨zs, n'', _, _, _, hzl, hgg⟩ := DataW.trod_struct hp h4
        have g0 := hgg 0 m0 rfl
        rw [q0, d0, List.getElem?_eq_getElem (by rw [hzl]; simp), u0] at g0
        obtain ⟨r4, y4, _⟩ := DataW.trod_int hint g0
        have g1 := hgg 1 m1 rfl
        rw [q1, d1, List.getElem?_eq_getElem (by rw [hzl]; simp), u1] at g1
        obtain ⟨r5, y5, _⟩ := DataW.trod_int hint g1
        have h5 := hff 5 n5 rfl
        rw [o5, c5, List.getElem?_eq_getElem (by rw [hyl]; simp)] at h5
        rw [t5] at h5
        obtain ⟨r6, y6, _⟩ := DataW.trod_int hint h5
        simp at y0 y1 y2 y3 y4 y5 y6
        subst y0 y1 y2 y3 y4 y5 y6
        have b0 := hat 0 (by omega)
        have b1 := hat 1 (by omega)
        have b2 := hat 2 (by omega)
        have b3 := hat 3 (by omega)
        have b4 := hat 4 (by omega)
        have b5 := hat 5 (by omega)
        have b6 := hat 6 (by omega)
        rw [Go.Deep.add_add] at b0 b1 b2 b3 b4 b5 b6
        exact ⟨⟨r0, r1, r2, r3, r4, r5, r6⟩, ⟨by simpa using b0, by simpa using b1, by simpa using b2, by simpa using b3, by simpa using b4, by simpa using b5, by simpa using b6⟩, hs0, hs2, hs3⟩
    obtain ⟨xs, hxl, hxp⟩ := list_of key
    refine ⟨xs, hxl, ?_, by unfold maxLen at hm; omega, ?_⟩
    · rw [hxl]
      refine reads_of (by decide) (by rw [clC_len, hxl]) (fun i j hil hj u hu => ?_) (fun h0 => ⟨_, by simpa using (hxp 0 (by omega)).1.1⟩)
      obtain ⟨g0, g1, g2, g3, g4, g5, g6⟩ := clC_get xs i (by omega)
      obtain ⟨⟨q0, q1, q2, q3, q4, q5, q6⟩, _⟩ := hxp i (by omega)
      have hj3 : j = 0 ∨ j = 1 ∨ j = 2 ∨ j = 3 ∨ j = 4 ∨ j = 5 ∨ j = 6 := by omega
      rcases hj3 with rfl | rfl | rfl | rfl | rfl | rfl | rfl
      · rw [Nat.add_zero] at hu ⊢; rw [g0] at hu; cases hu; exact q0
      · rw [g1] at hu; cases hu; exact q1
      · rw [g2] at hu; cases hu; exact q2
      · rw [g3] at hu; cases hu; exact q3
      · rw [g4] at hu; cases hu; exact q4
      · rw [g5] at hu; cases hu; exact q5
      · rw [g6] at hu; cases hu; exact q6
    · intro b hb
      obtain ⟨i, hi, rfl⟩ := List.getElem_of_mem hb
      have := (hxp i hi).2
      unfold maxLen at this
      unfold Clm.Ok
      omega
end
end Go.Proofs.YthlpclnfnfbeiaaGreatDoor
