/- One of these by value, opened. -/
import Derived.Test.YthlpclnfnfbeiaaGreatDoorM9
import Derived.Test.YthlpclnfnfbeiaaGreatDoorFF0
namespace Go.Proofs.YthlpclnfnfbeiaaGreatDoor
open Go.ChangeShapes Go.WideShapes Go.ChangeAt Go.RowKit Go.Deep Go.Joins
section
variable {H : Type} {enc : TypeId × Value → H} {w : World} {base : Nat} {spare : Nat → Bool} {held : Bool}
theorem open_fct_val {P : Program} {r : Reach} {b0 : Nat} {t e0 e1 : TypeId} {n0 n1 n2 n3 : Field} {v : Value} {d : DataW H} {p : List MemPlace} (ht : P.underlying t = some (.struct #[n0, n1, n2, n3]))
    (hC : P.cellsOf t = 4) (o0 : n0.offset = 0) (o1 : n1.offset = 1) (o2 : n2.offset = 2) (o3 : n3.offset = 3) (c0 : P.cellsOf n0.type = 1) (c1 : P.cellsOf n1.type = 1) (c2 : P.cellsOf n2.type = 1) (c3 : P.cellsOf n3.type = 1) (t0 : n0.type = e1) (t1 : n1.type = e0) (t2 : n2.type = e0) (t3 : n3.type = e1) (hstr : P.underlying e0 = some .string) (hint : P.underlying e1 = some (.int .i64)) (hv : Value.okWide P w r b0 t v) (h : DataW.Trod enc P w base spare held t v d p) :
    ∃ b : Fct, v = b.val ∧ b.Ok := by
  obtain ⟨cs, rfl, hsz⟩ := okWide_struct ht hv
  obtain ⟨fuel, hf⟩ := h
  obtain ⟨ys, n', _, _, hlen, hyl, hff⟩ := DataW.trod_struct ht hf
  obtain ⟨l⟩ := cs
  have hl : l.length = 4 := by rw [hC] at hsz; simpa using hsz
  simp only [Value.cells] at hff
  match l, hl with
  | [a0, a1, a2, a3], _ =>
    have h0 := hff 0 n0 rfl
    rw [o0, c0, List.getElem?_eq_getElem (by rw [hyl]; simp)] at h0
    rw [t0] at h0
    obtain ⟨r0, y0, _⟩ := DataW.trod_int hint h0
    have h1 := hff 1 n1 rfl
    rw [o1, c1, List.getElem?_eq_getElem (by rw [hyl]; simp)] at h1
    rw [t1] at h1
    obtain ⟨r1, y1, _, hs1⟩ := DataW.trod_string hstr h1
    have h2 := hff 2 n2 rfl
    rw [o2, c2, List.getElem?_eq_getElem (by rw [hyl]; simp)] at h2
    rw [t2] at h2
    obtain ⟨r2, y2, _, hs2⟩ := DataW.trod_string hstr h2
    have h3 := hff 3 n3 rfl
    rw [o3, c3, List.getElem?_eq_getElem (by rw [hyl]; simp)] at h3
    rw [t3] at h3
    obtain ⟨r3, y3, _⟩ := DataW.trod_int hint h3
    simp at y0 y1 y2 y3
    subst y0 y1 y2 y3
    unfold maxLen at hs1 hs2
    exact ⟨⟨r0, r1, r2, r3⟩, rfl, ⟨by omega, by omega⟩⟩
end
end Go.Proofs.YthlpclnfnfbeiaaGreatDoor
