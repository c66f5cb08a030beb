/- An argument that is a mask by value, opened. -/
import Derived.Test.YteffnidkkeeaiaaM4
import Derived.Test.YteffnidkkeeaiaaN6
import Derived.Deep.Grids
namespace Go.Proofs.Yteffnidkkeeaiaa
open Go.ChangeShapes Go.WideShapes Go.Deep Go.RowKit Go.Joins
section
variable {H : Type} {enc : TypeId × Value → H} {w : World} {base : Nat} {held : Bool}
theorem open_boolS {t e : TypeId} {P : Program} {fuel : Nat} {cs : List Value} {x : DataW H × List MemPlace} (ht : P.underlying t = some (.slice e)) (he : P.underlying e = some .bool) (hc : P.cellsOf e = 1)
    (h : DataW.trod enc P w base (fun _ => true) held fuel t cs = some x) : ∃ (A : Option Addr) (c : Nat) (L : List Bool), cs = [.slice A L.length c] ∧ Reads w w.heap.size 1 A L.length (bC L) ∧ L.length ≤ maxLen := by
  rcases open_bools ht he hc h with ⟨rfl, _⟩ | ⟨a, len, cap, B, rfl, _, hl, hm, rfl, hb⟩
  · exact ⟨none, 0, [], rfl, by simpa [bC] using Reads.nil_, Nat.zero_le _⟩
  · have hlen : ((List.range len).map B).length = len := by simp
    refine ⟨some a, cap, (List.range len).map B, by rw [hlen], ⟨by rw [bC_len], fun hn => ?_⟩, by rw [hlen]; omega⟩
    rw [hlen] at hn
    have h0 := hb 0 (by omega)
    have hs := spot_of h0
    obtain ⟨b, off, sp⟩ := a
    simp only at hs
    subst hs
    have hlt := World.block_lt_of_cell? w _ h0
    rw [add_lit'] at hlt
    refine ⟨b, off, rfl, hlt, fun j u hu => ?_⟩
    have hj : j < ((List.range len).map B).length := by have := (List.getElem?_eq_some_iff.1 hu).1; rw [bC_len] at this; omega
    rw [bC_get _ j hj] at hu
    cases hu
    have := hb j (by omega)
    rw [add_lit'] at this
    simpa using this

theorem trod4 {P : Program} {t : TypeId} {f0 f1 f2 f3 : Field} {fuel : Nat} {spare : Nat → Bool} {cs : List Value} {x : DataW H × List MemPlace} (hs : P.underlying t = some (.struct #[f0, f1, f2, f3])) (h : DataW.trod enc P w base spare held fuel t cs = some x) :
    ∃ n y0 y1 y2 y3, DataW.trod enc P w base spare held n f0.type ((cs.drop f0.offset).take (P.cellsOf f0.type)) = some y0 ∧ DataW.trod enc P w base spare held n f1.type ((cs.drop f1.offset).take (P.cellsOf f1.type)) = some y1 ∧
      DataW.trod enc P w base spare held n f2.type ((cs.drop f2.offset).take (P.cellsOf f2.type)) = some y2 ∧ DataW.trod enc P w base spare held n f3.type ((cs.drop f3.offset).take (P.cellsOf f3.type)) = some y3 := by
  obtain ⟨ys, n, _, _, _, hl, hf⟩ := DataW.trod_struct hs h
  match ys, hl with
  | [y0, y1, y2, y3], _ => exact ⟨n, y0, y1, y2, y3, hf 0 f0 rfl, hf 1 f1 rfl, hf 2 f2 rfl, hf 3 f3 rfl⟩
theorem trod2 {P : Program} {t : TypeId} {f0 f1 : Field} {fuel : Nat} {spare : Nat → Bool} {cs : List Value} {x : DataW H × List MemPlace} (hs : P.underlying t = some (.struct #[f0, f1])) (h : DataW.trod enc P w base spare held fuel t cs = some x) :
    ∃ n y0 y1, DataW.trod enc P w base spare held n f0.type ((cs.drop f0.offset).take (P.cellsOf f0.type)) = some y0 ∧ DataW.trod enc P w base spare held n f1.type ((cs.drop f1.offset).take (P.cellsOf f1.type)) = some y1 := by
  obtain ⟨ys, n, _, _, _, hl, hf⟩ := DataW.trod_struct hs h
  match ys, hl with
  | [y0, y1], _ => exact ⟨n, y0, y1, hf 0 f0 rfl, hf 1 f1 rfl⟩

set_option maxRecDepth 100000 in
/-- A mask by value. -/
theorem open_mask {r : Reach} {b0 : Nat} {v : Value} {d : DataW H} {p : List MemPlace} (hv : Value.okWide Try.prog w r b0 26 v) (h : DataW.Trod enc Try.prog w base (fun _ => true) held 26 v d p) :
    ∃ (x y W Hh : Int) (A : Option Addr) (c : Nat) (L : List Bool), v = maskV x y W Hh A L.length c ∧ Reads w w.heap.size 1 A L.length (bC L) ∧ L.length ≤ maxLen := by
  obtain ⟨cs, rfl, hsz⟩ := okWide_struct Try.underlying26 hv
  obtain ⟨fuel, hf⟩ := h
  have hC : Try.prog.cellsOf 26 = 5 := by kernel_rfl
  have hP : Try.prog.cellsOf 23 = 2 := by kernel_rfl
  have hI : Try.prog.cellsOf 2 = 1 := by kernel_rfl
  have hS : Try.prog.cellsOf 24 = 1 := by kernel_rfl
  have hBo : Try.prog.cellsOf 4 = 1 := by kernel_rfl
  rw [hC] at hsz
  have hcells : (Value.agg cs).cells = cs := rfl
  rw [hcells] at hf
  obtain ⟨c0, c1, c2, c3, c4, hcs⟩ : ∃ c0 c1 c2 c3 c4, cs = #[c0, c1, c2, c3, c4] := by
    obtain ⟨l⟩ := cs
    match l, hsz with
    | [c0, c1, c2, c3, c4], _ => exact ⟨c0, c1, c2, c3, c4, rfl⟩
  subst hcs
  obtain ⟨n, y0, y1, y2, y3, g0, g1, g2, g3⟩ := trod4 Try.underlying26 hf
  simp only [hP, hI, hS, List.drop_succ_cons, List.drop_zero, List.take_succ_cons, List.take_zero] at g0 g1 g2 g3
  obtain ⟨n', z0, z1, p0, p1⟩ := trod2 Try.underlying23 g0
  simp only [hI, List.drop_succ_cons, List.drop_zero, List.take_succ_cons, List.take_zero] at p0 p1
  obtain ⟨x, ex, _⟩ := DataW.trod_int Try.underlying2 p0
  obtain ⟨y, ey, _⟩ := DataW.trod_int Try.underlying2 p1
  obtain ⟨W, eW, _⟩ := DataW.trod_int Try.underlying2 g1
  obtain ⟨Hh, eH, _⟩ := DataW.trod_int Try.underlying2 g2
  obtain ⟨A, c, L, eS, hr, hm⟩ := open_boolS Try.underlying24 Try.underlying4 hBo g3
  simp at ex ey eW eH eS
  subst ex ey eW eH eS
  exact ⟨x, y, W, Hh, A, c, L, rfl, hr, hm⟩
end
end Go.Proofs.Yteffnidkkeeaiaa
