/- An argument that is a slice of bytes, opened. -/
import Derived.Test.YtnbpbidflacoiaaDoorS1
import Derived.ChangeSlices
import Derived.ProofKit
import Derived.OpenShut
namespace Go.Proofs.YtnbpbidflacoiaaDoor
open Go.ChangeShapes Go.WideShapes Go.RowKit
section
variable {H : Type} {enc : TypeId × Value → H} {w : World} {base : Nat} {spare : Nat → Bool} {held : Bool}
theorem spot_of' {w : World} {a : Addr} {u : Value} (h : w.cell? (a.add 0) = some u) : a.spot = none := by
  simpa [Addr.add] using World.cell?_spot h
theorem open_code {P : Program} {t e : TypeId} {d : DataW H} {p : List MemPlace} (ht : P.underlying t = some (.slice e)) (he : P.underlying e = some (.int .u8)) (hc : P.cellsOf e = 1) {a : Option Addr} {len cap : Nat} (h : DataW.Trod enc P w base spare held t (.slice a len cap) d p) :
    ∃ bs : List UInt8, bs.length = len ∧ Reads w w.heap.size 1 a len (byC bs) ∧ len ≤ maxLen := by
  obtain ⟨fuel, hf⟩ := h
  rcases open_ints ht he hc hf with ⟨hcs, _⟩ | ⟨x, l, c, zs, hcs, _, hl, hm, hzl, _, hi, hw⟩
  · simp [Value.cells] at hcs
    obtain ⟨rfl, rfl, rfl⟩ := hcs
    exact ⟨[], rfl, ⟨rfl, fun h => absurd h (by omega)⟩, Nat.zero_le _⟩
  · simp [Value.cells] at hcs
    obtain ⟨rfl, rfl, rfl⟩ := hcs
    have hlm : len ≤ zs.length := by rw [hzl]; split <;> omega
    have hbd : ∀ i, i < len → 0 ≤ zs.getD i 0 ∧ zs.getD i 0 < 256 := fun i hil => by
      have := hw (zs.getD i 0) (by rw [List.getD_eq_getElem?_getD, List.getElem?_eq_getElem (by omega)]; exact List.getElem_mem _)
      have h2 : (0 : Int) ≤ zs.getD i 0 ∧ zs.getD i 0 ≤ 255 := by
        have h3 : IntKind.u8.min ≤ zs.getD i 0 ∧ zs.getD i 0 ≤ IntKind.u8.max := by simpa [Lit.wf] using this
        exact h3
      omega
    refine ⟨(List.range len).map fun i => UInt8.ofNat (zs.getD i 0).toNat, by simp, ⟨by simp [byC], fun hpos => ?_⟩, by omega⟩
    have h0 := hi 0 (by omega)
    have hsp := spot_of' h0
    obtain ⟨b, off, spot⟩ := x
    dsimp only at hsp
    subst hsp
    have hb := World.block_lt_of_cell? w _ h0
    rw [add_lit'] at hb
    refine ⟨b, off, rfl, hb, fun j u hu => ?_⟩
    have hj : j < len := by have := (List.getElem?_eq_some_iff.1 hu).1; simpa [byC] using this
    have hc := hi j (by omega)
    rw [add_lit'] at hc
    rw [hc]
    rw [← hu]
    have hb2 := hbd j hj
    have e : (UInt8.ofNat (zs.getD j 0).toNat).toNat = (zs.getD j 0).toNat := by
      rw [UInt8.toNat_ofNat']; exact Nat.mod_eq_of_lt (by omega)
    simp only [byC, List.map_map, List.getElem?_map, List.getElem?_range hj, Option.map_some, Function.comp, e]
    rw [Int.toNat_of_nonneg hb2.1]
end
end Go.Proofs.YtnbpbidflacoiaaDoor
