/- An argument that is a slice of bytes, opened. Arguments by value, opened: a struct with fields of one cell, any number of them; a string. The table of the directions out of what the row lists; an argument that is a description, opened. -/
import Derived.Test.YtaaioengebaebaaGreatDoorK8GB
import Derived.ChangeSlices
import Derived.ProofKit
import Derived.OpenShut
import Derived.Test.YtaaioengebaebaaGreatDoorK8GA
import Derived.Lib.SmallJoins
import Derived.Test.YtaaioengebaebaaGreatDoorRows
import Derived.Test.YtaaioengebaebaaGreatDoorK8Q4
import Derived.Test.YtaaioengebaebaaGreatDoorK8GC
import Derived.Deep.Slices
import Derived.Deep.Fields
import Derived.ChangeSame
import Derived.LaidSub
import Derived.LaidMore
import Derived.Lay
import Derived.OpenVars
import Derived.ChangeMaps5
namespace Go.Proofs.YtaaioengebaebaaGreatDoor
open Go.ChangeShapes Go.WideShapes Go.RowKit
section
variable {H : Type} {enc : TypeId × Value → H} {w : World} {base : Nat} {spare : Nat → Bool} {held : Bool}
theorem spot_of' {w : World} {a : Addr} {u : Value} (h : w.cell? (a.add 0) = some u) : a.spot = none := by
  simpa [Addr.add] using World.cell?_spot h
theorem open_code {P : Program} {t e : TypeId} {d : DataW H} {p : List MemPlace} (ht : P.underlying t = some (.slice e)) (he : P.underlying e = some (.int .u8)) (hc : P.cellsOf e = 1) {a : Option Addr} {len cap : Nat} (h : DataW.Trod enc P w base spare held t (.slice a len cap) d p) :
    ∃ bs : List UInt8, bs.length = len ∧ Reads w w.heap.size 1 a len (byC bs) ∧ len ≤ maxLen := by
  obtain ⟨fuel, hf⟩ := h
  rcases open_ints ht he hc hf with ⟨hcs, _⟩ | ⟨x, l, c, zs, hcs, _, hl, hm, hzl, _, hi, hw⟩
  · simp [Value.cells] at hcs
    obtain ⟨rfl, rfl, rfl⟩ := hcs
    exact ⟨[], rfl, ⟨rfl, fun h => absurd h (by omega)⟩, Nat.zero_le _⟩
  · simp [Value.cells] at hcs
    obtain ⟨rfl, rfl, rfl⟩ := hcs
    have hlm : len ≤ zs.length := by rw [hzl]; split <;> omega
    have hbd : ∀ i, i < len → 0 ≤ zs.getD i 0 ∧ zs.getD i 0 < 256 := fun i hil => by
      have := hw (zs.getD i 0) (by rw [List.getD_eq_getElem?_getD, List.getElem?_eq_getElem (by omega)]; exact List.getElem_mem _)
      have h2 : (0 : Int) ≤ zs.getD i 0 ∧ zs.getD i 0 ≤ 255 := by
        have h3 : IntKind.u8.min ≤ zs.getD i 0 ∧ zs.getD i 0 ≤ IntKind.u8.max := by simpa [Lit.wf] using this
        exact h3
      omega
    refine ⟨(List.range len).map fun i => UInt8.ofNat (zs.getD i 0).toNat, by simp, ⟨by simp [byC], fun hpos => ?_⟩, by omega⟩
    have h0 := hi 0 (by omega)
    have hsp := spot_of' h0
    obtain ⟨b, off, spot⟩ := x
    dsimp only at hsp
    subst hsp
    have hb := World.block_lt_of_cell? w _ h0
    rw [add_lit'] at hb
    refine ⟨b, off, rfl, hb, fun j u hu => ?_⟩
    have hj : j < len := by have := (List.getElem?_eq_some_iff.1 hu).1; simpa [byC] using this
    have hc := hi j (by omega)
    rw [add_lit'] at hc
    rw [hc]
    rw [← hu]
    have hb2 := hbd j hj
    have e : (UInt8.ofNat (zs.getD j 0).toNat).toNat = (zs.getD j 0).toNat := by
      rw [UInt8.toNat_ofNat']; exact Nat.mod_eq_of_lt (by omega)
    simp only [byC, List.map_map, List.getElem?_map, List.getElem?_range hj, Option.map_some, Function.comp, e]
    rw [Int.toNat_of_nonneg hb2.1]
end
end Go.Proofs.YtaaioengebaebaaGreatDoor
namespace Go.Proofs.YtaaioengebaebaaGreatDoor
open Go.ChangeShapes Go.WideShapes Go.Deep Go.RowKit Go.Joins
section
variable {H : Type} {enc : TypeId × Value → H} {P : Program} {w : World} {base : Nat} {spare : Nat → Bool} {held : Bool}
theorem open_agg_n {r : Reach} {b0 : Nat} {t : TypeId} {fs : Array Field} {v : Value} {d : DataW H} {p : List MemPlace} (hs : P.underlying t = some (.struct fs)) (hone : oneCellFields P fs = true) (hC : P.cellsOf t = fs.size) (hv : Value.okWide P w r b0 t v) (h : DataW.Trod enc P w base spare held t v d p) :
    ∃ cs : Array Value, v = .agg cs ∧ cs.size = fs.size ∧ ∀ (j : Nat) (f : Field), fs[j]? = some f → ∃ (c : Value) (y : DataW H × List MemPlace) (n : Nat), cs[j]? = some c ∧ DataW.trod enc P w base spare held n f.type [c] = some y := by
  obtain ⟨cs, rfl, hsz⟩ := okWide_struct hs hv
  obtain ⟨fuel, hf⟩ := h
  obtain ⟨ys, n', hn', hy, hlen, hyl, hff⟩ := DataW.trod_struct hs hf
  refine ⟨cs, rfl, hsz.trans hC, fun j f hj => ?_⟩
  obtain ⟨ho, hk⟩ := hone_of hone j f hj
  have hjl : j < fs.size := (Array.getElem?_eq_some_iff.1 hj).1
  have hcs : j < cs.size := by omega
  have h1 := hff j f hj
  rw [ho, hk] at h1
  have hys : ys[j]? = some (ys[j]'(by omega)) := List.getElem?_eq_getElem (by omega)
  refine ⟨cs[j], ys[j]'(by omega), n', Array.getElem?_eq_getElem hcs, ?_⟩
  have hone' : (((Value.agg cs).cells.toList).drop j).take 1 = [cs[j]] := by
    simp only [Value.cells]
    rw [List.drop_eq_getElem_cons (by simpa using hcs)]
    simp
  rw [hone'] at h1
  exact h1.trans hys
end
end Go.Proofs.YtaaioengebaebaaGreatDoor
namespace Go.Proofs.YtaaioengebaebaaGreatDoor
open Go.ChangeShapes Go.WideShapes Go.ChangeAt Go.Deep Go.RowKit

theorem dirs_of {W : World} (h : laidMetH Tryz.prog [("loop.example/g01030/impl.directionWords", Rows.laid_loop_example_g01030_impl_directionWords)] W) : Dirs W := by
  rw [MakeChecks.laidMetH_plain _ _ _ (by kernel_rfl)] at h
  obtain ⟨ps, ⟨g, t, cs, fuel, p, q, hg, ht, hv, hd, _, _⟩, _, _⟩ := h
  obtain rfl := Option.some.inj ((show Tryz.prog.globalNamed "loop.example/g01030/impl.directionWords" = some 0 by kernel_rfl).symm.trans hg)
  obtain rfl := Option.some.inj ((show (Tryz.prog.globals[0]?).map (·.type) = some 139 by kernel_rfl).symm.trans ht)
  obtain ⟨xs, m, _, ex, _, hl, hel⟩ := DataW.trod_array Tryz.underlying139 hd
  have c1 : Tryz.prog.cellsOf 9 = 1 := by kernel_rfl
  have e3 : xs.map (·.1) = dirsL.map fun s => (DataW.lit (.string s.data.toList) : DataW Unit) := (DataW.agg.inj (Prod.mk.inj ex).1).symm
  have hxl : xs.length = 8 := by have := congrArg List.length e3; simpa [dirsL] using this
  have key : ∀ r, (hr : r < 8) → W.cell? ⟨0, r, none⟩ = some (.string (dirsL[r]'(by rw [dirs_len]; exact hr))) := by
    intro r hr
    have hE := hel r (by omega)
    rw [c1, Nat.mul_one, List.getElem?_eq_getElem (by omega)] at hE
    obtain ⟨s, e1, e2, _⟩ := DataW.trod_string Tryz.underlying9 hE
    have e4 : (xs.map (·.1))[r]? = (dirsL.map fun s => (DataW.lit (.string s.data.toList) : DataW Unit))[r]? := by rw [e3]
    rw [List.getElem?_map, List.getElem?_map, List.getElem?_eq_getElem (by omega : r < xs.length), List.getElem?_eq_getElem (by rw [dirs_len]; exact hr), e2] at e4
    simp only [Option.map_some, Option.some.injEq, DataW.lit.injEq, Lit.string.injEq] at e4
    have hs : s = dirsL[r]'(by rw [dirs_len]; exact hr) := by
      apply str_inj
      rw [ByteArray.toList_eq, ByteArray.toList_eq]
      exact e4
    rw [World.var?_cell hg hv r, ← hs]
    have : cs.toList[r]? = some (.string s) := by
      have h0 : ((cs.toList.drop r).take 1)[0]? = some (.string s) := by rw [e1]; rfl
      simpa using h0
    simpa using this
  refine ⟨rfl, fun _ => ⟨_, 0, rfl, World.block_lt_of_cell? W _ (key 0 (by omega)), fun j u hu => ?_⟩⟩
  have hj : j < dirsL.length := by
    have := (List.getElem?_eq_some_iff.1 hu).1
    simpa [txC] using this
  rw [Nat.zero_add, key j hj]
  rw [txC_get _ _ hj] at hu
  exact hu
section
variable {H : Type} {enc : TypeId × Value → H} {w : World} {base : Nat} {spare : Nat → Bool} {held : Bool}
theorem open_desc {P : Program} {r : Reach} {b0 : Nat} {t e0 e1 : TypeId} {f0 f1 f2 f3 f4 f5 : Field} {v : Value} {d : DataW H} {p : List MemPlace} (hs : P.underlying t = some (.struct #[f0, f1, f2, f3, f4, f5])) (hone : oneCellFields P #[f0, f1, f2, f3, f4, f5] = true) (hC : P.cellsOf t = 6)
    (t0 : f0.type = e1) (t1 : f1.type = e1) (t2 : f2.type = e0) (t3 : f3.type = e1) (t4 : f4.type = e0) (t5 : f5.type = e0) (hstr : P.underlying e0 = some .string) (hint : P.underlying e1 = some (.int .i64)) (hv : Value.okWide P w r b0 t v) (h : DataW.Trod enc P w base spare held t v d p) :
    ∃ x : Dsc, v = x.val ∧ x.Ok := by
  obtain ⟨cs, rfl, hsz, hf⟩ := open_agg_n hs hone (by simpa using hC) hv h
  obtain ⟨c0, y0, n0, g0, h0⟩ := hf 0 f0 rfl
  obtain ⟨c1, y1, n1, g1, h1⟩ := hf 1 f1 rfl
  obtain ⟨c2, y2, n2, g2, h2⟩ := hf 2 f2 rfl
  obtain ⟨c3, y3, n3, g3, h3⟩ := hf 3 f3 rfl
  obtain ⟨c4, y4, n4, g4, h4⟩ := hf 4 f4 rfl
  obtain ⟨c5, y5, n5, g5, h5⟩ := hf 5 f5 rfl
  rw [t0] at h0
  rw [t1] at h1
  rw [t2] at h2
  rw [t3] at h3
  rw [t4] at h4
  rw [t5] at h5
  obtain ⟨k0, q0, _⟩ := DataW.trod_int hint h0
  obtain ⟨k1, q1, _⟩ := DataW.trod_int hint h1
  obtain ⟨k2, q2, _, z2⟩ := DataW.trod_string hstr h2
  obtain ⟨k3, q3, _⟩ := DataW.trod_int hint h3
  obtain ⟨k4, q4, _, z4⟩ := DataW.trod_string hstr h4
  obtain ⟨k5, q5, _, z5⟩ := DataW.trod_string hstr h5
  simp at q0 q1 q2 q3 q4 q5
  subst q0 q1 q2 q3 q4 q5
  unfold maxLen at z2 z4 z5
  refine ⟨⟨k0, k1, k2, k3, k4, k5⟩, ?_, by omega, by omega, by omega⟩
  unfold Dsc.val
  congr 1
  apply Array.ext_getElem?
  intro i
  match i with
  | 0 => exact g0
  | 1 => exact g1
  | 2 => exact g2
  | 3 => exact g3
  | 4 => exact g4
  | 5 => exact g5
  | i + 6 => rw [Array.getElem?_eq_none (by simp at hsz; omega), Array.getElem?_eq_none (by simp)]
end
end Go.Proofs.YtaaioengebaebaaGreatDoor
