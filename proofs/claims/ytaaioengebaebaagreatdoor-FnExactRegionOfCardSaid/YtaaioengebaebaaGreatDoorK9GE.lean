/- An argument that is a list of these, opened. Arguments by value, opened: a struct with fields of one cell, any number of them; a string. The table of the directions out of what the row lists; an argument that is a description, opened. Arguments by value, opened: a struct of two int64, an int64. An argument that is a mask by value, opened. -/
import Derived.Test.YtaaioengebaebaaGreatDoorK9GA
import Derived.Test.YtaaioengebaebaaGreatDoorK9FD0
import Derived.Lib.SmallJoins
import Derived.Test.YtaaioengebaebaaGreatDoorRows
import Derived.Test.YtaaioengebaebaaGreatDoorK9Q4
import Derived.Test.YtaaioengebaebaaGreatDoorK9GC
import Derived.Deep.Slices
import Derived.Deep.Fields
import Derived.ChangeSame
import Derived.ProofKit
import Derived.OpenShut
import Derived.LaidSub
import Derived.LaidMore
import Derived.Lay
import Derived.OpenVars
import Derived.ChangeMaps5
import Derived.Test.YtaaioengebaebaaGreatDoorK9RM3
import Derived.Deep.Grids
namespace Go.Proofs.YtaaioengebaebaaGreatDoor
open Go.ChangeShapes Go.WideShapes Go.Deep Go.RowKit
section
variable {H : Type} {enc : TypeId × Value → H} {w : World} {base : Nat} {spare : Nat → Bool} {held : Bool}
theorem open_dsc {P : Program} {t e e0 e1 : TypeId} {n0 n1 n2 n3 n4 n5 : Field} {d : DataW H} {p : List MemPlace} (ht : P.underlying t = some (.slice e)) (he : P.underlying e = some (.struct #[n0, n1, n2, n3, n4, n5]))
    (hC : P.cellsOf e = 6) (o0 : n0.offset = 0) (o1 : n1.offset = 1) (o2 : n2.offset = 2) (o3 : n3.offset = 3) (o4 : n4.offset = 4) (o5 : n5.offset = 5) (c0 : P.cellsOf n0.type = 1) (c1 : P.cellsOf n1.type = 1) (c2 : P.cellsOf n2.type = 1) (c3 : P.cellsOf n3.type = 1) (c4 : P.cellsOf n4.type = 1) (c5 : P.cellsOf n5.type = 1) (t0 : n0.type = e1) (t1 : n1.type = e1) (t2 : n2.type = e0) (t3 : n3.type = e1) (t4 : n4.type = e0) (t5 : n5.type = e0) (hstr : P.underlying e0 = some .string) (hint : P.underlying e1 = some (.int .i64)) {a : Option Addr} {len cap : Nat} (h : DataW.Trod enc P w base spare held t (.slice a len cap) d p) :
    ∃ xs : List Dsc, xs.length = len ∧ HasDsc w xs a := by
  obtain ⟨fuel, hf⟩ := h
  rcases open_slice ht hf with ⟨hcs, _⟩ | ⟨x, l, c, m, n, D, Pl, hcs, _, hl, hm, hmm, _, hi⟩
  · simp [Value.cells] at hcs
    obtain ⟨rfl, rfl, rfl⟩ := hcs
    exact ⟨[], rfl, by simpa [dsC] using Reads.nil_, by simp, by simp⟩
  · simp [Value.cells] at hcs
    obtain ⟨rfl, rfl, rfl⟩ := hcs
    have hlm : len ≤ m := by rw [hmm]; split <;> omega
    have key : ∀ i, i < len → ∃ s : Dsc, (w.cell? (x.add (i * 6)) = some (.int .i64 s.kind) ∧ w.cell? (x.add (i * 6 + 1)) = some (.int .i64 s.count) ∧ w.cell? (x.add (i * 6 + 2)) = some (.string s.unit) ∧ w.cell? (x.add (i * 6 + 3)) = some (.int .i64 s.dir) ∧ w.cell? (x.add (i * 6 + 4)) = some (.string s.a) ∧ w.cell? (x.add (i * 6 + 5)) = some (.string s.b)) ∧ (s.unit.size ≤ maxLen ∧ s.a.size ≤ maxLen ∧ s.b.size ≤ maxLen) := by
      intro i hil
      obtain ⟨cs', hc, htr⟩ := hi i (by omega)
      rw [hC] at hc
      obtain ⟨ys, n', _, _, hlen, hyl, hff⟩ := DataW.trod_struct he htr
      obtain ⟨_, hcl, hat⟩ := World.cells?_some hc
      match cs', hcl with
      | [a0, a1, a2, a3, a4, a5], _ =>
        have h0 := hff 0 n0 rfl
        rw [o0, c0, List.getElem?_eq_getElem (by rw [hyl]; simp)] at h0
        rw [t0] at h0
        obtain ⟨r0, y0, _⟩ := DataW.trod_int hint h0
        have h1 := hff 1 n1 rfl
        rw [o1, c1, List.getElem?_eq_getElem (by rw [hyl]; simp)] at h1
        rw [t1] at h1
        obtain ⟨r1, y1, _⟩ := DataW.trod_int hint h1
        have h2 := hff 2 n2 rfl
        rw [o2, c2, List.getElem?_eq_getElem (by rw [hyl]; simp)] at h2
        rw [t2] at h2
        obtain ⟨r2, y2, _, hs2⟩ := DataW.trod_string hstr h2
        have h3 := hff 3 n3 rfl
        rw [o3, c3, List.getElem?_eq_getElem (by rw [hyl]; simp)] at h3
        rw [t3] at h3
        obtain ⟨r3, y3, _⟩ := DataW.trod_int hint h3
        have h4 := hff 4 n4 rfl
        rw [o4, c4, List.getElem?_eq_getElem (by rw [hyl]; simp)] at h4
        rw [t4] at h4
        obtain ⟨r4, y4, _, hs4⟩ := DataW.trod_string hstr h4
        have h5 := hff 5 n5 rfl
        rw [o5, c5, List.getElem?_eq_getElem (by rw [hyl]; simp)] at h5
        rw [t5] at h5
        obtain ⟨r5, y5, _, hs5⟩ := DataW.trod_string hstr h5
        simp at y0 y1 y2 y3 y4 y5
        subst y0 y1 y2 y3 y4 y5
        have b0 := hat 0 (by omega)
        have b1 := hat 1 (by omega)
        have b2 := hat 2 (by omega)
        have b3 := hat 3 (by omega)
        have b4 := hat 4 (by omega)
        have b5 := hat 5 (by omega)
        rw [Go.Deep.add_add] at b0 b1 b2 b3 b4 b5
        exact ⟨⟨r0, r1, r2, r3, r4, r5⟩, ⟨by simpa using b0, by simpa using b1, by simpa using b2, by simpa using b3, by simpa using b4, by simpa using b5⟩, hs2, hs4, hs5⟩
    obtain ⟨xs, hxl, hxp⟩ := list_of key
    refine ⟨xs, hxl, ?_, by unfold maxLen at hm; omega, ?_⟩
    · rw [hxl]
      refine reads_of (by decide) (by rw [dsC_len, hxl]) (fun i j hil hj u hu => ?_) (fun h0 => ⟨_, by simpa using (hxp 0 (by omega)).1.1⟩)
      obtain ⟨g0, g1, g2, g3, g4, g5⟩ := dsC_get xs i (by omega)
      obtain ⟨⟨q0, q1, q2, q3, q4, q5⟩, _⟩ := hxp i (by omega)
      have hj3 : j = 0 ∨ j = 1 ∨ j = 2 ∨ j = 3 ∨ j = 4 ∨ j = 5 := by omega
      rcases hj3 with rfl | rfl | rfl | rfl | rfl | rfl
      · rw [Nat.add_zero] at hu ⊢; rw [g0] at hu; cases hu; exact q0
      · rw [g1] at hu; cases hu; exact q1
      · rw [g2] at hu; cases hu; exact q2
      · rw [g3] at hu; cases hu; exact q3
      · rw [g4] at hu; cases hu; exact q4
      · rw [g5] at hu; cases hu; exact q5
    · intro b hb
      obtain ⟨i, hi, rfl⟩ := List.getElem_of_mem hb
      have := (hxp i hi).2
      unfold maxLen at this
      unfold Dsc.Ok
      omega
end
end Go.Proofs.YtaaioengebaebaaGreatDoor
namespace Go.Proofs.YtaaioengebaebaaGreatDoor
open Go.ChangeShapes Go.WideShapes Go.Deep Go.RowKit Go.Joins
section
variable {H : Type} {enc : TypeId × Value → H} {P : Program} {w : World} {base : Nat} {spare : Nat → Bool} {held : Bool}
theorem open_agg_n {r : Reach} {b0 : Nat} {t : TypeId} {fs : Array Field} {v : Value} {d : DataW H} {p : List MemPlace} (hs : P.underlying t = some (.struct fs)) (hone : oneCellFields P fs = true) (hC : P.cellsOf t = fs.size) (hv : Value.okWide P w r b0 t v) (h : DataW.Trod enc P w base spare held t v d p) :
    ∃ cs : Array Value, v = .agg cs ∧ cs.size = fs.size ∧ ∀ (j : Nat) (f : Field), fs[j]? = some f → ∃ (c : Value) (y : DataW H × List MemPlace) (n : Nat), cs[j]? = some c ∧ DataW.trod enc P w base spare held n f.type [c] = some y := by
  obtain ⟨cs, rfl, hsz⟩ := okWide_struct hs hv
  obtain ⟨fuel, hf⟩ := h
  obtain ⟨ys, n', hn', hy, hlen, hyl, hff⟩ := DataW.trod_struct hs hf
  refine ⟨cs, rfl, hsz.trans hC, fun j f hj => ?_⟩
  obtain ⟨ho, hk⟩ := hone_of hone j f hj
  have hjl : j < fs.size := (Array.getElem?_eq_some_iff.1 hj).1
  have hcs : j < cs.size := by omega
  have h1 := hff j f hj
  rw [ho, hk] at h1
  have hys : ys[j]? = some (ys[j]'(by omega)) := List.getElem?_eq_getElem (by omega)
  refine ⟨cs[j], ys[j]'(by omega), n', Array.getElem?_eq_getElem hcs, ?_⟩
  have hone' : (((Value.agg cs).cells.toList).drop j).take 1 = [cs[j]] := by
    simp only [Value.cells]
    rw [List.drop_eq_getElem_cons (by simpa using hcs)]
    simp
  rw [hone'] at h1
  exact h1.trans hys
end
end Go.Proofs.YtaaioengebaebaaGreatDoor
namespace Go.Proofs.YtaaioengebaebaaGreatDoor
open Go.ChangeShapes Go.WideShapes Go.ChangeAt Go.Deep Go.RowKit

theorem dirs_of {W : World} (h : laidMetH Tryz.prog [("loop.example/g01030/impl.directionWords", Rows.laid_loop_example_g01030_impl_directionWords)] W) : Dirs W := by
  rw [MakeChecks.laidMetH_plain _ _ _ (by kernel_rfl)] at h
  obtain ⟨ps, ⟨g, t, cs, fuel, p, q, hg, ht, hv, hd, _, _⟩, _, _⟩ := h
  obtain rfl := Option.some.inj ((show Tryz.prog.globalNamed "loop.example/g01030/impl.directionWords" = some 0 by kernel_rfl).symm.trans hg)
  obtain rfl := Option.some.inj ((show (Tryz.prog.globals[0]?).map (·.type) = some 139 by kernel_rfl).symm.trans ht)
  obtain ⟨xs, m, _, ex, _, hl, hel⟩ := DataW.trod_array Tryz.underlying139 hd
  have c1 : Tryz.prog.cellsOf 9 = 1 := by kernel_rfl
  have e3 : xs.map (·.1) = dirsL.map fun s => (DataW.lit (.string s.data.toList) : DataW Unit) := (DataW.agg.inj (Prod.mk.inj ex).1).symm
  have hxl : xs.length = 8 := by have := congrArg List.length e3; simpa [dirsL] using this
  have key : ∀ r, (hr : r < 8) → W.cell? ⟨0, r, none⟩ = some (.string (dirsL[r]'(by rw [dirs_len]; exact hr))) := by
    intro r hr
    have hE := hel r (by omega)
    rw [c1, Nat.mul_one, List.getElem?_eq_getElem (by omega)] at hE
    obtain ⟨s, e1, e2, _⟩ := DataW.trod_string Tryz.underlying9 hE
    have e4 : (xs.map (·.1))[r]? = (dirsL.map fun s => (DataW.lit (.string s.data.toList) : DataW Unit))[r]? := by rw [e3]
    rw [List.getElem?_map, List.getElem?_map, List.getElem?_eq_getElem (by omega : r < xs.length), List.getElem?_eq_getElem (by rw [dirs_len]; exact hr), e2] at e4
    simp only [Option.map_some, Option.some.injEq, DataW.lit.injEq, Lit.string.injEq] at e4
    have hs : s = dirsL[r]'(by rw [dirs_len]; exact hr) := by
      apply str_inj
      rw [ByteArray.toList_eq, ByteArray.toList_eq]
      exact e4
    rw [World.var?_cell hg hv r, ← hs]
    have : cs.toList[r]? = some (.string s) := by
      have h0 : ((cs.toList.drop r).take 1)[0]? = some (.string s) := by rw [e1]; rfl
      simpa using h0
    simpa using this
  refine ⟨rfl, fun _ => ⟨_, 0, rfl, World.block_lt_of_cell? W _ (key 0 (by omega)), fun j u hu => ?_⟩⟩
  have hj : j < dirsL.length := by
    have := (List.getElem?_eq_some_iff.1 hu).1
    simpa [txC] using this
  rw [Nat.zero_add, key j hj]
  rw [txC_get _ _ hj] at hu
  exact hu
section
variable {H : Type} {enc : TypeId × Value → H} {w : World} {base : Nat} {spare : Nat → Bool} {held : Bool}
theorem open_desc {P : Program} {r : Reach} {b0 : Nat} {t e0 e1 : TypeId} {f0 f1 f2 f3 f4 f5 : Field} {v : Value} {d : DataW H} {p : List MemPlace} (hs : P.underlying t = some (.struct #[f0, f1, f2, f3, f4, f5])) (hone : oneCellFields P #[f0, f1, f2, f3, f4, f5] = true) (hC : P.cellsOf t = 6)
    (t0 : f0.type = e1) (t1 : f1.type = e1) (t2 : f2.type = e0) (t3 : f3.type = e1) (t4 : f4.type = e0) (t5 : f5.type = e0) (hstr : P.underlying e0 = some .string) (hint : P.underlying e1 = some (.int .i64)) (hv : Value.okWide P w r b0 t v) (h : DataW.Trod enc P w base spare held t v d p) :
    ∃ x : Dsc, v = x.val ∧ x.Ok := by
  obtain ⟨cs, rfl, hsz, hf⟩ := open_agg_n hs hone (by simpa using hC) hv h
  obtain ⟨c0, y0, n0, g0, h0⟩ := hf 0 f0 rfl
  obtain ⟨c1, y1, n1, g1, h1⟩ := hf 1 f1 rfl
  obtain ⟨c2, y2, n2, g2, h2⟩ := hf 2 f2 rfl
  obtain ⟨c3, y3, n3, g3, h3⟩ := hf 3 f3 rfl
  obtain ⟨c4, y4, n4, g4, h4⟩ := hf 4 f4 rfl
  obtain ⟨c5, y5, n5, g5, h5⟩ := hf 5 f5 rfl
  rw [t0] at h0
  rw [t1] at h1
  rw [t2] at h2
  rw [t3] at h3
  rw [t4] at h4
  rw [t5] at h5
  obtain ⟨k0, q0, _⟩ := DataW.trod_int hint h0
  obtain ⟨k1, q1, _⟩ := DataW.trod_int hint h1
  obtain ⟨k2, q2, _, z2⟩ := DataW.trod_string hstr h2
  obtain ⟨k3, q3, _⟩ := DataW.trod_int hint h3
  obtain ⟨k4, q4, _, z4⟩ := DataW.trod_string hstr h4
  obtain ⟨k5, q5, _, z5⟩ := DataW.trod_string hstr h5
  simp at q0 q1 q2 q3 q4 q5
  subst q0 q1 q2 q3 q4 q5
  unfold maxLen at z2 z4 z5
  refine ⟨⟨k0, k1, k2, k3, k4, k5⟩, ?_, by omega, by omega, by omega⟩
  unfold Dsc.val
  congr 1
  apply Array.ext_getElem?
  intro i
  match i with
  | 0 => exact g0
  | 1 => exact g1
  | 2 => exact g2
  | 3 => exact g3
  | 4 => exact g4
  | 5 => exact g5
  | i + 6 => rw [Array.getElem?_eq_none (by simp at hsz; omega), Array.getElem?_eq_none (by simp)]
end
end Go.Proofs.YtaaioengebaebaaGreatDoor
namespace Go.Proofs.YtaaioengebaebaaGreatDoor
open Go.ChangeShapes Go.WideShapes Go.Deep Go.RowKit Go.Joins
section
variable {H : Type} {enc : TypeId × Value → H} {w : World} {base : Nat} {spare : Nat → Bool} {held : Bool}
theorem open_pair_val {P : Program} {r : Reach} {b0 : Nat} {t e0 : TypeId} {f0 f1 : Field} {v : Value} {d : DataW H} {p : List MemPlace} (hs : P.underlying t = some (.struct #[f0, f1])) (hone : oneCellFields P #[f0, f1] = true) (hC : P.cellsOf t = 2)
    (t0 : f0.type = e0) (t1 : f1.type = e0) (hint : P.underlying e0 = some (.int .i64)) (hv : Value.okWide P w r b0 t v) (h : DataW.Trod enc P w base spare held t v d p) :
    ∃ a b : Int, v = .agg #[.int .i64 a, .int .i64 b] := by
  obtain ⟨c0, c1, y0, y1, m, rfl, rfl, rfl, hy0, hy1⟩ := open_agg2 hs hone hC hv h
  rw [t0] at hy0
  rw [t1] at hy1
  obtain ⟨k0, e0', _⟩ := DataW.trod_int hint hy0
  obtain ⟨k1, e1', _⟩ := DataW.trod_int hint hy1
  simp at e0' e1'
  subst e0' e1'
  exact ⟨k0, k1, rfl⟩
theorem open_int_val {P : Program} {r : Reach} {b0 : Nat} {t : TypeId} {v : Value} {d : DataW H} {p : List MemPlace} (ht : P.underlying t = some (.int .i64)) (hv : Value.okWide P w r b0 t v) (h : DataW.Trod enc P w base spare held t v d p) :
    ∃ a : Int, v = .int .i64 a ∧ (Lit.int .i64 a).wf = true := by
  obtain ⟨a, rfl, rfl, rfl, wa⟩ := open_int ht hv h
  exact ⟨a, rfl, wa⟩
end
end Go.Proofs.YtaaioengebaebaaGreatDoor
namespace Go.Proofs.YtaaioengebaebaaGreatDoor
open Go.ChangeShapes Go.WideShapes Go.Deep Go.RowKit Go.Joins
section
variable {H : Type} {enc : TypeId × Value → H} {w : World} {base : Nat} {held : Bool}
theorem open_boolS {t e : TypeId} {P : Program} {fuel : Nat} {cs : List Value} {x : DataW H × List MemPlace} (ht : P.underlying t = some (.slice e)) (he : P.underlying e = some .bool) (hc : P.cellsOf e = 1)
    (h : DataW.trod enc P w base (fun _ => true) held fuel t cs = some x) : ∃ (A : Option Addr) (c : Nat) (L : List Bool), cs = [.slice A L.length c] ∧ Reads w w.heap.size 1 A L.length (bC L) ∧ L.length ≤ maxLen := by
  rcases open_bools ht he hc h with ⟨rfl, _⟩ | ⟨a, len, cap, B, rfl, _, hl, hm, rfl, hb⟩
  · exact ⟨none, 0, [], rfl, by simpa [bC] using Reads.nil_, Nat.zero_le _⟩
  · have hlen : ((List.range len).map B).length = len := by simp
    refine ⟨some a, cap, (List.range len).map B, by rw [hlen], ⟨by rw [bC_len], fun hn => ?_⟩, by rw [hlen]; omega⟩
    rw [hlen] at hn
    have h0 := hb 0 (by omega)
    have hs := spot_of h0
    obtain ⟨b, off, sp⟩ := a
    simp only at hs
    subst hs
    have hlt := World.block_lt_of_cell? w _ h0
    rw [add_lit'] at hlt
    refine ⟨b, off, rfl, hlt, fun j u hu => ?_⟩
    have hj : j < ((List.range len).map B).length := by have := (List.getElem?_eq_some_iff.1 hu).1; rw [bC_len] at this; omega
    rw [bC_get _ j hj] at hu
    cases hu
    have := hb j (by omega)
    rw [add_lit'] at this
    simpa using this

theorem trod4 {P : Program} {t : TypeId} {f0 f1 f2 f3 : Field} {fuel : Nat} {spare : Nat → Bool} {cs : List Value} {x : DataW H × List MemPlace} (hs : P.underlying t = some (.struct #[f0, f1, f2, f3])) (h : DataW.trod enc P w base spare held fuel t cs = some x) :
    ∃ n y0 y1 y2 y3, DataW.trod enc P w base spare held n f0.type ((cs.drop f0.offset).take (P.cellsOf f0.type)) = some y0 ∧ DataW.trod enc P w base spare held n f1.type ((cs.drop f1.offset).take (P.cellsOf f1.type)) = some y1 ∧
      DataW.trod enc P w base spare held n f2.type ((cs.drop f2.offset).take (P.cellsOf f2.type)) = some y2 ∧ DataW.trod enc P w base spare held n f3.type ((cs.drop f3.offset).take (P.cellsOf f3.type)) = some y3 := by
  obtain ⟨ys, n, _, _, _, hl, hf⟩ := DataW.trod_struct hs h
  match ys, hl with
  | [y0, y1, y2, y3], _ => exact ⟨n, y0, y1, y2, y3, hf 0 f0 rfl, hf 1 f1 rfl, hf 2 f2 rfl, hf 3 f3 rfl⟩
theorem trod2 {P : Program} {t : TypeId} {f0 f1 : Field} {fuel : Nat} {spare : Nat → Bool} {cs : List Value} {x : DataW H × List MemPlace} (hs : P.underlying t = some (.struct #[f0, f1])) (h : DataW.trod enc P w base spare held fuel t cs = some x) :
    ∃ n y0 y1, DataW.trod enc P w base spare held n f0.type ((cs.drop f0.offset).take (P.cellsOf f0.type)) = some y0 ∧ DataW.trod enc P w base spare held n f1.type ((cs.drop f1.offset).take (P.cellsOf f1.type)) = some y1 := by
  obtain ⟨ys, n, _, _, _, hl, hf⟩ := DataW.trod_struct hs h
  match ys, hl with
  | [y0, y1], _ => exact ⟨n, y0, y1, hf 0 f0 rfl, hf 1 f1 rfl⟩

set_option maxRecDepth 100000 in
/-- A mask by value. -/
theorem open_mask {r : Reach} {b0 : Nat} {v : Value} {d : DataW H} {p : List MemPlace} (hv : Value.okWide Tryz.prog w r b0 28 v) (h : DataW.Trod enc Tryz.prog w base (fun _ => true) held 28 v d p) :
    ∃ (x y W Hh : Int) (A : Option Addr) (c : Nat) (L : List Bool), v = maskV x y W Hh A L.length c ∧ Reads w w.heap.size 1 A L.length (bC L) ∧ L.length ≤ maxLen := by
  obtain ⟨cs, rfl, hsz⟩ := okWide_struct Tryz.underlying28 hv
  obtain ⟨fuel, hf⟩ := h
  have hC : Tryz.prog.cellsOf 28 = 5 := by kernel_rfl
  have hP : Tryz.prog.cellsOf 25 = 2 := by kernel_rfl
  have hI : Tryz.prog.cellsOf 2 = 1 := by kernel_rfl
  have hS : Tryz.prog.cellsOf 26 = 1 := by kernel_rfl
  have hBo : Tryz.prog.cellsOf 4 = 1 := by kernel_rfl
  rw [hC] at hsz
  have hcells : (Value.agg cs).cells = cs := rfl
  rw [hcells] at hf
  obtain ⟨c0, c1, c2, c3, c4, hcs⟩ : ∃ c0 c1 c2 c3 c4, cs = #[c0, c1, c2, c3, c4] := by
    obtain ⟨l⟩ := cs
    match l, hsz with
    | [c0, c1, c2, c3, c4], _ => exact ⟨c0, c1, c2, c3, c4, rfl⟩
  subst hcs
  obtain ⟨n, y0, y1, y2, y3, g0, g1, g2, g3⟩ := trod4 Tryz.underlying28 hf
  simp only [hP, hI, hS, List.drop_succ_cons, List.drop_zero, List.take_succ_cons, List.take_zero] at g0 g1 g2 g3
  obtain ⟨n', z0, z1, p0, p1⟩ := trod2 Tryz.underlying25 g0
  simp only [hI, List.drop_succ_cons, List.drop_zero, List.take_succ_cons, List.take_zero] at p0 p1
  obtain ⟨x, ex, _⟩ := DataW.trod_int Tryz.underlying2 p0
  obtain ⟨y, ey, _⟩ := DataW.trod_int Tryz.underlying2 p1
  obtain ⟨W, eW, _⟩ := DataW.trod_int Tryz.underlying2 g1
  obtain ⟨Hh, eH, _⟩ := DataW.trod_int Tryz.underlying2 g2
  obtain ⟨A, c, L, eS, hr, hm⟩ := open_boolS Tryz.underlying26 Tryz.underlying4 hBo g3
  simp at ex ey eW eH eS
  subst ex ey eW eH eS
  exact ⟨x, y, W, Hh, A, c, L, rfl, hr, hm⟩
end
end Go.Proofs.YtaaioengebaebaaGreatDoor
