/- The table of the directions out of what the row lists; an argument that is a description, opened. -/
import Derived.Test.YtnbpbidflacoiaaDoorRows
import Derived.Test.YtnbpbidflacoiaaDoorM9
import Derived.Test.YtnbpbidflacoiaaDoorQ4
import Derived.Test.YtnbpbidflacoiaaDoorQ2
import Derived.Lib.SmallJoins
import Derived.Deep.Slices
import Derived.Deep.Fields
import Derived.ChangeSame
import Derived.ProofKit
import Derived.OpenShut
import Derived.LaidSub
import Derived.LaidMore
import Derived.Lay
import Derived.OpenVars
import Derived.ChangeMaps5
namespace Go.Proofs.YtnbpbidflacoiaaDoor
open Go.ChangeShapes Go.WideShapes Go.ChangeAt Go.Deep Go.RowKit

theorem dirs_of {W : World} (h : laidMetH Tryd.prog [("loop.example/g01030/impl.directionWords", Rows.laid_loop_example_g01030_impl_directionWords)] W) : Dirs W := by
  rw [MakeChecks.laidMetH_plain _ _ _ (by kernel_rfl)] at h
  obtain ⟨ps, ⟨g, t, cs, fuel, p, q, hg, ht, hv, hd, _, _⟩, _, _⟩ := h
  obtain rfl := Option.some.inj ((show Tryd.prog.globalNamed "loop.example/g01030/impl.directionWords" = some 0 by kernel_rfl).symm.trans hg)
  obtain rfl := Option.some.inj ((show (Tryd.prog.globals[0]?).map (·.type) = some 96 by kernel_rfl).symm.trans ht)
  obtain ⟨xs, m, _, ex, _, hl, hel⟩ := DataW.trod_array Tryd.underlying96 hd
  have c1 : Tryd.prog.cellsOf 9 = 1 := by kernel_rfl
  have e3 : xs.map (·.1) = dirsL.map fun s => (DataW.lit (.string s.data.toList) : DataW Unit) := (DataW.agg.inj (Prod.mk.inj ex).1).symm
  have hxl : xs.length = 8 := by have := congrArg List.length e3; simpa [dirsL] using this
  have key : ∀ r, (hr : r < 8) → W.cell? ⟨0, r, none⟩ = some (.string (dirsL[r]'(by rw [dirs_len]; exact hr))) := by
    intro r hr
    have hE := hel r (by omega)
    rw [c1, Nat.mul_one, List.getElem?_eq_getElem (by omega)] at hE
    obtain ⟨s, e1, e2, _⟩ := DataW.trod_string Tryd.underlying9 hE
    have e4 : (xs.map (·.1))[r]? = (dirsL.map fun s => (DataW.lit (.string s.data.toList) : DataW Unit))[r]? := by rw [e3]
    rw [List.getElem?_map, List.getElem?_map, List.getElem?_eq_getElem (by omega : r < xs.length), List.getElem?_eq_getElem (by rw [dirs_len]; exact hr), e2] at e4
    simp only [Option.map_some, Option.some.injEq, DataW.lit.injEq, Lit.string.injEq] at e4
    have hs : s = dirsL[r]'(by rw [dirs_len]; exact hr) := by
      apply str_inj
      rw [ByteArray.toList_eq, ByteArray.toList_eq]
      exact e4
    rw [World.var?_cell hg hv r, ← hs]
    have : cs.toList[r]? = some (.string s) := by
      have h0 : ((cs.toList.drop r).take 1)[0]? = some (.string s) := by rw [e1]; rfl
      simpa using h0
    simpa using this
  refine ⟨rfl, fun _ => ⟨_, 0, rfl, World.block_lt_of_cell? W _ (key 0 (by omega)), fun j u hu => ?_⟩⟩
  have hj : j < dirsL.length := by
    have := (List.getElem?_eq_some_iff.1 hu).1
    simpa [txC] using this
  rw [Nat.zero_add, key j hj]
  rw [txC_get _ _ hj] at hu
  exact hu
section
variable {H : Type} {enc : TypeId × Value → H} {w : World} {base : Nat} {spare : Nat → Bool} {held : Bool}
theorem open_desc {P : Program} {r : Reach} {b0 : Nat} {t e0 e1 : TypeId} {f0 f1 f2 f3 f4 f5 : Field} {v : Value} {d : DataW H} {p : List MemPlace} (hs : P.underlying t = some (.struct #[f0, f1, f2, f3, f4, f5])) (hone : oneCellFields P #[f0, f1, f2, f3, f4, f5] = true) (hC : P.cellsOf t = 6)
    (t0 : f0.type = e1) (t1 : f1.type = e1) (t2 : f2.type = e0) (t3 : f3.type = e1) (t4 : f4.type = e0) (t5 : f5.type = e0) (hstr : P.underlying e0 = some .string) (hint : P.underlying e1 = some (.int .i64)) (hv : Value.okWide P w r b0 t v) (h : DataW.Trod enc P w base spare held t v d p) :
    ∃ x : Dsc, v = x.val ∧ x.Ok := by
  obtain ⟨cs, rfl, hsz, hf⟩ := open_agg_n hs hone (by simpa using hC) hv h
  obtain ⟨c0, y0, n0, g0, h0⟩ := hf 0 f0 rfl
  obtain ⟨c1, y1, n1, g1, h1⟩ := hf 1 f1 rfl
  obtain ⟨c2, y2, n2, g2, h2⟩ := hf 2 f2 rfl
  obtain ⟨c3, y3, n3, g3, h3⟩ := hf 3 f3 rfl
  obtain ⟨c4, y4, n4, g4, h4⟩ := hf 4 f4 rfl
  obtain ⟨c5, y5, n5, g5, h5⟩ := hf 5 f5 rfl
  rw [t0] at h0
  rw [t1] at h1
  rw [t2] at h2
  rw [t3] at h3
  rw [t4] at h4
  rw [t5] at h5
  obtain ⟨k0, q0, _⟩ := DataW.trod_int hint h0
  obtain ⟨k1, q1, _⟩ := DataW.trod_int hint h1
  obtain ⟨k2, q2, _, z2⟩ := DataW.trod_string hstr h2
  obtain ⟨k3, q3, _⟩ := DataW.trod_int hint h3
  obtain ⟨k4, q4, _, z4⟩ := DataW.trod_string hstr h4
  obtain ⟨k5, q5, _, z5⟩ := DataW.trod_string hstr h5
  simp at q0 q1 q2 q3 q4 q5
  subst q0 q1 q2 q3 q4 q5
  unfold maxLen at z2 z4 z5
  refine ⟨⟨k0, k1, k2, k3, k4, k5⟩, ?_, by omega, by omega, by omega⟩
  unfold Dsc.val
  congr 1
  apply Array.ext_getElem?
  intro i
  match i with
  | 0 => exact g0
  | 1 => exact g1
  | 2 => exact g2
  | 3 => exact g3
  | 4 => exact g4
  | 5 => exact g5
  | i + 6 => rw [Array.getElem?_eq_none (by simp at hsz; omega), Array.getElem?_eq_none (by simp)]
end
end Go.Proofs.YtnbpbidflacoiaaDoor
