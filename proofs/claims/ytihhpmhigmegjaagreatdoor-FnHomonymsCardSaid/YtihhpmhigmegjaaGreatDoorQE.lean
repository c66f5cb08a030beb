/- The table of the directions out of what the row lists; an argument that is a description, opened. -/
import Derived.Test.YtihhpmhigmegjaaGreatDoorRows
import Derived.Test.YtihhpmhigmegjaaGreatDoorQ2
import Derived.Lib.SmallJoins
import Derived.Deep.Slices
import Derived.Deep.Fields
import Derived.ChangeSame
import Derived.ProofKit
import Derived.OpenShut
import Derived.LaidSub
import Derived.LaidMore
import Derived.Lay
import Derived.OpenVars
import Derived.ChangeMaps5
namespace Go.Proofs.YtihhpmhigmegjaaGreatDoor
open Go.ChangeShapes Go.WideShapes Go.ChangeAt Go.Deep Go.RowKit

theorem dirs_of {W : World} (h : laidMetH Tryz.prog [("loop.example/g01030/impl.directionWords", Rows.laid_loop_example_g01030_impl_directionWords)] W) : Dirs W := by
  rw [MakeChecks.laidMetH_plain _ _ _ (by kernel_rfl)] at h
  obtain ⟨ps, ⟨g, t, cs, fuel, p, q, hg, ht, hv, hd, _, _⟩, _, _⟩ := h
  obtain rfl := Option.some.inj ((show Tryz.prog.globalNamed "loop.example/g01030/impl.directionWords" = some 0 by kernel_rfl).symm.trans hg)
  obtain rfl := Option.some.inj ((show (Tryz.prog.globals[0]?).map (·.type) = some 96 by kernel_rfl).symm.trans ht)
  obtain ⟨xs, m, _, ex, _, hl, hel⟩ := DataW.trod_array Tryz.underlying96 hd
  have c1 : Tryz.prog.cellsOf 9 = 1 := by kernel_rfl
  have e3 : xs.map (·.1) = dirsL.map fun s => (DataW.lit (.string s.data.toList) : DataW Unit) := (DataW.agg.inj (Prod.mk.inj ex).1).symm
  have hxl : xs.length = 8 := by have := congrArg List.length e3; simpa [dirsL] using this
  have key : ∀ r, (hr : r < 8) → W.cell? ⟨0, r, none⟩ = some (.string (dirsL[r]'(by rw [dirs_len]; exact hr))) := by
    intro r hr
    have hE := hel r (by omega)
    rw [c1, Nat.mul_one, List.getElem?_eq_getElem (by omega)] at hE
    obtain ⟨s, e1, e2, _⟩ := DataW.trod_string Tryz.underlying9 hE
    have e4 : (xs.map (·.1))[r]? = (dirsL.map fun s => (DataW.lit (.string s.data.toList) : DataW Unit))[r]? := by rw [e3]
    rw [List.getElem?_map, List.getElem?_map, List.getElem?_eq_getElem (by omega : r < xs.length), List.getElem?_eq_getElem (by rw [dirs_len]; exact hr), e2] at e4
    simp only [Option.map_some, Option.some.injEq, DataW.lit.injEq, Lit.string.injEq] at e4
    have hs : s = dirsL[r]'(by rw [dirs_len]; exact hr) := by
      apply str_inj
      rw [ByteArray.toList_eq, ByteArray.toList_eq]
      exact e4
    rw [World.var?_cell hg hv r, ← hs]
    have : cs.toList[r]? = some (.string s) := by
      have h0 : ((cs.toList.drop r).take 1)[0]? = some (.string s) := by rw [e1]; rfl
      simpa using h0
    simpa using this
  refine ⟨rfl, fun _ => ⟨_, 0, rfl, World.block_lt_of_cell? W _ (key 0 (by omega)), fun j u hu => ?_⟩⟩
  have hj : j < dirsL.length := by
    have := (List.getElem?_eq_some_iff.1 hu).1
    simpa [txC] using this
  rw [Nat.zero_add, key j hj]
  rw [txC_get _ _ hj] at hu
  exact hu
end Go.Proofs.YtihhpmhigmegjaaGreatDoor
