/- A ballot by value, opened. -/
import Derived.Test.YtlcfpaghipjgiaaDoorRows
import Derived.Test.YtlcfpaghipjgiaaDoorL0
import Derived.Test.YtlcfpaghipjgiaaDoorM0
import Derived.WalkKit
import Derived.ProofKit
import Derived.OpenShut
import Derived.BigQuiet
import Derived.Outline
import Derived.WalkSpells
import Derived.WalkLawsBesides
import Derived.Deep.DeepCutAuto
import Derived.Test.YtlcfpaghipjgiaaDoorM9
import Derived.Test.YtlcfpaghipjgiaaDoorV0
namespace Go.Proofs.YtlcfpaghipjgiaaDoor
open Go.ChangeShapes Go.WideShapes Go.ChangeAt Go.RowKit Go.Deep Go.Joins
section
variable {H : Type} {enc : TypeId × Value → H} {w : World} {base : Nat} {spare : Nat → Bool} {held : Bool}
theorem open_ballot {P : Program} {r : Reach} {b0 : Nat} {t e0 e1 : TypeId} {f0 f1 f2 : Field} {v : Value} {d : DataW H} {p : List MemPlace} (hs : P.underlying t = some (.struct #[f0, f1, f2])) (hone : oneCellFields P #[f0, f1, f2] = true) (hC : P.cellsOf t = 3)
    (t0 : f0.type = e0) (t1 : f1.type = e1) (t2 : f2.type = e1) (hstr : P.underlying e0 = some .string) (hint : P.underlying e1 = some (.int .i64)) (hv : Value.okWide P w r b0 t v) (h : DataW.Trod enc P w base spare held t v d p) :
    ∃ (nm : ByteArray) (ct wt : Int), v = .agg #[.string nm, .int .i64 ct, .int .i64 wt] ∧ nm.size ≤ 9223372036854775807 := by
  obtain ⟨cs, rfl, hsz, hf⟩ := open_agg_n hs hone (by simpa using hC) hv h
  obtain ⟨c0, y0, n0, g0, h0⟩ := hf 0 f0 rfl
  obtain ⟨c1, y1, n1, g1, h1⟩ := hf 1 f1 rfl
  obtain ⟨c2, y2, n2, g2, h2⟩ := hf 2 f2 rfl
  rw [t0] at h0
  rw [t1] at h1
  rw [t2] at h2
  obtain ⟨k0, q0, _, z0⟩ := DataW.trod_string hstr h0
  obtain ⟨k1, q1, _⟩ := DataW.trod_int hint h1
  obtain ⟨k2, q2, _⟩ := DataW.trod_int hint h2
  simp at q0 q1 q2
  subst q0 q1 q2
  unfold maxLen at z0
  refine ⟨k0, k1, k2, ?_, by omega⟩
  congr 1
  apply Array.ext_getElem?
  intro i
  match i with
  | 0 => exact g0
  | 1 => exact g1
  | 2 => exact g2
  | i + 3 => rw [Array.getElem?_eq_none (by simp at hsz; omega), Array.getElem?_eq_none (by simp)]
end
end Go.Proofs.YtlcfpaghipjgiaaDoor
