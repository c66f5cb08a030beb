/- Arguments by value, opened: a struct of two int64, an int64. -/
import Derived.Test.YthlpclnfnfbeiaaGreatDoorM6
import Derived.Lib.SmallJoins
namespace Go.Proofs.YthlpclnfnfbeiaaGreatDoor
open Go.ChangeShapes Go.WideShapes Go.Deep Go.RowKit Go.Joins
section
variable {H : Type} {enc : TypeId × Value → H} {w : World} {base : Nat} {spare : Nat → Bool} {held : Bool}
theorem open_pair_val {P : Program} {r : Reach} {b0 : Nat} {t e0 : TypeId} {f0 f1 : Field} {v : Value} {d : DataW H} {p : List MemPlace} (hs : P.underlying t = some (.struct #[f0, f1])) (hone : oneCellFields P #[f0, f1] = true) (hC : P.cellsOf t = 2)
    (t0 : f0.type = e0) (t1 : f1.type = e0) (hint : P.underlying e0 = some (.int .i64)) (hv : Value.okWide P w r b0 t v) (h : DataW.Trod enc P w base spare held t v d p) :
    ∃ a b : Int, v = .agg #[.int .i64 a, .int .i64 b] := by
  obtain ⟨c0, c1, y0, y1, m, rfl, rfl, rfl, hy0, hy1⟩ := open_agg2 hs hone hC hv h
  rw [t0] at hy0
  rw [t1] at hy1
  obtain ⟨k0, e0', _⟩ := DataW.trod_int hint hy0
  obtain ⟨k1, e1', _⟩ := DataW.trod_int hint hy1
  simp at e0' e1'
  subst e0' e1'
  exact ⟨k0, k1, rfl⟩
theorem open_int_val {P : Program} {r : Reach} {b0 : Nat} {t : TypeId} {v : Value} {d : DataW H} {p : List MemPlace} (ht : P.underlying t = some (.int .i64)) (hv : Value.okWide P w r b0 t v) (h : DataW.Trod enc P w base spare held t v d p) :
    ∃ a : Int, v = .int .i64 a ∧ (Lit.int .i64 a).wf = true := by
  obtain ⟨a, rfl, rfl, rfl, wa⟩ := open_int ht hv h
  exact ⟨a, rfl, wa⟩
end
end Go.Proofs.YthlpclnfnfbeiaaGreatDoor
