/- An argument that is a string, opened. -/
import Derived.ChangeMaps5
import Derived.WideShapes
import Derived.Test.YtnbpbidflacoiaaDoorRows
namespace Go.Proofs.YtnbpbidflacoiaaDoor
open Go.WideShapes Go.ChangeMaps
theorem open_str_val {H : Type} {enc : TypeId × Value → H} {P : Program} {w : World} {base : Nat} {spare : Nat → Bool} {held : Bool} {r : Reach} {b0 : Nat} {t : TypeId} {v : Value} {d : DataW H} {p : List MemPlace} (ht : P.underlying t = some .string) (hv : Value.okWide P w r b0 t v) (h : DataW.Trod enc P w base spare held t v d p) :
    ∃ s : ByteArray, v = .string s ∧ s.size ≤ 9223372036854775807 := by
  obtain ⟨s, rfl, _, _, hs⟩ := open_string ht hv h
  unfold maxLen at hs
  exact ⟨s, rfl, by omega⟩
end Go.Proofs.YtnbpbidflacoiaaDoor
