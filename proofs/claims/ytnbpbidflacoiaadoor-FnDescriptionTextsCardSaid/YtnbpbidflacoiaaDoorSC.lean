/- The code of draws, and l01From on it. -/
import Derived.Test.YtnbpbidflacoiaaDoorRows
import Derived.Test.YtnbpbidflacoiaaDoorL0
import Derived.Test.YtnbpbidflacoiaaDoorM0
import Derived.WalkKit
import Derived.ProofKit
import Derived.OpenShut
import Derived.BigQuiet
import Derived.Outline
import Derived.WalkSpells
import Derived.WalkLawsBesides
import Derived.Deep.DeepCutAuto
import Derived.Test.YtnbpbidflacoiaaDoorSA
namespace Go.Proofs.YtnbpbidflacoiaaDoor
open Go.ChangeShapes Go.WideShapes Go.ChangeAt Go.RowKit

def Code8 (w : World) (A : Option Addr) (n : Nat) : Prop := ∃ bs : List UInt8, n = bs.length ∧ n ≤ 4096 ∧ Reads w w.heap.size 1 A n (byC bs)
theorem Code8.below {w w' : World} {A : Option Addr} {n : Nat} (h : Code8 w A n) (hb : Below w.heap.size w w') : Code8 w' A n := by
  obtain ⟨bs, h1, h2, h3⟩ := h
  exact ⟨bs, h1, h2, (h3.below hb).more hb.size⟩
theorem from_code (A : Option Addr) (n c : Nat) (w : World) (h : Code8 w A n) :
    Calls Tryd.prog 41 #[.slice A n c] w fun e w' => ∃ g, e = .returned (.pointer (some ⟨g, 0, none⟩)) ∧ Src w' w.heap.size g ∧ Below w.heap.size w w' := by
  obtain ⟨bs, rfl, h2, h3⟩ := h
  exact from_any bs A c w h3 h2
end Go.Proofs.YtnbpbidflacoiaaDoor
