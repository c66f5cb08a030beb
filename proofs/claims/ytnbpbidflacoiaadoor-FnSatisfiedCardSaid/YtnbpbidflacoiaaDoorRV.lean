/- A row whose cells say a law: a shape of a slot. -/
import Derived.Test.YtnbpbidflacoiaaDoorRows
import Derived.Test.YtnbpbidflacoiaaDoorL0
import Derived.Test.YtnbpbidflacoiaaDoorM0
import Derived.WalkKit
import Derived.ProofKit
import Derived.OpenShut
import Derived.BigQuiet
import Derived.Outline
import Derived.WalkSpells
import Derived.WalkLawsBesides
import Derived.Deep.DeepCutAuto
import Derived.Test.YtnbpbidflacoiaaDoorRX
namespace Go.Proofs.YtnbpbidflacoiaaDoor
open Go.ChangeShapes Go.WideShapes Go.ChangeAt Go.RowKit

def isRowP (t : TypeId) (N n : Nat) (P : List Value → Prop) : Value → World → Prop := fun v w => ∃ (cs : List Value) (b : Nat), v = .slice (some ⟨b, 0, none⟩) n n ∧ P cs ∧ N ≤ b ∧ Blk w b t cs.toArray
theorem stable_RowP (g : Nat) {N : Nat} (h : g < N) (t : TypeId) (n : Nat) {P : List Value → Prop} : StableS (fun w w' => Only w w' g) (isRowP t N n P) := fun _ _ _ ho ⟨cs, b, e, hp, hb, hk⟩ => ⟨cs, b, e, hp, hb, hk.grown ho (by intro e; injection e with e; omega)⟩
end Go.Proofs.YtnbpbidflacoiaaDoor
