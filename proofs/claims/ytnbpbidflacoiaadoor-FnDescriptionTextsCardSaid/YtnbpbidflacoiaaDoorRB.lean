/- Regions that draw their order and change nothing old: what their operations leave. -/
import Derived.Test.YtnbpbidflacoiaaDoorRows
import Derived.Test.YtnbpbidflacoiaaDoorL0
import Derived.Test.YtnbpbidflacoiaaDoorM0
import Derived.WalkKit
import Derived.ProofKit
import Derived.OpenShut
import Derived.BigQuiet
import Derived.Outline
import Derived.WalkSpells
import Derived.WalkLawsBesides
import Derived.Deep.DeepCutAuto
import Derived.Test.YtnbpbidflacoiaaDoorRX
namespace Go.Proofs.YtnbpbidflacoiaaDoor
open Go.ChangeShapes Go.WideShapes Go.ChangeAt Go.RowKit

/-- The worlds that lie over W. -/
def OverW (W : World) : World → Prop := fun v => Below W.heap.size W v
/-- A world that keeps what lies in another one. -/
def KeepW : World → World → Prop := fun w w' => Below w.heap.size w w'
/-- A new row of known cells. -/
def isNewRow (W : World) (t : TypeId) (cs : Array Value) : Value → World → Prop := fun v w => ∃ b, v = .slice (some ⟨b, 0, none⟩) cs.size cs.size ∧ W.heap.size ≤ b ∧ Blk w b t cs
/-- A new box of known cells. -/
def isNewBox (W : World) (t : TypeId) (cs : Array Value) : Value → World → Prop := fun v w => ∃ b, v = .pointer (some ⟨b, 0, none⟩) ∧ W.heap.size ≤ b ∧ Blk w b t cs
theorem keep_V (u : Value) : StableS KeepW (isV u) := fun _ _ _ _ h => h
theorem keep_row (W : World) (t : TypeId) (cs : Array Value) : StableS KeepW (isNewRow W t cs) := fun _ _ _ h ⟨b, e, hb, hk⟩ => ⟨b, e, hb, hk.below h hk.lt⟩
theorem keep_box (W : World) (t : TypeId) (cs : Array Value) : StableS KeepW (isNewBox W t cs) := fun _ _ _ h ⟨b, e, hb, hk⟩ => ⟨b, e, hb, hk.below h hk.lt⟩
theorem OverW.drew {W v : World} (h : OverW W v) : OverW W v.drew := Below.drew h
theorem OverW.go {W v v' : World} (h : OverW W v) (b : KeepW v v') : OverW W v' := Below.trans h (Below.mono b h.size)
theorem OverW.new {W v : World} (h : OverW W v) (o : Obj) : OverW W (v.alloc o) := Below.alloc h h.size o
theorem keep_refl (w : World) : KeepW w w := Below.refl _ _
theorem keep_new (w : World) (o : Obj) : KeepW w (w.alloc o) := (Below.refl _ _).alloc (Nat.le_refl _) o
end Go.Proofs.YtnbpbidflacoiaaDoor
