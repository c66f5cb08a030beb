/- Codes of places, of the program: isOwnWord, isCode; units of both. -/
import Derived.Test.YtihhpmhigmegjaaGreatDoorRows
import Derived.Test.YtihhpmhigmegjaaGreatDoorL0
import Derived.Test.YtihhpmhigmegjaaGreatDoorM0
import Derived.WalkKit
import Derived.ProofKit
import Derived.OpenShut
import Derived.BigQuiet
import Derived.Outline
import Derived.WalkSpells
import Derived.WalkLawsBesides
import Derived.Deep.DeepCutAuto
import Derived.Test.YtihhpmhigmegjaaGreatDoorQ1
import Derived.Lib.Hide
namespace Go.Proofs.YtihhpmhigmegjaaGreatDoor
open Go.ChangeShapes Go.WideShapes Go.ChangeAt Go.RowKit

/-- The table of the directions lies in memory. -/
def Dirs (w : World) : Prop := Reads w w.heap.size 1 (some ⟨0, 0, none⟩) 8 (txC dirsL)
theorem Dirs.below {w w' : World} (h : Dirs w) (hb : Below w.heap.size w w') : Dirs w' := (Reads.below h hb).more hb.size
end Go.Proofs.YtihhpmhigmegjaaGreatDoor
