/- Whether a point satisfies a description: DoesSatisfy of the program. -/
import Derived.Test.YtnbpbidflacoiaaGreatDoorRows
import Derived.Test.YtnbpbidflacoiaaGreatDoorK9GA
import Derived.WalkKit
import Derived.ProofKit
import Derived.OpenShut
import Derived.BigQuiet
import Derived.Outline
import Derived.WalkSpells
import Derived.WalkLawsBesides
import Derived.Deep.DeepCutAuto
import Derived.Test.YtnbpbidflacoiaaGreatDoorK9HD
namespace Go.Proofs.YtnbpbidflacoiaaGreatDoor
open Go.ChangeShapes Go.WideShapes Go.ChangeAt Go.RowKit Go.Sort

end Go.Proofs.YtnbpbidflacoiaaGreatDoor
