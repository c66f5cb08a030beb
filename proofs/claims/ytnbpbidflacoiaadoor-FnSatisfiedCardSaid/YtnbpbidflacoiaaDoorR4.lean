/- The law of AreSites returns true for all sites: the walk of the law. -/
import Derived.Test.YtnbpbidflacoiaaDoorRows
import Derived.Test.YtnbpbidflacoiaaDoorL0
import Derived.Test.YtnbpbidflacoiaaDoorM0
import Derived.WalkKit
import Derived.ProofKit
import Derived.OpenShut
import Derived.BigQuiet
import Derived.Outline
import Derived.WalkSpells
import Derived.WalkLawsBesides
import Derived.Deep.DeepCutAuto
import Derived.Test.YtnbpbidflacoiaaDoorR3
import Derived.Lib.Hide
namespace Go.Proofs.YtnbpbidflacoiaaDoor
open Go.ChangeShapes Go.WideShapes Go.ChangeAt Go.RowKit
theorem blk_rd {w : World} {g : Nat} {t : TypeId} {size n : Nat} {L : List Value} (h : Blk w g t L.toArray) (hl : L.length = n * size) : Reads w w.heap.size size (some ⟨g, 0, none⟩) n L :=
  ⟨hl, fun _ => ⟨g, 0, rfl, h.lt, fun j u hu => by rw [Nat.zero_add, h.cell]; simpa using hu⟩⟩
theorem specAreS_has (xs : List Sit) (A : Option Addr) (c : Nat) (w : World) (h : HasSit w xs A) : Calls Tryd.prog 86 #[.slice A xs.length c] w fun e w' => e = .returned (.bool (areS xs)) ∧ Below w.heap.size w w' := specAreS_any xs A c w h.1 h.2.1 h.2.2
theorem implAreS_has (xs : List Sit) (A : Option Addr) (c : Nat) (w : World) (h : HasSit w xs A) (hdir : Dirs w) : Calls Tryd.prog 82 #[.slice A xs.length c] w fun e w' => e = .returned (.bool (areS xs)) ∧ Below w.heap.size w w' := implAreS_any xs A c w h.1 h.2.1 h.2.2 hdir
end Go.Proofs.YtnbpbidflacoiaaDoor
