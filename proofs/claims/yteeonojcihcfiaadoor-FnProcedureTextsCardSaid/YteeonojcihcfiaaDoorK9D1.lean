/- FnExactIsProcedure returns true for every list: the walk of the law. -/
import Derived.Test.YteeonojcihcfiaaDoorRows
import Derived.Test.YteeonojcihcfiaaDoorK9GA
import Derived.WalkKit
import Derived.ProofKit
import Derived.OpenShut
import Derived.BigQuiet
import Derived.Outline
import Derived.WalkSpells
import Derived.WalkLawsBesides
import Derived.Deep.DeepCutAuto
import Derived.Test.YteeonojcihcfiaaDoorK9P1
import Derived.Test.YteeonojcihcfiaaDoorK9C1
import Derived.Test.YteeonojcihcfiaaDoorK9C2
import Derived.Test.YteeonojcihcfiaaDoorK9B5
import Derived.Lib.Hide
namespace Go.Proofs.YteeonojcihcfiaaDoor
open Go.ChangeShapes Go.WideShapes Go.ChangeAt Go.RowKit

theorem Blk.reads {w : World} {g : Nat} {t : TypeId} {size n : Nat} {L : List Value} (h : Blk w g t L.toArray) (hl : L.length = n * size) : Reads w w.heap.size size (some ⟨g, 0, none⟩) n L :=
  ⟨hl, fun _ => ⟨g, 0, rfl, h.lt, fun j u hu => by rw [Nat.zero_add, h.cell]; simpa using hu⟩⟩

theorem implIs_law (xs : List Stp) (A : Option Addr) (c : Nat) (w : World) (hr : Reads w w.heap.size 2 A xs.length (stC xs)) (hm : xs.length ≤ 9223372036854775807) :
    Calls Tryd.prog 19 #[.slice A xs.length c] w fun e w' => e = .returned (.bool (isProc xs)) ∧ Below w.heap.size w w' := by
  rw [← isSome_law]; exact implIs_any xs A c w hr hm

end Go.Proofs.YteeonojcihcfiaaDoor
