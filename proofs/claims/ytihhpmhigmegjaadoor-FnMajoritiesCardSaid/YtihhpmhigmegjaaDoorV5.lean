/- The laws of AreBallots, CountVotes, IsCarried, HasQuorum return true for all ballots: the walks of the laws. -/
import Derived.Test.YtihhpmhigmegjaaDoorRows
import Derived.Test.YtihhpmhigmegjaaDoorL0
import Derived.Test.YtihhpmhigmegjaaDoorM0
import Derived.WalkKit
import Derived.ProofKit
import Derived.OpenShut
import Derived.BigQuiet
import Derived.Outline
import Derived.WalkSpells
import Derived.WalkLawsBesides
import Derived.Deep.DeepCutAuto
import Derived.Test.YtihhpmhigmegjaaDoorV4
import Derived.Lib.Hide
namespace Go.Proofs.YtihhpmhigmegjaaDoor
open Go.ChangeShapes Go.WideShapes Go.ChangeAt Go.RowKit

theorem blk_rd {w : World} {g : Nat} {t : TypeId} {size n : Nat} {L : List Value} (h : Blk w g t L.toArray) (hl : L.length = n * size) : Reads w w.heap.size size (some ⟨g, 0, none⟩) n L :=
  ⟨hl, fun _ => ⟨g, 0, rfl, h.lt, fun j u hu => by rw [Nat.zero_add, h.cell]; simpa using hu⟩⟩
theorem countT_form (xs : List Bal) : ∃ a b c d, countT xs = #[.int .i64 a, .int .i64 b, .int .i64 c, .int .i64 d] := by
  unfold countT; split <;> exact ⟨_, _, _, _, rfl⟩
theorem carT_form (xs : List Bal) (rule : Int) : ∃ a b, carT xs rule = #[.bool a, .int .i64 b] := by
  unfold carT; split <;> exact ⟨_, _, rfl⟩
theorem quoT_form (xs : List Bal) (t p : Int) : ∃ a b, quoT xs t p = #[.bool a, .int .i64 b] := by
  unfold quoT; split
  · split <;> exact ⟨_, _, rfl⟩
  · exact ⟨_, _, rfl⟩
theorem specAre_has (xs : List Bal) (A : Option Addr) (c : Nat) (w : World) (h : HasBal w xs A) : Calls Tryd.prog 36 #[.slice A xs.length c] w fun e w' => e = .returned (.bool (areB xs)) ∧ Below w.heap.size w w' := specAre_any xs A c w h.1 h.2.1 h.2.2
theorem implAre_has (xs : List Bal) (A : Option Addr) (c : Nat) (w : World) (h : HasBal w xs A) : Calls Tryd.prog 18 #[.slice A xs.length c] w fun e w' => e = .returned (.bool (areB xs)) ∧ Below w.heap.size w w' := implAre_any xs A c w h.1 h.2.1 h.2.2
end Go.Proofs.YtihhpmhigmegjaaDoor
