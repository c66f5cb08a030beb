/- The law of PivotalMembers returns true for all ballots and rules: the walk of the law. -/
import Derived.Test.YtihhpmhigmegjaaDoorRows
import Derived.Test.YtihhpmhigmegjaaDoorL0
import Derived.Test.YtihhpmhigmegjaaDoorM0
import Derived.WalkKit
import Derived.ProofKit
import Derived.OpenShut
import Derived.BigQuiet
import Derived.Outline
import Derived.WalkSpells
import Derived.WalkLawsBesides
import Derived.Deep.DeepCutAuto
import Derived.Test.YtihhpmhigmegjaaDoorT4
import Derived.Test.YtihhpmhigmegjaaDoorV5
namespace Go.Proofs.YtihhpmhigmegjaaDoor
open Go.ChangeShapes Go.WideShapes Go.ChangeAt Go.RowKit

theorem blk_own {w : World} {g : Nat} {t : TypeId} {size n base : Nat} {L : List Value} (h : Blk w g t L.toArray) (hl : L.length = n * size) (hb : base ≤ g) (hn : n ≤ maxLen) : w.ownsRow base t size (.slice (some ⟨g, 0, none⟩) n n) n L :=
  ⟨hl, .inr ⟨g, n, L.toArray, rfl, hb, h, Nat.le_refl _, hn, by simpa using hl, by simp [← hl]⟩⟩
theorem own_far {a b : Value} {m : Nat} (h1 : ∀ k, a.ownBlock = some k → k < m) (h2 : ∀ k, b.ownBlock = some k → m ≤ k) : a.ownBlock = none ∨ a.ownBlock ≠ b.ownBlock := by
  cases ha : a.ownBlock with
  | none => exact .inl rfl
  | some k => exact .inr (fun h => by have := h1 k ha; have := h2 k h.symm; omega)

theorem pivR_len {w : World} {xs : List Bal} {A : Option Addr} {rule : Int} (h : HasBal w xs A) : (pivR xs rule).length ≤ 1048576 := by
  unfold pivR
  split
  · rename_i hc
    have := (fits_of (vcode_zero hc).1).1.1
    have := pivL_len xs rule xs.length
    omega
  · simp
end Go.Proofs.YtihhpmhigmegjaaDoor
