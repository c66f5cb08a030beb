/- Rows of texts, some of them drawn, in a draw of the reference. -/
import Derived.Test.YtnbpbidflacoiaaDoorRows
import Derived.Test.YtnbpbidflacoiaaDoorL0
import Derived.Test.YtnbpbidflacoiaaDoorM0
import Derived.WalkKit
import Derived.ProofKit
import Derived.OpenShut
import Derived.BigQuiet
import Derived.Outline
import Derived.WalkSpells
import Derived.WalkLawsBesides
import Derived.Deep.DeepCutAuto
import Derived.Test.YtnbpbidflacoiaaDoorRX
namespace Go.Proofs.YtnbpbidflacoiaaDoor
open Go.ChangeShapes Go.WideShapes Go.ChangeAt Go.RowKit

/-- Texts of at most n bytes. -/
def strsB (n : Nat) (cs : List Value) : Bool := cs.all (fun v => match v with | .string s => decide (s.size ≤ n) | _ => false)
theorem strsB_of {n : Nat} {cs : List Value} (h : ∀ v ∈ cs, ∃ s : ByteArray, v = .string s ∧ s.size ≤ n) : strsB n cs = true := by
  unfold strsB
  rw [List.all_eq_true]
  intro v hv
  obtain ⟨s, rfl, hs⟩ := h v hv
  simpa using hs
def isRowT (t : TypeId) (N len n : Nat) : Value → World → Prop := fun v w => ∃ (cs : List Value) (b : Nat), v = .slice (some ⟨b, 0, none⟩) len len ∧ cs.length = len ∧ strsB n cs = true ∧ N ≤ b ∧ Blk w b t cs.toArray
def isAtT (t : TypeId) (N len n : Nat) : Value → World → Prop := fun v w => ∃ (cs : List Value) (b k : Nat), v = .pointer (some ⟨b, k, none⟩) ∧ k < len ∧ cs.length = len ∧ strsB n cs = true ∧ N ≤ b ∧ Blk w b t cs.toArray
theorem stable_RowT (g : Nat) {N : Nat} (h : g < N) (t : TypeId) (len : Nat) {n : Nat} : StableS (fun w w' => Only w w' g) (isRowT t N len n) := fun _ _ _ ho ⟨cs, b, e, hl, ht, hb, hk⟩ => ⟨cs, b, e, hl, ht, hb, hk.grown ho (by intro e; injection e with e; omega)⟩
theorem stable_AtT (g : Nat) {N : Nat} (h : g < N) (t : TypeId) (len : Nat) {n : Nat} : StableS (fun w w' => Only w w' g) (isAtT t N len n) := fun _ _ _ ho ⟨cs, b, k, e, hk, hl, ht, hb, hB⟩ => ⟨cs, b, k, e, hk, hl, ht, hb, hB.grown ho (by intro e; injection e with e; omega)⟩
/-- Numbers within bounds. -/
def isRowN (t : TypeId) (N len : Nat) (lo hi : Int) : Value → World → Prop := fun v w => ∃ (xs : List Int) (b : Nat), v = .slice (some ⟨b, 0, none⟩) len len ∧ xs.length = len ∧ (∀ x ∈ xs, lo ≤ x ∧ x ≤ hi) ∧ N ≤ b ∧ Blk w b t (iC xs).toArray
theorem stable_RowN (g : Nat) {N : Nat} (h : g < N) (t : TypeId) (len : Nat) {lo hi : Int} : StableS (fun w w' => Only w w' g) (isRowN t N len lo hi) := fun _ _ _ ho ⟨xs, b, e, hl, ht, hb, hk⟩ => ⟨xs, b, e, hl, ht, hb, hk.grown ho (by intro e; injection e with e; omega)⟩
end Go.Proofs.YtnbpbidflacoiaaDoor
