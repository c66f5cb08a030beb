/- l01Good of the reference: a drawn word. -/
import Derived.Test.YtnbpbidflacoiaaDoorRows
import Derived.Test.YtnbpbidflacoiaaDoorL0
import Derived.Test.YtnbpbidflacoiaaDoorM0
import Derived.WalkKit
import Derived.ProofKit
import Derived.OpenShut
import Derived.BigQuiet
import Derived.Outline
import Derived.WalkSpells
import Derived.WalkLawsBesides
import Derived.Deep.DeepCutAuto
import Derived.Test.YtnbpbidflacoiaaDoorSA
import Derived.Test.YtnbpbidflacoiaaDoorFA
import Derived.Test.YtnbpbidflacoiaaDoorT0
namespace Go.Proofs.YtnbpbidflacoiaaDoor
open Go.ChangeShapes Go.WideShapes Go.ChangeAt Go.RowKit

/-- A drawn text. -/
def DrawnS (n : Nat) (w : World) (B g : Nat) (e : Ending) (w' : World) : Prop := ∃ s : ByteArray, e = .returned (.string s) ∧ s.size ≤ n ∧ Src w' B g ∧ Only w w' g
theorem str_cell {L : List ByteArray} {n : Nat} (h : ∀ s ∈ L, s.size ≤ n) {W : World} {b : Nat} {t : TypeId} (hb : Blk W b t (txC L).toArray) {k : Nat} (hk : k < L.length) : ∃ s : ByteArray, W.cell? ⟨b, k, none⟩ = some (.string s) ∧ s.size ≤ n := by
  refine ⟨L[k], ?_, h _ (List.getElem_mem hk)⟩
  rw [hb.cell]
  simp [txC, hk]
def wordsL : List ByteArray := [⟨#[97, 115, 104]⟩, ⟨#[102, 111, 114, 100]⟩, ⟨#[116, 111, 110]⟩, ⟨#[98, 121]⟩, ⟨#[107, 105, 114, 107]⟩, ⟨#[104, 97, 114]⟩, ⟨#[119, 105, 99, 107]⟩, ⟨#[101, 108, 121]⟩, ⟨#[111, 115]⟩, ⟨#[108, 111]⟩, ⟨#[98, 114, 105, 103]⟩, ⟨#[109, 97]⟩, ⟨#[114, 105]⟩, ⟨#[110, 97]⟩, ⟨#[115, 116]⟩, ⟨#[97, 101]⟩]
end Go.Proofs.YtnbpbidflacoiaaDoor
