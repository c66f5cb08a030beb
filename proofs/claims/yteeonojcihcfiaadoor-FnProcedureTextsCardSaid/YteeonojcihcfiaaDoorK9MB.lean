/- Blocks of copies: as slices that read and as slices owned. -/
import Derived.Test.YteeonojcihcfiaaDoorK9GA
namespace Go.Proofs.YteeonojcihcfiaaDoor
open Go Go.RowKit
theorem blk_rd {w : World} {g : Nat} {t : TypeId} {size n : Nat} {L : List Value} (h : Blk w g t L.toArray) (hl : L.length = n * size) : Reads w w.heap.size size (some ⟨g, 0, none⟩) n L :=
  ⟨hl, fun _ => ⟨g, 0, rfl, h.lt, fun j u hu => by rw [Nat.zero_add, h.cell]; simpa using hu⟩⟩
theorem blk_own {w : World} {g : Nat} {t : TypeId} {size n base : Nat} {L : List Value} (h : Blk w g t L.toArray) (hl : L.length = n * size) (hb : base ≤ g) (hn : n ≤ maxLen) : w.ownsRow base t size (.slice (some ⟨g, 0, none⟩) n n) n L :=
  ⟨hl, .inr ⟨g, n, L.toArray, rfl, hb, h, Nat.le_refl _, hn, by simpa using hl, by simp [← hl]⟩⟩
theorem own_far {a b : Value} {m : Nat} (h1 : ∀ k, a.ownBlock = some k → k < m) (h2 : ∀ k, b.ownBlock = some k → m ≤ k) : a.ownBlock = none ∨ a.ownBlock ≠ b.ownBlock := by
  cases ha : a.ownBlock with
  | none => exact .inl rfl
  | some k => exact .inr (fun h => by have := h1 k ha; have := h2 k h.symm; omega)
end Go.Proofs.YteeonojcihcfiaaDoor
