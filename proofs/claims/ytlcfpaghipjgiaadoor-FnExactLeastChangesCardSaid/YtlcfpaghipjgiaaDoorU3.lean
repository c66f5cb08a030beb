/- The program's LeastChanges: its closure. -/
import Derived.Test.YtlcfpaghipjgiaaDoorRows
import Derived.Test.YtlcfpaghipjgiaaDoorL0
import Derived.Test.YtlcfpaghipjgiaaDoorM0
import Derived.WalkKit
import Derived.ProofKit
import Derived.OpenShut
import Derived.BigQuiet
import Derived.Outline
import Derived.WalkSpells
import Derived.WalkLawsBesides
import Derived.Deep.DeepCutAuto
import Derived.Test.YtlcfpaghipjgiaaDoorU2
import Derived.Lib.QuietBelow
import Derived.Deep.QuietTactic
namespace Go.Proofs.YtlcfpaghipjgiaaDoor
open Go.ChangeShapes Go.WideShapes Go.ChangeAt Go.RowKit

/-- What the closure works on: five variables, its own ballots, and the list. -/
structure LSt (B : Nat) (tK : TypeId) (xs : List Bal) (rule : Int) (A : Option Addr) (c : Nat) (L O R M K : Nat) (OV : Option Addr) (cap : Nat) (w : World) (l : Int) (ys : List Bal) : Prop where
  bL : Blk w L 25 #[.slice A xs.length c]
  bO : Blk w O 25 #[.slice OV xs.length cap]
  bR : Blk w R 2 #[.int .i64 rule]
  bM : Blk w M 2 #[.int .i64 l]
  bK : Blk w K tK #[.func (.func 60) #[] #[.pointer (some ⟨L, 0, none⟩), .pointer (some ⟨O, 0, none⟩), .pointer (some ⟨R, 0, none⟩), .pointer (some ⟨M, 0, none⟩), .pointer (some ⟨K, 0, none⟩)]]
  own : w.ownsRow B 49 3 (.slice OV xs.length cap) xs.length (baC ys)
  len : ys.length = xs.length
  rd : Reads w B 3 A xs.length (baC xs)
  hB : B ≤ w.heap.size
  hM : B ≤ M
  dM : M ≠ L ∧ M ≠ O ∧ M ≠ R ∧ M ≠ K
  dg : ∀ k, (Value.slice OV xs.length cap).ownBlock = some k → k ≠ L ∧ k ≠ O ∧ k ≠ R ∧ k ≠ M ∧ k ≠ K
section
variable {B : Nat} {tK : TypeId} {xs ys : List Bal} {rule l : Int} {A OV : Option Addr} {c L O R M K cap : Nat} {w w' : World}
theorem LSt.below (h : LSt B tK xs rule A c L O R M K OV cap w l ys) (hb : Below w.heap.size w w') : LSt B tK xs rule A c L O R M K OV cap w' l ys :=
  ⟨h.bL.below hb h.bL.lt, h.bO.below hb h.bO.lt, h.bR.below hb h.bR.lt, h.bM.below hb h.bM.lt, h.bK.below hb h.bK.lt, own_below h.own hb, h.len, (h.rd.below (hb.mono h.hB)), Nat.le_trans h.hB hb.size, h.hM, h.dM, h.dg⟩
theorem LSt.least (h : LSt B tK xs rule A c L O R M K OV cap w l ys) (l' : Int) : LSt B tK xs rule A c L O R M K OV cap (w.setCell ⟨M, 0, none⟩ (.int .i64 l')) l' ys := by
  obtain ⟨d1, d2, d3, d4⟩ := h.dM
  refine ⟨h.bL.far (p := ⟨M, 0, none⟩) (fun e => d1 e.symm) _, h.bO.far (p := ⟨M, 0, none⟩) (fun e => d2 e.symm) _, h.bR.far (p := ⟨M, 0, none⟩) (fun e => d3 e.symm) _, ?_, h.bK.far (p := ⟨M, 0, none⟩) (fun e => d4 e.symm) _, ?_, h.len, h.rd.setCell (p := ⟨M, 0, none⟩) h.hM _, by simpa using h.hB, h.hM, h.dM, h.dg⟩
  · simpa using h.bM.set_ 0 (.int .i64 l')
  · refine h.own.kept (row := some M) ⟨rfl, rfl, rfl, by simp, fun i _ hne => ?_⟩ (.inr (fun e => (h.dg M e).2.2.2.1 rfl))
    exact Below.heap_setCell w ⟨M, 0, none⟩ _ i (fun e => hne (by rw [e]))
theorem LSt.put {g : Nat} (h : LSt B tK xs rule A c L O R M K (some ⟨g, 0, none⟩) cap w l ys) (hg : B ≤ g) (i : Nat) (hi : i < xs.length) (ch : Int) : LSt B tK xs rule A c L O R M K (some ⟨g, 0, none⟩) cap (w.setCell ⟨g, i * 3 + 1, none⟩ (.int .i64 ch)) l (withB ys i ch) := by
  obtain ⟨d1, d2, d3, d4, d5⟩ := h.dg g rfl
  have s := (h.own.stored (i * 3 + 1) (.int .i64 ch)).1
  rw [← baC_with ys i ch (by rw [h.len]; exact hi)] at s
  exact ⟨h.bL.far (p := ⟨g, _, none⟩) (fun e => d1 e.symm) _, h.bO.far (p := ⟨g, _, none⟩) (fun e => d2 e.symm) _, h.bR.far (p := ⟨g, _, none⟩) (fun e => d3 e.symm) _, h.bM.far (p := ⟨g, _, none⟩) (fun e => d4 e.symm) _, h.bK.far (p := ⟨g, _, none⟩) (fun e => d5 e.symm) _, s, by rw [withB_len]; exact h.len, h.rd.setCell (p := ⟨g, _, none⟩) hg _, by simpa using h.hB, h.hM, h.dM, h.dg⟩
end
theorem LeastOf.congr {l : Int} {D E : Int → Prop} (h : LeastOf l D) (he : ∀ c, D c ↔ E c) : LeastOf l E := by
  rcases h with ⟨rfl, h⟩ | ⟨h0, h1, h2⟩
  · exact .inl ⟨rfl, fun c hc => h c ((he c).2 hc)⟩
  · exact .inr ⟨h0, (he _).1 h1, fun c hc => h2 c ((he c).2 hc)⟩
theorem LeastOf.take {l k : Int} {D : Int → Prop} (h : LeastOf l D) (hk : 0 ≤ k) (hc : l < 0 ∨ k < l) : LeastOf k (fun c => D c ∨ c = k) := by
  rcases h with ⟨rfl, h⟩ | ⟨h0, h1, h2⟩
  · exact .inr ⟨hk, .inr rfl, fun c hc => by rcases hc with hc | rfl; exact absurd hc (h c); exact Int.le_refl _⟩
  · exact .inr ⟨hk, .inr rfl, fun c hc => by rcases hc with hc | rfl; (have := h2 c hc; omega); exact Int.le_refl _⟩
theorem LeastOf.leave {l k : Int} {D : Int → Prop} (h : LeastOf l D) (hc : ¬ (l < 0 ∨ k < l)) : LeastOf l (fun c => D c ∨ c = k) := by
  rcases h with ⟨rfl, h⟩ | ⟨h0, h1, h2⟩
  · omega
  · exact .inr ⟨h0, .inl h1, fun c hc => by rcases hc with hc | rfl; exact h2 c hc; omega⟩
end Go.Proofs.YtlcfpaghipjgiaaDoor
