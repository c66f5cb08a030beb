/- Drawn regions in which one new box gets a mask whose cells lie in a row of its own: what their operations leave. -/
import Derived.Test.YtaaioengebaebaaGreatDoorRows
import Derived.Test.YtaaioengebaebaaGreatDoorK9GA
import Derived.WalkKit
import Derived.ProofKit
import Derived.OpenShut
import Derived.BigQuiet
import Derived.Outline
import Derived.WalkSpells
import Derived.WalkLawsBesides
import Derived.Deep.DeepCutAuto
import Derived.Test.YtaaioengebaebaaGreatDoorK9GB
import Derived.Test.YtaaioengebaebaaGreatDoorK9RN7
import Derived.Test.YtaaioengebaebaaGreatDoorK9RN6
namespace Go.Proofs.YtaaioengebaebaaGreatDoor
open Go.ChangeShapes Go.WideShapes Go.ChangeAt Go.RowKit

/-- One block of type t gets a mask whose cells lie in a row of its own. -/
def StoreO (W : World) (t u : TypeId) (rx ry rW rH : Int) (n : Nat) (cs : List Value) (w w' : World) : Prop := ∃ b ds v, Blk w b t ds ∧ Blk w' b t #[.int .i64 rx, .int .i64 ry, .int .i64 rW, .int .i64 rH, v] ∧ w'.ownsRow W.heap.size u 1 v n cs ∧ w'.heap.size = w.heap.size ∧ ∀ r q es, r ≠ b → Blk w r q es → Blk w' r q es
def KeepO (W : World) (t u : TypeId) (rx ry rW rH : Int) (n : Nat) (cs : List Value) : World → World → Prop := fun w w' => KeepW w w' ∨ StoreO W t u rx ry rW rH n cs w w'
theorem own_blks {w w' : World} {base n : Nat} {u : TypeId} {v : Value} {cs : List Value} (h : w.ownsRow base u 1 v n cs) (hk : ∀ g es, Blk w g u es → Blk w' g u es) : w'.ownsRow base u 1 v n cs := by
  rcases h.2 with h1 | ⟨g, cap, cur, e, hb, hc, hr⟩
  · exact ⟨h.1, .inl h1⟩
  · exact ⟨h.1, .inr ⟨g, cap, cur, e, hb, hk g cur hc, hr⟩⟩
section
variable {W : World} {t u : TypeId} {rx ry rW rH : Int} {n : Nat} {cs : List Value}
theorem keepO_own (hu : u ≠ t) {w w' : World} {base m : Nat} {v : Value} {es : List Value} (h : KeepO W t u rx ry rW rH n cs w w') (o : w.ownsRow base u 1 v m es) : w'.ownsRow base u 1 v m es := by
  rcases h with h | ⟨b, ds, v', h1, _, _, _, h4⟩
  · exact own_below o h
  · exact own_blks o (fun g es hk => h4 g u es (fun e => by subst e; exact hu (blk_tag hk h1)) hk)
theorem keepO_V (a : Value) : StableS (KeepO W t u rx ry rW rH n cs) (isV a) := fun _ _ _ _ h => h
theorem keepO_rowL {q : TypeId} (hq : q ≠ t) (m : Nat) (es : List Value) : StableS (KeepO W t u rx ry rW rH n cs) (isRowL W q m es) := by
  rintro w w' v h ⟨b, e, hb, hk⟩
  rcases h with h | ⟨b', ds, v', h1, _, _, _, h4⟩
  · exact ⟨b, e, hb, hk.below h hk.lt⟩
  · exact ⟨b, e, hb, h4 b q _ (fun e => by subst e; exact hq (blk_tag hk h1)) hk⟩
theorem keepO_maskL (x y X H : Int) {q : TypeId} (hq : q ≠ t) (m : Nat) (es : List Value) : StableS (KeepO W t u rx ry rW rH n cs) (isMaskL x y X H q m es) := by
  rintro w w' v h ⟨b, e, hk⟩
  rcases h with h | ⟨b', ds, v', h1, _, _, _, h4⟩
  · exact ⟨b, e, hk.below h hk.lt⟩
  · exact ⟨b, e, h4 b q _ (fun e => by subst e; exact hq (blk_tag hk h1)) hk⟩
theorem keepO_box : StableS (KeepO W t u rx ry rW rH n cs) (isBoxS W t 5) := by
  rintro w w' v h ⟨b, es, e, hb, hn, hk⟩
  rcases h with h | ⟨b', ds, v', h1, h2, _, _, h4⟩
  · exact ⟨b, es, e, hb, hn, hk.below h hk.lt⟩
  · by_cases he : b = b'
    · subst he; exact ⟨b, _, e, hb, rfl, h2⟩
    · exact ⟨b, es, e, hb, hn, h4 b t _ he hk⟩
/-- A mask whose cells lie in a row of its own. -/
def isRegA (W : World) (u : TypeId) (rx ry rW rH : Int) (n : Nat) (cs : List Value) : Value → World → Prop := fun a w => ∃ v, a = .agg #[.int .i64 rx, .int .i64 ry, .int .i64 rW, .int .i64 rH, v] ∧ w.ownsRow W.heap.size u 1 v n cs
def isRegT (W : World) (u : TypeId) (rx ry rW rH rc : Int) (n : Nat) (cs : List Value) : Value → World → Prop := fun a w => ∃ v, a = .tuple #[.agg #[.int .i64 rx, .int .i64 ry, .int .i64 rW, .int .i64 rH, v], .int .i64 rc] ∧ w.ownsRow W.heap.size u 1 v n cs
theorem keepO_regA (hu : u ≠ t) : StableS (KeepO W t u rx ry rW rH n cs) (isRegA W u rx ry rW rH n cs) := fun _ _ _ h ⟨v, e, o⟩ => ⟨v, e, keepO_own hu h o⟩
theorem keepO_regT (hu : u ≠ t) (rc : Int) : StableS (KeepO W t u rx ry rW rH n cs) (isRegT W u rx ry rW rH rc n cs) := fun _ _ _ h ⟨v, e, o⟩ => ⟨v, e, keepO_own hu h o⟩
/-- The box of slot j holds such a mask. -/
def storedO (W : World) (j : Nat) (t u : TypeId) (rx ry rW rH : Int) (n : Nat) (cs : List Value) : (Nat → Value) → World → Prop := fun f w => ∃ b v, f j = .pointer (some ⟨b, 0, none⟩) ∧ W.heap.size ≤ b ∧ Blk w b t #[.int .i64 rx, .int .i64 ry, .int .i64 rW, .int .i64 rH, v] ∧ w.ownsRow W.heap.size u 1 v n cs
theorem keepO_stored (hu : u ≠ t) (j : Nat) : StableD (KeepO W t u rx ry rW rH n cs) (storedO W j t u rx ry rW rH n cs) := by
  rintro w w' f h ⟨b, v, e, hb, hk, o⟩
  have o' := keepO_own hu h o
  rcases h with h | ⟨b', ds, v', h1, h2, o2, _, h4⟩
  · exact ⟨b, v, e, hb, hk.below h hk.lt, o'⟩
  · by_cases he : b = b'
    · subst he; exact ⟨b, v', e, hb, h2, o2⟩
    · exact ⟨b, v, e, hb, h4 b t _ he hk, o'⟩
theorem storedO_local {o : Oper} {i j : Nat} (hw : waits o j = true) : LocalD o i (storedO W j t u rx ry rW rH n cs) := fun f g w _ h ⟨b, v, e, r⟩ => ⟨b, v, by rw [← h j hw]; exact e, r⟩
theorem storeO_5 (hu : u ≠ t) {w : World} {b : Nat} {z0 z1 z2 z3 z4 v : Value} (h : Blk w b t #[z0, z1, z2, z3, z4]) (o : w.ownsRow W.heap.size u 1 v n cs) :
    StoreO W t u rx ry rW rH n cs w (((((w.setCell ⟨b, 0, none⟩ (.int .i64 rx)).setCell ⟨b, 1, none⟩ (.int .i64 ry)).setCell ⟨b, 2, none⟩ (.int .i64 rW)).setCell ⟨b, 3, none⟩ (.int .i64 rH)).setCell ⟨b, 4, none⟩ v) := by
  have hk : ∀ r q es, r ≠ b → Blk w r q es → Blk (((((w.setCell ⟨b, 0, none⟩ (.int .i64 rx)).setCell ⟨b, 1, none⟩ (.int .i64 ry)).setCell ⟨b, 2, none⟩ (.int .i64 rW)).setCell ⟨b, 3, none⟩ (.int .i64 rH)).setCell ⟨b, 4, none⟩ v) r q es := fun r q es hr hk => blk_far5 hk hr _ _ _ _ _
  refine ⟨b, _, v, h, ?_, own_blks o (fun g es hg => hk g u es (fun e => by subst e; exact hu (blk_tag hg h)) hg), by simp [World.setCell], hk⟩
  have b1 : Blk (w.setCell ⟨b, 0, none⟩ (.int .i64 rx)) b t #[.int .i64 rx, z1, z2, z3, z4] := by simpa using h.set_ 0 (.int .i64 rx)
  have b2 : Blk ((w.setCell ⟨b, 0, none⟩ (.int .i64 rx)).setCell ⟨b, 1, none⟩ (.int .i64 ry)) b t #[.int .i64 rx, .int .i64 ry, z2, z3, z4] := by simpa using b1.set_ 1 (.int .i64 ry)
  have b3 : Blk (((w.setCell ⟨b, 0, none⟩ (.int .i64 rx)).setCell ⟨b, 1, none⟩ (.int .i64 ry)).setCell ⟨b, 2, none⟩ (.int .i64 rW)) b t #[.int .i64 rx, .int .i64 ry, .int .i64 rW, z3, z4] := by simpa using b2.set_ 2 (.int .i64 rW)
  have b4 : Blk ((((w.setCell ⟨b, 0, none⟩ (.int .i64 rx)).setCell ⟨b, 1, none⟩ (.int .i64 ry)).setCell ⟨b, 2, none⟩ (.int .i64 rW)).setCell ⟨b, 3, none⟩ (.int .i64 rH)) b t #[.int .i64 rx, .int .i64 ry, .int .i64 rW, .int .i64 rH, z4] := by simpa using b3.set_ 3 (.int .i64 rH)
  simpa using b4.set_ 4 v
end
theorem arr_5 {cs : Array Value} (h : cs.size = 5) : ∃ z0 z1 z2 z3 z4, cs = #[z0, z1, z2, z3, z4] := by
  obtain ⟨l⟩ := cs
  match l, h with
  | [a, b, c, d, e], _ => exact ⟨a, b, c, d, e, rfl⟩
end Go.Proofs.YtaaioengebaebaaGreatDoor
