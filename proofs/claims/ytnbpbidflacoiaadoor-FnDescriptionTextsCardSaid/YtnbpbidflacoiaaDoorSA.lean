/- Draws: l01Pick. -/
import Derived.Test.YtnbpbidflacoiaaDoorRows
import Derived.Test.YtnbpbidflacoiaaDoorL0
import Derived.Test.YtnbpbidflacoiaaDoorM0
import Derived.WalkKit
import Derived.ProofKit
import Derived.OpenShut
import Derived.BigQuiet
import Derived.Outline
import Derived.WalkSpells
import Derived.WalkLawsBesides
import Derived.Deep.DeepCutAuto
import Derived.Test.YtnbpbidflacoiaaDoorS1
import Derived.Deep.LoopGhost
namespace Go.Proofs.YtnbpbidflacoiaaDoor
open Go.ChangeShapes Go.WideShapes Go.ChangeAt Go.RowKit

def iC (xs : List Int) : List Value := xs.map (Value.int .i64)
theorem iC_get (xs : List Int) (k : Nat) (h : k < xs.length) : (iC xs)[k]? = some (.int .i64 xs[k]) := by simp [iC, h]
def Picked (w : World) (B g : Nat) (L : List Int) (e : Ending) (w' : World) : Prop := ∃ x : Int, e = .returned (.int .i64 x) ∧ x ∈ L ∧ Src w' B g ∧ Only w w' g
set_option maxRecDepth 100000 in
theorem pick_any (L : List Int) (b c : Nat) (B g : Nat) (w : World) (hs : Src w B g) (hB : B ≤ w.heap.size) (hL : 0 < L.length) (hl : L.length ≤ 100) (hblk : Blk w b 2 (iC L).toArray) (hne : b ≠ g) :
    Calls Tryd.prog 72 #[.pointer (some ⟨g, 0, none⟩), .slice (some ⟨b, 0, none⟩) L.length c] w (Picked w B g L) := by
  have HS := Lib.hid hs; clear hs
  have HB := Lib.hid hblk; clear hblk
  go_enter Tryd.func72, Tryd.ntmps72
  go_wp2_with fail
  refine (draw_any L.length B g w HS.out hB).mono ?_
  rintro e w1 ⟨x, rfl, h0, h1, h2, hs1, ho⟩
  obtain ⟨k, rfl⟩ : ∃ k : Nat, x = k := ⟨x.toNat, by omega⟩
  have hk : k < L.length := by omega
  have hb1 := HB.out.grown ho (by simpa using hne)
  have c0 := hb1.cell k
  have e0 : (iC L).toArray[k]? = some (.int .i64 L[k]) := by simpa using iC_get L k hk
  rw [e0] at c0
  have HM := Lib.hid (List.getElem_mem hk)
  have HS1 := Lib.hid hs1
  have HO := Lib.hid ho
  clear hb1 e0 hs1 ho h1 h2
  generalize L[k] = x at c0 HM
  go_wp2_with fail
  go_ret
  exact ⟨x, rfl, HM.out, HS1.out, HO.out⟩

theorem own_only {w w' : World} {base : Nat} {e : TypeId} {size n g : Nat} {v : Value} {xs : List Value} (h : w.ownsRow base e size v n xs) (ho : Only w w' g) (hg : g < base) : w'.ownsRow base e size v n xs := by
  refine h.kept ho ?_
  cases hv : v.ownBlock with
  | none => exact .inl rfl
  | some k => exact .inr (fun e => by injection e with e; have := (own_lt h k hv).1; omega)
theorem only_alloc {a w : World} {g : Nat} (h : Only a w g) (o : Obj) : Only a (w.alloc o) g :=
  only_trans h (only_of_below ((Below.refl _ _).alloc (Nat.le_refl _) o))

end Go.Proofs.YtnbpbidflacoiaaDoor
