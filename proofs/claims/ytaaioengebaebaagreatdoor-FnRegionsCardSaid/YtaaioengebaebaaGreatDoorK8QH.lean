/- PlacesUsed of both. -/
import Derived.Test.YtaaioengebaebaaGreatDoorRows
import Derived.Test.YtaaioengebaebaaGreatDoorK8GA
import Derived.WalkKit
import Derived.ProofKit
import Derived.OpenShut
import Derived.BigQuiet
import Derived.Outline
import Derived.WalkSpells
import Derived.WalkLawsBesides
import Derived.Deep.DeepCutAuto
import Derived.Test.YtaaioengebaebaaGreatDoorK8Q7
import Derived.Lib.Hide
namespace Go.Proofs.YtaaioengebaebaaGreatDoor
open Go.ChangeShapes Go.WideShapes Go.ChangeAt Go.RowKit Go.Sort

def placesD (d : Dsc) : List ByteArray := if d.kind = 3 then [d.a, d.b] else [d.a]
def placesR (d : Dsc) : List ByteArray := if isD d = true then placesD d else []
def placesC (d : Dsc) : Int := if isD d = true then 0 else 1
theorem new_own2 {w : World} {base : Nat} (hb : base ≤ w.heap.size) (a b : ByteArray) : (w.alloc (.cells #[.string a, .string b] 9)).ownsRow base 9 1 (.slice (some ⟨w.heap.size, 0, none⟩) 2 2) 2 (txC [a, b]) :=
  own_blk (Blk.new w 9 (txC [a, b]).toArray) rfl hb (by decide)
theorem new_own1 {w : World} {base : Nat} (hb : base ≤ w.heap.size) (a : ByteArray) : (w.alloc (.cells #[.string a] 9)).ownsRow base 9 1 (.slice (some ⟨w.heap.size, 0, none⟩) 1 1) 1 (txC [a]) :=
  own_blk (Blk.new w 9 (txC [a]).toArray) rfl hb (by decide)
theorem new_own2' (w : World) (o : Obj) (a b : ByteArray) : ((w.alloc o).alloc (.cells #[.string a, .string b] 9)).ownsRow w.heap.size 9 1 (.slice (some ⟨w.heap.size + 1, 0, none⟩) 2 2) 2 (txC [a, b]) := by
  have := new_own2 (w := w.alloc o) (base := w.heap.size) (by simp) a b
  rw [show (w.alloc o).heap.size = w.heap.size + 1 by simp] at this
  exact this
theorem new_own1' (w : World) (o : Obj) (a : ByteArray) : ((w.alloc o).alloc (.cells #[.string a] 9)).ownsRow w.heap.size 9 1 (.slice (some ⟨w.heap.size + 1, 0, none⟩) 1 1) 1 (txC [a]) := by
  have := new_own1 (w := w.alloc o) (base := w.heap.size) (by simp) a
  rw [show (w.alloc o).heap.size = w.heap.size + 1 by simp] at this
  exact this
set_option maxRecDepth 100000 in
theorem places_any (d : Dsc) (w : World) :
    Calls Tryz.prog 84 #[d.val] w fun e w' => ∃ v, e = .returned v ∧ w'.ownsRow w.heap.size 9 1 v (placesD d).length (txC (placesD d)) ∧ Below w.heap.size w w' := by
  obtain ⟨kind, count, unit, dir, a, b⟩ := d
  unfold Dsc.val placesD
  dsimp only
  by_cases hk : kind = 3
  · rw [if_pos hk]
    subst hk
    go_enter Tryz.func84, Tryz.ntmps84
    go_wp2_with fail
    go_ret
    refine ⟨_, rfl, new_own2' _ _ _ _, by (repeat (first | exact Below.refl _ _ | assumption | refine Below.drew ?_ | refine below_drewN' ?_ _ | refine Below.alloc ?_ (by (try simp); (try omega)) _ | refine Below.setCell ?_ (by (try simp); (try omega)) _))⟩
  · rw [if_neg hk]
    have q : (kind == 3) = false := by simpa using hk
    clear hk
    go_enter Tryz.func84, Tryz.ntmps84
    go_wp2_with fail
    go_ret
    refine ⟨_, rfl, new_own1' _ _ _, by (repeat (first | exact Below.refl _ _ | assumption | refine Below.drew ?_ | refine below_drewN' ?_ _ | refine Below.alloc ?_ (by (try simp); (try omega)) _ | refine Below.setCell ?_ (by (try simp); (try omega)) _))⟩
end Go.Proofs.YtaaioengebaebaaGreatDoor
