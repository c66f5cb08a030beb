/- FnExactIsProcedure returns true for every list: the walk of the law. -/
import Derived.Test.YteffnidkkeeaiaaRows
import Derived.Test.YteffnidkkeeaiaaL0
import Derived.Test.YteffnidkkeeaiaaM0
import Derived.WalkKit
import Derived.ProofKit
import Derived.OpenShut
import Derived.BigQuiet
import Derived.Outline
import Derived.WalkSpells
import Derived.WalkLawsBesides
import Derived.Deep.DeepCutAuto
import Derived.Test.YteffnidkkeeaiaaP1
import Derived.Test.YteffnidkkeeaiaaC1
import Derived.Test.YteffnidkkeeaiaaC2
import Derived.Test.YteffnidkkeeaiaaB5
import Derived.Lib.Hide
namespace Go.Proofs.Yteffnidkkeeaiaa
open Go.ChangeShapes Go.WideShapes Go.ChangeAt Go.RowKit

theorem Blk.reads {w : World} {g : Nat} {t : TypeId} {size n : Nat} {L : List Value} (h : Blk w g t L.toArray) (hl : L.length = n * size) : Reads w w.heap.size size (some ⟨g, 0, none⟩) n L :=
  ⟨hl, fun _ => ⟨g, 0, rfl, h.lt, fun j u hu => by rw [Nat.zero_add, h.cell]; simpa using hu⟩⟩

theorem implIs_law (xs : List Stp) (A : Option Addr) (c : Nat) (w : World) (hr : Reads w w.heap.size 2 A xs.length (stC xs)) (hm : xs.length ≤ 9223372036854775807) :
    Calls Try.prog 22 #[.slice A xs.length c] w fun e w' => e = .returned (.bool (isProc xs)) ∧ Below w.heap.size w w' := by
  rw [← isSome_law]; exact implIs_any xs A c w hr hm

theorem lawIs_big (A : Option Addr) (n c : Nat) (w : World) (h : 1048576 < n) (hn : n ≤ 9223372036854775807) :
    Calls Try.prog 4 #[.slice A n c] w fun e w' => e = .returned (.bool true) ∧ Below w.heap.size w w' := by
  go_enter Try.func4, Try.ntmps4
  go_wp2_with fail
  refine (sz_big _ _ _ hn h _).mono ?_; rintro e w' ⟨rfl, rfl⟩
  go_wp2_with fail
  go_ret
  exact ⟨rfl, Below.refl _ _⟩

theorem lawIs_small (xs : List Stp) (A : Option Addr) (c : Nat) (w : World) (hr : Reads w w.heap.size 2 A xs.length (stC xs)) (hm : xs.length ≤ 1048576) :
    Calls Try.prog 4 #[.slice A xs.length c] w fun e w' => e = .returned (.bool true) ∧ Below w.heap.size w w' := by
  have R : ∀ W, Below w.heap.size w W → Reads W W.heap.size 2 A xs.length (stC xs) := fun W hb => (hr.below hb).more hb.size
  have HR := Lib.hid R; clear R hr
  have hm' : xs.length ≤ 9223372036854775807 := by omega
  go_enter Try.func4, Try.ntmps4
  go_wp2_with fail
  refine (sz_small _ _ _ hm _).mono ?_; rintro e w' ⟨rfl, rfl⟩
  go_wp2_with fail
  refine (toStepS_any xs A c w (HR.out _ (Below.refl _ _)) hm).mono ?_; rintro e w1 ⟨rfl, h1, b1⟩
  have R1 := Lib.hid (h1.reads (stC_len xs)); have B1 := Lib.hid b1; clear h1 b1
  go_wp2_with fail
  refine (specIs_any xs _ _ w1 R1.out hm').mono ?_; rintro e w2 ⟨rfl, b2⟩
  have B2 := Lib.hid (B1.out.trans (b2.mono B1.out.size)); clear b2
  go_wp2_with fail
  refine (toStepS_any xs A c w2 (HR.out _ B2.out) hm).mono ?_; rintro e w3 ⟨rfl, h3, b3⟩
  have R3 := Lib.hid (h3.reads (stC_len xs)); have B3 := Lib.hid (B2.out.trans (b3.mono B2.out.size)); clear h3 b3
  go_wp2_with fail
  refine (implIs_law xs _ _ w3 R3.out hm').mono ?_; rintro e w4 ⟨rfl, b4⟩
  have R4 := Lib.hid ((R3.out.below b4).more b4.size); have B4 := Lib.hid (B3.out.trans (b4.mono B3.out.size)); clear b4
  go_wp2_with fail
  refine (toStepS_any xs A c w4 (HR.out _ B4.out) hm).mono ?_; rintro e w5 ⟨rfl, h5, b5⟩
  have R5 := Lib.hid (h5.reads (stC_len xs)); have R5' := Lib.hid ((R4.out.below b5).more b5.size); have B5 := Lib.hid (B4.out.trans (b5.mono B4.out.size)); clear h5 b5
  go_wp2_with fail
  refine (eqStepS_any xs xs _ _ _ _ w5 R5'.out R5.out hm').mono ?_; rw [decide_eq_true rfl]; rintro e w6 ⟨rfl, b6⟩
  go_wp2_with fail
  go_ret
  exact ⟨rfl, B5.out.trans (b6.mono B5.out.size)⟩
end Go.Proofs.Yteffnidkkeeaiaa
