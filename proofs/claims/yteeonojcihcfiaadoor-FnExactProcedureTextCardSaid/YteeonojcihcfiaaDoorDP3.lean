/- The law of ProcedureText returns true for every list: the walk of the law. -/
import Derived.Test.YteeonojcihcfiaaDoorRows
import Derived.Test.YteeonojcihcfiaaDoorL0
import Derived.Test.YteeonojcihcfiaaDoorM0
import Derived.WalkKit
import Derived.ProofKit
import Derived.OpenShut
import Derived.BigQuiet
import Derived.Outline
import Derived.WalkSpells
import Derived.WalkLawsBesides
import Derived.Deep.DeepCutAuto
import Derived.Test.YteeonojcihcfiaaDoorDP2
namespace Go.Proofs.YteeonojcihcfiaaDoor
open Go.ChangeShapes Go.WideShapes Go.ChangeAt Go.RowKit

theorem lawPT_big (A : Option Addr) (n c : Nat) (w : World) (h : 1048576 < n) (hn : n ≤ 9223372036854775807) :
    Calls Tryd.prog 3 #[.slice A n c] w fun e w' => e = .returned (.bool true) ∧ Below w.heap.size w w' := by
  go_enter Tryd.func3, Tryd.ntmps3
  go_wp2_with fail
  refine (sz_big _ _ _ hn h _).mono ?_; rintro e w' ⟨rfl, rfl⟩
  go_wp2_with fail
  go_ret
  exact ⟨rfl, Below.refl _ _⟩
theorem lawPT_small (xs : List Stp) (A : Option Addr) (c : Nat) (w : World) (hr : Reads w w.heap.size 2 A xs.length (stC xs)) (hm : xs.length ≤ 1048576) (ht : Tab w) :
    Calls Tryd.prog 3 #[.slice A xs.length c] w fun e w' => e = .returned (.bool true) ∧ Below w.heap.size w w' := by
  obtain ⟨va, vc, hac⟩ : ∃ a c, Value.tuple #[.string (ptV xs).1, .int .i64 (ptV xs).2] = Value.tuple #[.string a, .int .i64 c] := ⟨_, _, rfl⟩
  have R : ∀ W, Below w.heap.size w W → Reads W W.heap.size 2 A xs.length (stC xs) := fun W hb => (hr.below hb).more hb.size
  have HR := Lib.hid R; clear R hr
  have hm' : xs.length ≤ 9223372036854775807 := by omega
  have HTb := Lib.hid ht; clear ht
  have S : ∀ A c w, Reads w w.heap.size 2 A xs.length (stC xs) → Calls Tryd.prog 7 #[.slice A xs.length c] w fun e w' => e = .returned (.tuple #[.string va, .int .i64 vc]) ∧ Below w.heap.size w w' := fun A c w hr => by rw [← hac]; exact specPT_any xs hm' A c w hr
  have I : ∀ A c w, Reads w w.heap.size 2 A xs.length (stC xs) → Tab w → Calls Tryd.prog 9 #[.slice A xs.length c] w fun e w' => e = .returned (.tuple #[.string va, .int .i64 vc]) ∧ Below w.heap.size w w' := fun A c w hr hT => by rw [← hac]; exact implPT_any xs hm' A c w hr hT
  have HS := Lib.hid S; have HI := Lib.hid I; clear S I hac
  go_enter Tryd.func3, Tryd.ntmps3
  go_wp2_with fail
  refine (sz_small _ _ _ hm _).mono ?_; rintro e w' ⟨rfl, rfl⟩
  go_wp2_with fail
  refine (toStepS_any xs A c w (HR.out _ (Below.refl _ _)) hm).mono ?_; rintro e w1 ⟨rfl, h1, b1⟩
  have R1 := Lib.hid (h1.reads (stC_len xs)); have B1 := Lib.hid b1; clear h1 b1
  go_wp2_with fail
  refine (HS.out _ _ w1 R1.out).mono ?_; rintro e w2 ⟨rfl, b2⟩
  have B2 := Lib.hid (B1.out.trans (b2.mono B1.out.size)); clear b2
  go_wp2_with fail
  refine (toStepS_any xs A c w2 (HR.out _ B2.out) hm).mono ?_; rintro e w3 ⟨rfl, h3, b3⟩
  have R3 := Lib.hid (h3.reads (stC_len xs)); have B3 := Lib.hid (B2.out.trans (b3.mono B2.out.size)); clear h3 b3
  go_wp2_with fail
  refine (HI.out _ _ w3 R3.out (HTb.out.below B3.out)).mono ?_; rintro e w4 ⟨rfl, b4⟩
  have R4 := Lib.hid ((R3.out.below b4).more b4.size); have B4 := Lib.hid (B3.out.trans (b4.mono B3.out.size)); clear b4
  go_wp2_with fail
  refine (toStepS_any xs A c w4 (HR.out _ B4.out) hm).mono ?_; rintro e w5 ⟨rfl, h5, b5⟩
  have R5 := Lib.hid (h5.reads (stC_len xs)); have R5' := Lib.hid ((R4.out.below b5).more b5.size); have B5 := Lib.hid (B4.out.trans (b5.mono B4.out.size)); clear h5 b5
  go_wp2_with fail
  refine (eqStepS_any xs xs _ _ _ _ w5 R5'.out R5.out hm').mono ?_; rw [decide_eq_true rfl]; rintro e w6 ⟨rfl, b6⟩
  go_wp2_with fail
  go_ret
  exact ⟨rfl, B5.out.trans (b6.mono B5.out.size)⟩
end Go.Proofs.YteeonojcihcfiaaDoor
