/- The drawn arguments of InLeagues. -/
import Derived.Test.YtnbpbidflacoiaaDoorRows
import Derived.Test.YtnbpbidflacoiaaDoorL0
import Derived.Test.YtnbpbidflacoiaaDoorM0
import Derived.WalkKit
import Derived.ProofKit
import Derived.OpenShut
import Derived.BigQuiet
import Derived.Outline
import Derived.WalkSpells
import Derived.WalkLawsBesides
import Derived.Deep.DeepCutAuto
import Derived.Test.YtnbpbidflacoiaaDoorZ2
import Derived.Test.YtnbpbidflacoiaaDoorSC
namespace Go.Proofs.YtnbpbidflacoiaaDoor
open Go.ChangeShapes Go.WideShapes Go.ChangeAt Go.RowKit

set_option maxRecDepth 100000 in
set_option maxHeartbeats 1000000 in
theorem drawLg_any (A : Option Addr) (n c : Nat) (w : World) (h : Code8 w A n) :
    Calls Tryd.prog 12 #[.slice A n c] w fun e w' => ∃ d : Dsc, e = .returned d.val ∧ d.Ok ∧ Below w.heap.size w w' := by
  have H := Lib.hid h; clear h
  have KN := Lib.hid (blks_one w 25 #[.int .i64 0, .int .i64 0, .string ⟨#[]⟩, .int .i64 0, .string ⟨#[]⟩, .string ⟨#[]⟩])
  go_enter Tryd.func12, Tryd.ntmps12
  go_wp2_with fail
  generalize hW : w.alloc (.cells #[.int .i64 0, .int .i64 0, .string ⟨#[]⟩, .int .i64 0, .string ⟨#[]⟩, .string ⟨#[]⟩] 25) = W
  obtain ⟨b0, bw, hwz⟩ := KN.out W hW.symm
  clear hW
  refine (from_code A n c W (H.out.below bw)).mono ?_
  rintro e w1 ⟨g, rfl, hs1, b1⟩
  have hz1 := b1.size
  have R1 := b0.below b1 b0.lt
  have O1 := Lib.hid (bw.trans (b1.mono bw.size))
  have gb := hs1.base
  have HS1 := Lib.hid hs1
  clear bw b1 b0 hs1
  go_wp2_with fail
  refine (drawD_any W.heap.size g w1 HS1.out hz1).mono ?_
  rintro e w2 ⟨⟨kd, ct, un, dr, a, b⟩, rfl, ok, hs2, ho2⟩
  unfold Dsc.val
  dsimp only
  have R2 := R1.grown ho2 (by intro e; injection e with e; omega)
  have O2 := Lib.hid (O1.out.trans ((only_below ho2 gb hz1).mono (by omega)))
  obtain ⟨g0, g1, g2, g3, g4, g5, g6, g7, g8, g9, g10, g11, g12, g13, g14, g15, g16, g17⟩ := six_facts R2
  clear R1 R2 ho2 hs2
  go_wp2_with fail
  exact bodyPost_ret (v := .agg #[.int .i64 kd, .int .i64 ct, .string un, .int .i64 dr, .string a, .string b]) (by simp [results, Tryd.results12, go_sem, g12, g13, g14, g15, g16, g17]) rfl ⟨⟨kd, ct, un, dr, a, b⟩, rfl, ok, (((((O2.out.setCell (Nat.le_refl _) _).setCell (Nat.le_refl _) _).setCell (Nat.le_refl _) _).setCell (Nat.le_refl _) _).setCell (Nat.le_refl _) _).setCell (Nat.le_refl _) _⟩
end Go.Proofs.YtnbpbidflacoiaaDoor
