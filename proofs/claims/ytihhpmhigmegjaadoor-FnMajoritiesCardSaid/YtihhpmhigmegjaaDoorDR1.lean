/- l01Good of the reference: a drawn word. -/
import Derived.Test.YtihhpmhigmegjaaDoorRows
import Derived.Test.YtihhpmhigmegjaaDoorL0
import Derived.Test.YtihhpmhigmegjaaDoorM0
import Derived.WalkKit
import Derived.ProofKit
import Derived.OpenShut
import Derived.BigQuiet
import Derived.Outline
import Derived.WalkSpells
import Derived.WalkLawsBesides
import Derived.Deep.DeepCutAuto
import Derived.Test.YtihhpmhigmegjaaDoorSA
import Derived.Test.YtihhpmhigmegjaaDoorFA
import Derived.Test.YtihhpmhigmegjaaDoorT0
namespace Go.Proofs.YtihhpmhigmegjaaDoor
open Go.ChangeShapes Go.WideShapes Go.ChangeAt Go.RowKit

/-- A drawn text. -/
def DrawnS (n : Nat) (w : World) (B g : Nat) (e : Ending) (w' : World) : Prop := ∃ s : ByteArray, e = .returned (.string s) ∧ s.size ≤ n ∧ Src w' B g ∧ Only w w' g
theorem str_cell {L : List ByteArray} {n : Nat} (h : ∀ s ∈ L, s.size ≤ n) {W : World} {b : Nat} {t : TypeId} (hb : Blk W b t (txC L).toArray) {k : Nat} (hk : k < L.length) : ∃ s : ByteArray, W.cell? ⟨b, k, none⟩ = some (.string s) ∧ s.size ≤ n := by
  refine ⟨L[k], ?_, h _ (List.getElem_mem hk)⟩
  rw [hb.cell]
  simp [txC, hk]
def wordsL : List ByteArray := [⟨#[97, 115, 104]⟩, ⟨#[102, 111, 114, 100]⟩, ⟨#[116, 111, 110]⟩, ⟨#[98, 121]⟩, ⟨#[107, 105, 114, 107]⟩, ⟨#[104, 97, 114]⟩, ⟨#[119, 105, 99, 107]⟩, ⟨#[101, 108, 121]⟩, ⟨#[111, 115]⟩, ⟨#[108, 111]⟩, ⟨#[98, 114, 105, 103]⟩, ⟨#[109, 97]⟩, ⟨#[114, 105]⟩, ⟨#[110, 97]⟩, ⟨#[115, 116]⟩, ⟨#[97, 101]⟩]
set_option maxRecDepth 100000 in
set_option maxHeartbeats 1000000 in
theorem good_any (B g : Nat) (w : World) (hs : Src w B g) (hB : B ≤ w.heap.size) :
    Calls Tryd.prog 68 #[.pointer (some ⟨g, 0, none⟩)] w (DrawnS 300 w B g) := by
  have hgl := hs.lt
  have HS := Lib.hid hs; clear hs
  have KN := Lib.hid (blks_one w 9 (txC wordsL).toArray)
  have HL := Lib.hid (show ∀ s ∈ wordsL, s.size ≤ 100 by decide)
  have HLl := Lib.hid (show wordsL.length = 16 from rfl)
  rw [show (txC wordsL).toArray = #[.string ⟨#[97, 115, 104]⟩, .string ⟨#[102, 111, 114, 100]⟩, .string ⟨#[116, 111, 110]⟩, .string ⟨#[98, 121]⟩, .string ⟨#[107, 105, 114, 107]⟩, .string ⟨#[104, 97, 114]⟩, .string ⟨#[119, 105, 99, 107]⟩, .string ⟨#[101, 108, 121]⟩, .string ⟨#[111, 115]⟩, .string ⟨#[108, 111]⟩, .string ⟨#[98, 114, 105, 103]⟩, .string ⟨#[109, 97]⟩, .string ⟨#[114, 105]⟩, .string ⟨#[110, 97]⟩, .string ⟨#[115, 116]⟩, .string ⟨#[97, 101]⟩] from rfl] at KN
  go_enter Tryd.func68, Tryd.ntmps68
  go_upto_region 3 with (fail)
  generalize hW : w.alloc (.cells #[.string ⟨#[97, 115, 104]⟩, .string ⟨#[102, 111, 114, 100]⟩, .string ⟨#[116, 111, 110]⟩, .string ⟨#[98, 121]⟩, .string ⟨#[107, 105, 114, 107]⟩, .string ⟨#[104, 97, 114]⟩, .string ⟨#[119, 105, 99, 107]⟩, .string ⟨#[101, 108, 121]⟩, .string ⟨#[111, 115]⟩, .string ⟨#[108, 111]⟩, .string ⟨#[98, 114, 105, 103]⟩, .string ⟨#[109, 97]⟩, .string ⟨#[114, 105]⟩, .string ⟨#[110, 97]⟩, .string ⟨#[115, 116]⟩, .string ⟨#[97, 101]⟩] 9) = W
  obtain ⟨b0, bw, hwz⟩ := KN.out W hW.symm
  clear hW KN
  rw [show #[.string ⟨#[97, 115, 104]⟩, .string ⟨#[102, 111, 114, 100]⟩, .string ⟨#[116, 111, 110]⟩, .string ⟨#[98, 121]⟩, .string ⟨#[107, 105, 114, 107]⟩, .string ⟨#[104, 97, 114]⟩, .string ⟨#[119, 105, 99, 107]⟩, .string ⟨#[101, 108, 121]⟩, .string ⟨#[111, 115]⟩, .string ⟨#[108, 111]⟩, .string ⟨#[98, 114, 105, 103]⟩, .string ⟨#[109, 97]⟩, .string ⟨#[114, 105]⟩, .string ⟨#[110, 97]⟩, .string ⟨#[115, 116]⟩, .string ⟨#[97, 101]⟩] = (txC wordsL).toArray from rfl] at b0
  have K0 := Lib.hid b0
  have OW := Lib.hid (only_of_below bw : Only w W g)
  have S0 := Lib.hid (HS.out.below bw)
  clear b0 bw
  go_wp2_with fail
  refine (draw_any 3 B g W S0.out (by omega)).mono ?_
  rintro e w1 ⟨x, rfl, h0, h1, _, hs1, ho1⟩
  have h1' := h1 (by omega)
  have xw : IntKind.i64.wrap (1 + x) = 1 + x := IntWalk.i64_in _ (by omega)
  have K1 := Lib.hid (K0.out.grown ho1 (by intro e; injection e with e; omega))
  have O1 := Lib.hid (only_trans OW.out ho1)
  have S1 := Lib.hid hs1
  clear hs1 ho1 h1 K0 OW S0
  obtain ⟨m, hm⟩ : ∃ m : Nat, 1 + x = (m : Int) := ⟨(1 + x).toNat, by omega⟩
  have hm3 : m ≤ 3 := by omega
  have hmw : IntKind.i64.wrap ((m : Int)) = (m : Int) := IntWalk.i64_in _ (by omega)
  go_wp2_with fail
  try rw [hm]
  clear hm xw h0 h1'
  go_loopw [4, 5] (fun v4 v5 wr => ∃ (s : ByteArray) (j : Nat), j ≤ 3 ∧ s.size ≤ (3 - j) * 100 ∧ v4 = .string s ∧ Hid (Src wr B g) ∧ Hid (Only w wr g) ∧ Hid (Blk wr w.heap.size 9 (txC wordsL).toArray) ∧ v5 = .int .i64 (j : Int)) (fun _ i _ => (intOf i).toNat)
  case atStart => exact ⟨⟨#[]⟩, m, hm3, Nat.zero_le _, rfl, S1.out, O1.out, K1.out, rfl⟩
  case round =>
    clear S1 O1 K1
    obtain ⟨s, j, hj, hsz, rfl, S1, O1, K1, rfl⟩ := hrel
    have hwB : w.heap.size ≤ wr.heap.size := O1.out.size
    cases j with
    | zero =>
      have hno : ¬ (0 : Int) < ((0 : Nat) : Int) := by omega
      go_wp2_with fail
      go_ret
      exact ⟨s, rfl, by omega, S1.out, O1.out⟩
    | succ j =>
      have hyes : (0 : Int) < ((j + 1 : Nat) : Int) := by omega
      go_wp2_with fail
      refine (draw_any 16 B g wr S1.out (by omega)).mono ?_
      rintro e w2 ⟨y, rfl, y0, y1, _, hs2, ho2⟩
      obtain ⟨k, rfl⟩ : ∃ k : Nat, y = k := ⟨y.toNat, by omega⟩
      have hk : k < 16 := by have := y1 (by omega); omega
      have K2 := Lib.hid (K1.out.grown ho2 (by intro e; injection e with e; omega))
      have O2 := Lib.hid (only_trans O1.out ho2)
      have S2 := Lib.hid hs2
      obtain ⟨t, ht, htz⟩ := str_cell HL.out K2.out (k := k) (by rw [HLl.out]; exact hk)
      clear hs2 ho2 y1
      go_wp2_with fail
      go_roundw
      case rel => exact ⟨_, j, by omega, by first | (rw [ByteArray.size_append]; omega) | (simp [ByteArray.size_append]; omega), rfl, S2.out, O2.out, K2.out, by go_num⟩
      case measure => simp [intOf]
end Go.Proofs.YtihhpmhigmegjaaDoor
