/- Ballots with another choice: l27With, isPivotal; PivotalMembers. -/
import Derived.Test.YtihhpmhigmegjaaDoorRows
import Derived.Test.YtihhpmhigmegjaaDoorL0
import Derived.Test.YtihhpmhigmegjaaDoorM0
import Derived.WalkKit
import Derived.ProofKit
import Derived.OpenShut
import Derived.BigQuiet
import Derived.Outline
import Derived.WalkSpells
import Derived.WalkLawsBesides
import Derived.Deep.DeepCutAuto
import Derived.Test.YtihhpmhigmegjaaDoorT0
import Derived.Test.YtihhpmhigmegjaaDoorV3
import Derived.Deep.LoopGhost
namespace Go.Proofs.YtihhpmhigmegjaaDoor
open Go.ChangeShapes Go.WideShapes Go.ChangeAt Go.RowKit

def withB (xs : List Bal) (i : Nat) (ch : Int) : List Bal := xs.modify i fun b => { b with choice := ch }
theorem withB_len (xs : List Bal) (i : Nat) (ch : Int) : (withB xs i ch).length = xs.length := by simp [withB]
theorem withB_twice (xs : List Bal) (i : Nat) (a b : Int) : withB (withB xs i a) i b = withB xs i b := by
  unfold withB
  induction xs generalizing i with
  | nil => simp
  | cons x r ih =>
    cases i with
    | zero => simp
    | succ i => simpa using ih i
theorem baC_cons (b : Bal) (r : List Bal) : baC (b :: r) = Value.string b.name :: Value.int .i64 b.choice :: Value.int .i64 b.weight :: baC r := by simp [baC, Bal.cells]
theorem baC_with (xs : List Bal) (i : Nat) (ch : Int) (h : i < xs.length) : baC (withB xs i ch) = (baC xs).set (i * 3 + 1) (.int .i64 ch) := by
  induction xs generalizing i with
  | nil => simp at h
  | cons x r ih =>
    cases i with
    | zero => simp [withB, baC_cons]
    | succ i =>
      have := ih i (by simpa using h)
      unfold withB at this
      rw [show (i + 1) * 3 + 1 = i * 3 + 1 + 1 + 1 + 1 from by omega]
      simp [withB, baC_cons, this]
theorem withB_mem {xs : List Bal} {i : Nat} {ch : Int} {b : Bal} (h : b ∈ withB xs i ch) : ∃ b' ∈ xs, b.weight = b'.weight ∧ b.name = b'.name := by
  unfold withB at h
  obtain ⟨k, hk, rfl⟩ := List.getElem_of_mem h
  simp only [List.getElem_modify]
  have hk' : k < xs.length := by simpa using hk
  refine ⟨xs[k], List.getElem_mem hk', ?_⟩
  split <;> exact ⟨rfl, rfl⟩
theorem fits_with {xs : List Bal} (h : Fits xs) (i : Nat) (ch : Int) : Fits (withB xs i ch) := by
  refine ⟨by rw [withB_len]; exact h.1, fun b hb => ?_⟩
  obtain ⟨b', hb', e, _⟩ := withB_mem hb
  rw [e]; exact h.2 b' hb'

set_option maxRecDepth 100000 in
theorem with_bal (xs : List Bal) (hf : Fits xs) (i : Nat) (hi : i < xs.length) (ch : Int) (A : Option Addr) (c : Nat) (w : World) (hr : Reads w w.heap.size 3 A xs.length (baC xs)) :
    Calls Tryd.prog 51 #[.slice A xs.length c, .int .i64 i, .int .i64 ch] w fun e w' => ∃ A2 c2, e = .returned (.slice A2 xs.length c2) ∧ w'.ownsRow w.heap.size 32 3 (.slice A2 xs.length c2) xs.length (baC (withB xs i ch)) ∧ Below w.heap.size w w' := by
  have HR := Lib.hid hr; clear hr
  have hm := hf.1
  obtain ⟨i0, hi0, hz0, hz1, hz2⟩ := info_parts infoBal
  have HB := Lib.hid (baC_with xs i ch hi)
  go_enter Tryd.func51, Tryd.ntmps51
  go_wp2_with (at_builtin; refine wpList_append_any _ rfl (.tmp 8) (.tmp 9) _ rfl w.heap.size 32 i0 _ 3 32 Tryd.underlying24 hi0 hz0 hz1 hz2 rfl (by omega) (.slice (some ⟨w.heap.size, 0, none⟩) 0 0) 0 [] rfl (World.ownsRow_made (e := 32) (size := 3) w #[] 0 (Nat.le_refl _) (by decide) rfl) w.heap.size A xs.length c (baC xs) rfl (HR.out.alloc (Nat.le_refl _) _) (baC_one xs) (by simp only [maxLen]; omega) (by omega) (by simp) ?_; intro v1 w1 hown1 hg1 hat1; have hown := (show w1.ownsRow w.heap.size 32 3 v1 xs.length (baC xs) by simpa using hown1); obtain ⟨g, cap, hv, hbg, hgl⟩ := hown.form (by omega); subst hv; have q0 := hown.cellAt (i * 3 + 1) (by omega); rw [List.getElem?_eq_getElem (by rw [baC_len]; omega)] at q0; have f0 := hown.frozenAt (i * 3 + 1); have s1 := hown.stored (i * 3 + 1) (.int .i64 ch); rw [← HB.out] at s1; have HS := Lib.hid s1; have hbl := below_own ((Below.refl w.heap.size w).alloc (Nat.le_refl _) _) (World.ownsRow_made (e := 32) (size := 3) w #[] 0 (Nat.le_refl _) (by decide) rfl) hg1 (Nat.le_refl _) (by simp); have HBL := Lib.hid hbl; generalize (baC xs)[i * 3 + 1]'(by rw [baC_len]; omega) = u0 at q0; clear hown1 hg1 hat1 hown s1 hbl)
  go_ret
  exact ⟨some ⟨g, 0, none⟩, cap, rfl, HS.out.1, HBL.out.setCell (p := ⟨g, i * 3 + 1, none⟩) hbg _⟩
set_option maxRecDepth 100000 in
theorem clone_bal (A : Option Addr) (n c : Nat) (xs : List Value) (w : World) (hr : Reads w w.heap.size 3 A n xs) (h1 : ∀ u ∈ xs, u.oneCell' = true) (hn : n ≤ 1048577) (hA : A = none → c = 0) :
    Calls Tryd.prog 39 #[.slice A n c] w fun e w' => ∃ v, e = .returned v ∧ w'.ownsRow w.heap.size 32 3 v n xs ∧ Below w.heap.size w w' := by
  obtain ⟨i0, hi0, hz0, hz1, hz2⟩ := info_parts infoBal
  have hnil := fun (W : World) (a : Option Addr) (l k : Nat) => Lib.run_eql_slice_nil (P := Tryd.prog) W 24 32 a l k 0 0 Tryd.underlying24
  rcases A with _ | ad
  · obtain ⟨rfl, rfl⟩ := hr.none_nil
    obtain rfl := hA rfl
    clear hA hr
    go_enter Tryd.func39, Tryd.ntmps39
    go_wp2
    go_ret
    exact ⟨_, rfl, World.ownsRow_nil _ _ _ _, Below.refl _ _⟩
  · clear hA
    have H1 := Lib.hid h1; clear h1
    have HR := Lib.hid hr; clear hr
    go_enter Tryd.func39, Tryd.ntmps39
    go_wp2_with (at_builtin; refine wpList_append_any _ rfl (.tmp 5) (.tmp 6) _ rfl w.heap.size 32 i0 _ 3 32 Tryd.underlying24 hi0 hz0 hz1 hz2 rfl (by omega) (.slice (some ⟨w.heap.size, 0, none⟩) 0 0) 0 [] rfl (World.ownsRow_made w #[] 0 (Nat.le_refl _) (by decide) rfl) w.heap.size (some ad) n c xs rfl (HR.out.alloc (Nat.le_refl _) _) H1.out (by simp only [maxLen]; omega) (by omega) (by simp) ?_; intro v1 w1 hown1 hg1 hat1)
    go_ret
    refine ⟨v1, rfl, by simpa using hown1, ?_⟩
    exact ((Below.refl _ _).alloc (Nat.le_refl _) _).grown hg1 (by simp) (by intro k hk; simp [Value.ownBlock] at hk; omega)
end Go.Proofs.YtihhpmhigmegjaaDoor
