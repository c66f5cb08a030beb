/- sorted: the library's Sort and Compact at texts. -/
import Derived.Test.YthlpclnfnfbeiaaGreatDoorRows
import Derived.Test.YthlpclnfnfbeiaaGreatDoorL0
import Derived.Test.YthlpclnfnfbeiaaGreatDoorM0
import Derived.WalkKit
import Derived.ProofKit
import Derived.OpenShut
import Derived.BigQuiet
import Derived.Outline
import Derived.WalkSpells
import Derived.WalkLawsBesides
import Derived.Deep.DeepCutAuto
import Derived.Test.YthlpclnfnfbeiaaGreatDoorP1
import Derived.Test.YthlpclnfnfbeiaaGreatDoorKS
import Derived.Test.YthlpclnfnfbeiaaGreatDoorM1
import Derived.Test.YthlpclnfnfbeiaaGreatDoorI0
namespace Go.Proofs.YthlpclnfnfbeiaaGreatDoor
open Go.ChangeShapes Go.WideShapes Go.ChangeAt Go.RowKit Go.Sort

theorem own_short {w : World} {base : Nat} {e : TypeId} {p : Option Addr} {n k c : Nat} {xs ys : List Value} (h : w.ownsRow base e 1 (.slice p n c) n (xs ++ ys)) (hk : xs.length = k) (hp : 0 < n) : w.ownsRow base e 1 (.slice p k c) k xs := by
  obtain ⟨hl, h⟩ := h
  rcases h with ⟨e', _⟩ | ⟨g, cap, cur, e', hb, hg, hnc, hcm, hcs, ht⟩
  · simp only [Value.slice.injEq] at e'; omega
  · simp only [Value.slice.injEq] at e'
    obtain ⟨rfl, _, rfl⟩ := e'
    have hn : n = k + ys.length := by simp at hl; omega
    refine ⟨by simp [hk], .inr ⟨g, c, cur, rfl, hb, hg, by omega, hcm, hcs, ?_⟩⟩
    have h1 : (cur.toList.take (n * 1)).take (k * 1) = xs := by rw [ht, Nat.mul_one, List.take_left' hk]
    rw [List.take_take] at h1
    rw [← h1]
    congr 1
    omega
theorem sortS_any (V : List (List UInt8)) (base : Nat) (B : Option Addr) (d : Nat) (w : World) (hm : V.length ≤ 1048576) (h : w.ownsRow base 9 1 (.slice B V.length d) V.length (V.map encStr)) :
    Calls Tryz.prog 110 #[.slice B V.length d] w fun e w' => e = .returned (.tuple #[]) ∧ w'.ownsRow base 9 1 (.slice B V.length d) V.length ((V.mergeSort fun x y => decide (x ≤ y)).map encStr) ∧ w.grownBy w' (Value.slice B V.length d).ownBlock := by
  rcases Nat.eq_zero_or_pos V.length with hz | hp
  · have hV : V = [] := List.eq_nil_of_length_eq_zero hz
    subst hV
    refine (Any.slices_Sort_string_none Tryz.lays190 B d w).mono ?_
    rintro e w' ⟨rfl, rfl⟩
    exact ⟨rfl, by rw [List.mergeSort_nil]; exact h, World.grownBy.refl _ _⟩
  · obtain ⟨g, cap, hv, hbg, hgl⟩ := h.form hp
    simp only [Value.slice.injEq, true_and] at hv
    obtain ⟨rfl, rfl⟩ := hv
    rcases h.2 with ⟨h', _⟩ | ⟨g', cap', cur, h', hb, hg, hnc, hcm, hcs, htake⟩
    · simp at h'
    · simp only [Value.slice.injEq, Option.some.injEq, Addr.mk.injEq, and_true, true_and] at h'
      obtain ⟨rfl, rfl⟩ := h'
      rw [Nat.mul_one] at htake
      have hH := holds_of_block hg htake
      refine (Any.slices_Sort_string Tryz.lays190 g 0 d V w hH hgl (by omega)).mono ?_
      rintro e w' ⟨rfl, n, os, rfl⟩
      exact ⟨rfl, ownsRow_sorted (by rw [List.length_mergeSort]) hb hg hnc hcm hcs, grownBy_sorted _⟩
theorem compactS_any (Z : List (List UInt8)) (base : Nat) (B : Option Addr) (d : Nat) (w : World) (hm : Z.length ≤ 1048576) (h : w.ownsRow base 9 1 (.slice B Z.length d) Z.length (Z.map encStr)) :
    Calls Tryz.prog 111 #[.slice B Z.length d] w fun e w' => e = .returned (.slice B (Lib.compact Z).length d) ∧ w'.ownsRow base 9 1 (.slice B (Lib.compact Z).length d) (Lib.compact Z).length ((Lib.compact Z).map encStr) ∧ w.grownBy w' (Value.slice B Z.length d).ownBlock := by
  rcases Nat.eq_zero_or_pos Z.length with hz | hp
  · have hV : Z = [] := List.eq_nil_of_length_eq_zero hz
    subst hV
    refine (Any.slices_Compact_string_empty Tryz.lays194 B d w).mono ?_
    rintro e w' ⟨rfl, rfl⟩
    exact ⟨rfl, h, World.grownBy.refl _ _⟩
  · obtain ⟨g, cap, hv, hbg, hgl⟩ := h.form hp
    simp only [Value.slice.injEq, true_and] at hv
    obtain ⟨rfl, rfl⟩ := hv
    rcases h.2 with ⟨h', _⟩ | ⟨g', cap', cur, h', hb, hg, hnc, hcm, hcs, htake⟩
    · simp at h'
    · simp only [Value.slice.injEq, Option.some.injEq, Addr.mk.injEq, and_true, true_and] at h'
      obtain ⟨rfl, rfl⟩ := h'
      rw [Nat.mul_one] at htake
      have hH := holds_of_block hg htake
      have hle := Lib.compact_length_le Z
      refine (Any.slices_Compact_string Tryz.lays194 g 0 d Z w hH (by omega) hnc).mono ?_
      rintro e w' ⟨rfl, n, rfl⟩
      have hlen : (Lib.compact Z ++ List.replicate (Z.length - (Lib.compact Z).length) ([] : List UInt8)).length = Z.length := by simp; omega
      have h1 := ownsRow_sorted (w := w) (n := n) (os := #[]) (ss := Z) hlen hb hg hnc hcm hcs
      have h2 := grownBy_sorted (w := w) (g := g) (n := n) (os := #[]) (Lib.compact Z ++ List.replicate (Z.length - (Lib.compact Z).length) ([] : List UInt8)).toArray
      rw [grow_empty] at h1 h2
      rw [List.map_append] at h1
      exact ⟨rfl, own_short h1 (by simp) hp, h2⟩
set_option maxRecDepth 100000 in
theorem sorted_any (V : List (List UInt8)) (base : Nat) (B : Option Addr) (d : Nat) (w : World) (hm : V.length ≤ 1048576) (h : w.ownsRow base 9 1 (.slice B V.length d) V.length (V.map encStr)) :
    Calls Tryz.prog 69 #[.slice B V.length d] w fun e w' => ∃ v, e = .returned v ∧ w'.ownsRow base 9 1 v (V.foldl insS []).length ((V.foldl insS []).map encStr) ∧ w.grownBy w' (Value.slice B V.length d).ownBlock := by
  have HS := Lib.hid (sortS_any V base B d w hm h)
  have HC := Lib.hid (fun W (hW : W.ownsRow base 9 1 (.slice B V.length d) V.length ((V.mergeSort fun x y => decide (x ≤ y)).map encStr)) => compactS_any (V.mergeSort fun x y => decide (x ≤ y)) base B d W (by rw [List.length_mergeSort]; exact hm) (by rw [List.length_mergeSort]; exact hW))
  rw [List.length_mergeSort, sorted_ins] at HC
  clear h
  generalize V.foldl insS [] = F at *
  generalize (V.mergeSort fun x y => decide (x ≤ y)) = Z at *
  go_enter Tryz.func69, Tryz.ntmps69
  go_wp2_with fail
  refine HS.out.mono ?_; rintro e w1 ⟨rfl, o1, g1⟩
  have G1 := Lib.hid g1
  have HC2 := Lib.hid (HC.out w1 o1)
  clear o1 g1 HC HS
  go_wp2_with fail
  refine HC2.out.mono ?_; rintro e w2 ⟨rfl, o2, g2⟩
  have G2 := Lib.hid g2; have O2 := Lib.hid o2
  clear o2 g2
  go_wp2_with fail
  go_ret
  exact ⟨_, rfl, O2.out, G1.out.trans G2.out⟩
end Go.Proofs.YthlpclnfnfbeiaaGreatDoor
