/- The reference's l25With: the steps with a further one, in new memory. -/
import Derived.Test.YteeonojcihcfiaaDoorRows
import Derived.Test.YteeonojcihcfiaaDoorK9GA
import Derived.WalkKit
import Derived.ProofKit
import Derived.OpenShut
import Derived.BigQuiet
import Derived.Outline
import Derived.WalkSpells
import Derived.WalkLawsBesides
import Derived.Deep.DeepCutAuto
import Derived.Test.YteeonojcihcfiaaDoorK9B4
import Derived.Deep.RegionHeld3
import Derived.Deep.AppendLies
import Derived.Lib.Hide
namespace Go.Proofs.YteeonojcihcfiaaDoor
open Go.ChangeShapes Go.WideShapes Go.ChangeAt Go.RowKit

theorem blk_reads {w : World} {g : Nat} {t : TypeId} {size n : Nat} {L : List Value} (h : Blk w g t L.toArray) (hl : L.length = n * size) : Reads w w.heap.size size (some ⟨g, 0, none⟩) n L :=
  ⟨hl, fun _ => ⟨g, 0, rfl, h.lt, fun j u hu => by rw [Nat.zero_add, h.cell]; simpa using hu⟩⟩

theorem blk_new1 (W : World) (o : Obj) (t : TypeId) (cs : Array Value) : Blk ((W.alloc o).alloc (.cells cs t)) (W.heap.size + 1) t cs := by
  have := Blk.new (W.alloc o) t cs
  simpa using this
theorem own_made1 (W : World) (o : Obj) (e : TypeId) (size : Nat) : ((W.alloc o).alloc (.cells #[] e)).ownsRow W.heap.size e size (.slice (some ⟨W.heap.size + 1, 0, none⟩) 0 0) 0 [] := by
  have := World.ownsRow_made (e := e) (size := size) (base := W.heap.size) (W.alloc o) #[] 0 (by simp) (by decide) (by simp)
  simpa using this

set_option maxRecDepth 100000 in
set_option maxHeartbeats 2000000 in
theorem with_any (xs : List Stp) (A : Option Addr) (c : Nat) (day kind : Int) (w : World) (hr : Reads w w.heap.size 2 A xs.length (stC xs)) (hn : xs.length ≤ 1048576) :
    Calls Tryd.prog 47 #[.slice A xs.length c, .agg #[.int .i64 day, .int .i64 kind]] w fun e w' => ∃ v, e = .returned v ∧ w'.ownsRow w.heap.size 41 2 v (xs.length + 1) (stC (xs ++ [(day, kind)])) ∧ Below w.heap.size w w' := by
  have HR := Lib.hid hr; clear hr
  obtain ⟨i0, hi0, hz0, hz1, hz2⟩ := info_parts infoStep
  go_enter Tryd.func47, Tryd.ntmps47
  go_upto_region 1 with (fail)
  have key : ∀ W : World, W = w.alloc (.cells #[.int .i64 day, .int .i64 kind] 41) → Blk W w.heap.size 41 #[.int .i64 day, .int .i64 kind] ∧ Below w.heap.size w W ∧ W.heap.size = w.heap.size + 1 := by
    rintro W rfl
    exact ⟨Blk.new _ _ _, by (repeat (first | exact Below.refl _ _ | assumption | refine Below.drew ?_ | refine below_drewN' ?_ _ | refine Below.alloc ?_ (by (try simp); (try omega)) _ | refine Below.setCell ?_ (by (try simp); (try omega)) _)), by simp⟩
  generalize hW : w.alloc (.cells #[.int .i64 day, .int .i64 kind] 41) = W
  obtain ⟨hS, hbW, hsz⟩ := key W hW.symm
  clear key hW
  have HZ := Lib.hid hsz
  have s0 := hS.cell 0
  have s1 := hS.cell 1
  simp only [List.getElem?_toArray, List.getElem?_cons_succ, List.getElem?_cons_zero] at s0 s1
  have z1 : w.heap.size < W.heap.size := by omega
  clear hS hsz
  go_region_held3 (fun w' => w'.cell? ⟨w.heap.size, 0, none⟩ = some (.int .i64 day) ∧ w'.cell? ⟨w.heap.size, 1, none⟩ = some (.int .i64 kind))
    (first | exact ⟨k0, k1⟩ | (go_keep; done) | ((try dsimp only); (repeat' apply And.intro) <;> (go_keep; done)))
    (first | (refine step_append_any _ (by rfl) (.tmp 5) (.tmp 6) _ (by rfl) W.heap.size 41 i0 _ 2 16 Tryd.underlying26 hi0 hz0 hz1 hz2 rfl (by omega) (.slice (some ⟨W.heap.size, 0, none⟩) 0 0) 0 [] (by rfl) ((World.ownsRow_made (e := 41) (size := 2) W #[] 0 (Nat.le_refl _) (by decide) rfl).drew) w.heap.size A xs.length c (stC xs) (by rfl) (by exact HR.out.below (hbW.trans ((((Below.refl W.heap.size W).alloc (Nat.le_refl _) (.cells #[] 41)).drew).mono (by omega)))) (stC_one xs) (by simp only [maxLen]; omega) (by omega) (by (try simp) <;> (try omega)) ?_; intro v1 w1 hown1 hgi hat1; have hb1 : Below W.heap.size W w1 := below_own (((Below.refl W.heap.size W).alloc (Nat.le_refl _) (.cells #[] 41)).drew) ((World.ownsRow_made (e := 41) (size := 2) W #[] 0 (Nat.le_refl _) (by decide) rfl).drew) hgi (Nat.le_refl _) (by (try simp) <;> (try omega)); have k0 := (hb1.cell (p := ⟨w.heap.size, 0, none⟩) z1).trans s0; have k1 := (hb1.cell (p := ⟨w.heap.size, 1, none⟩) z1).trans s1) | (refine step_append_any _ (by rfl) (.tmp 5) (.tmp 6) _ (by rfl) W.heap.size 41 i0 _ 2 16 Tryd.underlying26 hi0 hz0 hz1 hz2 rfl (by omega) (.slice (some ⟨W.heap.size, 0, none⟩) 0 0) 0 [] (by rfl) (((World.ownsRow_made (e := 41) (size := 2) W #[] 0 (Nat.le_refl _) (by decide) rfl).alloc (.cells #[.int .i64 day, .int .i64 kind] 41)).drew) w.heap.size A xs.length c (stC xs) (by rfl) (by exact HR.out.below (hbW.trans (((((Below.refl W.heap.size W).alloc (Nat.le_refl _) (.cells #[] 41)).alloc (by simp) (.cells #[.int .i64 day, .int .i64 kind] 41)).drew).mono (by omega)))) (stC_one xs) (by simp only [maxLen]; omega) (by omega) (by (try simp) <;> (try omega)) ?_; intro v1 w1 hown1 hgii hat1; have hb1 : Below W.heap.size W w1 := below_own ((((Below.refl W.heap.size W).alloc (Nat.le_refl _) (.cells #[] 41)).alloc (by simp) (.cells #[.int .i64 day, .int .i64 kind] 41)).drew) (((World.ownsRow_made (e := 41) (size := 2) W #[] 0 (Nat.le_refl _) (by decide) rfl).alloc (.cells #[.int .i64 day, .int .i64 kind] 41)).drew) hgii (Nat.le_refl _) (by (try simp) <;> (try omega)); have k0 := (hb1.cell (p := ⟨w.heap.size, 0, none⟩) z1).trans s0; have k1 := (hb1.cell (p := ⟨w.heap.size, 1, none⟩) z1).trans s1) | (refine step_append_any _ (by rfl) (.tmp 5) (.tmp 6) _ (by rfl) W.heap.size 41 i0 _ 2 16 Tryd.underlying26 hi0 hz0 hz1 hz2 rfl (by omega) (.slice (some ⟨W.heap.size + 1, 0, none⟩) 0 0) 0 [] (by rfl) ((own_made1 W (.cells #[.int .i64 day, .int .i64 kind] 41) 41 2).drew) w.heap.size A xs.length c (stC xs) (by rfl) (by exact HR.out.below (hbW.trans (((((Below.refl W.heap.size W).alloc (Nat.le_refl _) (.cells #[.int .i64 day, .int .i64 kind] 41)).alloc (by simp) (.cells #[] 41)).drew).mono (by omega)))) (stC_one xs) (by simp only [maxLen]; omega) (by omega) (by (try simp) <;> (try omega)) ?_; intro v1 w1 hown1 hgiii hat1; have hb1 : Below W.heap.size W w1 := below_own ((((Below.refl W.heap.size W).alloc (Nat.le_refl _) (.cells #[.int .i64 day, .int .i64 kind] 41)).alloc (by simp) (.cells #[] 41)).drew) ((own_made1 W (.cells #[.int .i64 day, .int .i64 kind] 41) 41 2).drew) hgiii (Nat.le_refl _) (by (try simp) <;> (try omega)); have k0 := (hb1.cell (p := ⟨w.heap.size, 0, none⟩) z1).trans s0; have k1 := (hb1.cell (p := ⟨w.heap.size, 1, none⟩) z1).trans s1) | (have _hh := hgi; refine step_append_any _ (by rfl) (.tmp 7) (.tmp 9) _ (by rfl) W.heap.size 41 i0 _ 2 16 Tryd.underlying26 hi0 hz0 hz1 hz2 rfl (by omega) v1 (0 + xs.length) ([] ++ stC xs) (by rfl) (hown1.alloc _) _ (some ⟨w1.heap.size, 0, none⟩) 1 1 [.int .i64 day, .int .i64 kind] (by rfl) (new_reads2 _ _ _ _) (by simp [Value.oneCell']) (by simp only [maxLen]; omega) (by omega) (by have := hb1.size; simp; omega) ?_; intro v2 w2 hown2 hg2 hat2; have hb2 : Below W.heap.size W w2 := below_own (hb1.alloc hb1.size _) (hown1.alloc _) hg2 (Nat.le_refl _) (by have := hb1.size; simp; omega); have k0 := (hb2.cell (p := ⟨w.heap.size, 0, none⟩) z1).trans s0; have k1 := (hb2.cell (p := ⟨w.heap.size, 1, none⟩) z1).trans s1) | (have _hh := hgii; refine step_append_any _ (by rfl) (.tmp 7) (.tmp 9) _ (by rfl) W.heap.size 41 i0 _ 2 16 Tryd.underlying26 hi0 hz0 hz1 hz2 rfl (by omega) v1 (0 + xs.length) ([] ++ stC xs) (by rfl) hown1 _ (some ⟨W.heap.size + 1, 0, none⟩) 1 1 [.int .i64 day, .int .i64 kind] (by rfl) (blk_reads (L := [.int .i64 day, .int .i64 kind]) ((blk_new1 W (.cells #[] 41) 41 #[.int .i64 day, .int .i64 kind]).drew.grown hgii (by simp [Value.ownBlock])) rfl) (by simp [Value.oneCell']) (by simp only [maxLen]; omega) (by omega) (by have := hb1.size; simp; omega) ?_; intro v2 w2 hown2 hg2 hat2; have hb2 : Below W.heap.size W w2 := below_own hb1 hown1 hg2 (Nat.le_refl _) (by have := hb1.size; simp; omega); have k0 := (hb2.cell (p := ⟨w.heap.size, 0, none⟩) z1).trans s0; have k1 := (hb2.cell (p := ⟨w.heap.size, 1, none⟩) z1).trans s1) | (have _hh := hgiii; refine step_append_any _ (by rfl) (.tmp 7) (.tmp 9) _ (by rfl) W.heap.size 41 i0 _ 2 16 Tryd.underlying26 hi0 hz0 hz1 hz2 rfl (by omega) v1 (0 + xs.length) ([] ++ stC xs) (by rfl) hown1 _ (some ⟨W.heap.size, 0, none⟩) 1 1 [.int .i64 day, .int .i64 kind] (by rfl) (blk_reads (L := [.int .i64 day, .int .i64 kind]) (((Blk.new W 41 #[.int .i64 day, .int .i64 kind]).alloc (.cells #[] 41)).drew.grown hgiii (by simp [Value.ownBlock])) rfl) (by simp [Value.oneCell']) (by simp only [maxLen]; omega) (by omega) (by have := hb1.size; simp; omega) ?_; intro v2 w2 hown2 hg2 hat2; have hb2 : Below W.heap.size W w2 := below_own hb1 hown1 hg2 (Nat.le_refl _) (by have := hb1.size; simp; omega); have k0 := (hb2.cell (p := ⟨w.heap.size, 0, none⟩) z1).trans s0; have k1 := (hb2.cell (p := ⟨w.heap.size, 1, none⟩) z1).trans s1) | fail)
  all_goals
    go_wp2_with fail
    go_ret
    refine ⟨v2, rfl, ?_, hbW.trans (hb2.mono (by omega))⟩
    rw [show stC (xs ++ [(day, kind)]) = [] ++ stC xs ++ [.int .i64 day, .int .i64 kind] by simp [stC]]
    have := own_mono hown2 (Nat.le_of_lt z1)
    simpa using this
end Go.Proofs.YteeonojcihcfiaaDoor
