/- The program's 'take'. -/
import Derived.Test.YteeonojcihcfiaaDoorRows
import Derived.Test.YteeonojcihcfiaaDoorK9GA
import Derived.WalkKit
import Derived.ProofKit
import Derived.OpenShut
import Derived.BigQuiet
import Derived.Outline
import Derived.WalkSpells
import Derived.WalkLawsBesides
import Derived.Deep.DeepCutAuto
import Derived.Test.YteeonojcihcfiaaDoorK9B1
import Derived.Test.YteeonojcihcfiaaDoorK9B2
import Derived.Deep.RegionHeld3
import Derived.Deep.AppendLies
import Derived.Lib.Hide
namespace Go.Proofs.YteeonojcihcfiaaDoor
open Go.ChangeShapes Go.WideShapes Go.ChangeAt Go.RowKit

def takeB (s : St) (x : Stp) : St :=
  if x.2 = 0 then { s with last := x.1, stage := 1, notice := x.1 }
  else if x.2 = 1 then { s with last := x.1, stage := 2 }
  else if x.2 = 2 ∨ x.2 = 3 then { s with last := x.1, stage := 3, decision := x.1, granted := decide (x.2 = 2) }
  else if x.2 = 4 then { s with last := x.1, stage := 4 }
  else { s with last := x.1, stage := 5, granted := s.granted != decide (x.2 = 6) }

theorem stC_one (xs : List Stp) : ∀ u ∈ stC xs, u.oneCell' = true := by
  intro u hu
  simp only [stC, List.mem_flatMap] at hu
  obtain ⟨s, _, h⟩ := hu
  simp at h
  rcases h with rfl | rfl <;> rfl

theorem new_reads2 (w : World) (t : TypeId) (a b : Value) : Reads (w.alloc (.cells #[a, b] t)) (w.heap.size + 1) 2 (some ⟨w.heap.size, 0, none⟩) 1 [a, b] := by
  refine ⟨rfl, fun _ => ⟨_, 0, rfl, by omega, fun j u hu => ?_⟩⟩
  have := (Blk.new w t #[a, b]).cell j
  rw [Nat.zero_add, this]
  simpa using hu

set_option maxRecDepth 100000 in
set_option maxHeartbeats 2000000 in
theorem take_any (s : St) (day kind : Int) (g : Nat) (A : Option Addr) (c : Nat) (xs : List Stp) (w : World) (hB : Blk w g 83 (fileC s (.slice A xs.length c)))
    (hr : Reads w w.heap.size 2 A xs.length (stC xs)) (hn : xs.length ≤ 1048576) (hA : A = none → c = 0) :
    Calls Tryd.prog 51 #[.pointer (some ⟨g, 0, none⟩), .agg #[.int .i64 day, .int .i64 kind]] w fun e w' =>
      ∃ g' v', e = .returned (.pointer (some ⟨g', 0, none⟩)) ∧ Blk w' g' 83 (fileC (takeB s (day, kind)) v') ∧ w'.ownsRow w.heap.size 41 2 v' (xs.length + 1) (stC (xs ++ [(day, kind)])) ∧ w.heap.size ≤ g' ∧ Below w.heap.size w w' := by
  have c0 := hB.cell 0
  have c1 := hB.cell 1
  have c2 := hB.cell 2
  have c3 := hB.cell 3
  have c4 := hB.cell 4
  have c5 := hB.cell 5
  have hlt := hB.lt
  simp only [fileC, List.getElem?_toArray, List.getElem?_cons_succ, List.getElem?_cons_zero] at c0 c1 c2 c3 c4 c5
  have HB := Lib.hid hB; clear hB
  have HR := Lib.hid hr; clear hr
  go_enter Tryd.func51, Tryd.ntmps51
  obtain ⟨i0, hi0, hz0, hz1, hz2⟩ := info_parts infoStep
  go_upto_region 3 with (fail)
  have key : ∀ W : World, W = (w.alloc (.cells #[.int .i64 day, .int .i64 kind] 41)).alloc (.cells #[.int .i64 s.stage, .int .i64 day, .int .i64 s.notice, .int .i64 s.decision, .bool s.granted, .slice A xs.length c] 83) →
      Blk W w.heap.size 41 #[.int .i64 day, .int .i64 kind] ∧ Blk W (w.heap.size + 1) 83 #[.int .i64 s.stage, .int .i64 day, .int .i64 s.notice, .int .i64 s.decision, .bool s.granted, .slice A xs.length c] ∧
      Below w.heap.size w W ∧ W.heap.size = w.heap.size + 2 := by
    rintro W rfl
    refine ⟨(Blk.new _ _ _).alloc _, by have := Blk.new (w.alloc (.cells #[.int .i64 day, .int .i64 kind] 41)) 83 #[.int .i64 s.stage, .int .i64 day, .int .i64 s.notice, .int .i64 s.decision, .bool s.granted, .slice A xs.length c]; simpa using this, by (repeat (first | exact Below.refl _ _ | assumption | refine Below.drew ?_ | refine below_drewN' ?_ _ | refine Below.alloc ?_ (by (try simp); (try omega)) _ | refine Below.setCell ?_ (by (try simp); (try omega)) _)), by simp⟩
  generalize hW : (w.alloc (.cells #[.int .i64 day, .int .i64 kind] 41)).alloc (.cells #[.int .i64 s.stage, .int .i64 day, .int .i64 s.notice, .int .i64 s.decision, .bool s.granted, .slice A xs.length c] 83) = W
  obtain ⟨hS, hF, hbW, hsz⟩ := key W hW.symm
  clear key hW
  have HS := Lib.hid hS
  have HF := Lib.hid hF
  have HZ := Lib.hid hsz
  have s0 := hS.cell 0
  have s1 := hS.cell 1
  have c5' := (hbW.cell (p := ⟨g, 5, none⟩) hlt).trans c5
  have c4' := (hbW.cell (p := ⟨g, 4, none⟩) hlt).trans c4
  simp only [List.getElem?_toArray, List.getElem?_cons_succ, List.getElem?_cons_zero] at s0 s1
  have z1 : w.heap.size + 1 < W.heap.size := by omega
  have z2 : g < W.heap.size := by omega
  have n1 : ¬ g = w.heap.size + 1 := by omega
  have n2 : ¬ w.heap.size + 1 = g := by omega
  clear hS hF hsz c0 c1 c2 c3 c4 c5
  go_cut [] (fun wx => ∃ v', Blk wx w.heap.size 41 #[.int .i64 day, .int .i64 kind] ∧ Blk wx (w.heap.size + 1) 83 #[.int .i64 s.stage, .int .i64 day, .int .i64 s.notice, .int .i64 s.decision, .bool s.granted, v'] ∧
      wx.ownsRow (w.heap.size + 2) 41 2 v' (xs.length + 1) (stC (xs ++ [(day, kind)])) ∧ Below w.heap.size w wx ∧ wx.cell? ⟨g, 4, none⟩ = some (.bool s.granted))
  case first =>
    go_region_held3 (fun w' => w'.cell? ⟨g, 5, none⟩ = some (.slice A xs.length c) ∧ w'.cell? ⟨w.heap.size, 0, none⟩ = some (.int .i64 day) ∧ w'.cell? ⟨w.heap.size, 1, none⟩ = some (.int .i64 kind))
      (first | exact ⟨k5, k0, k1⟩ | (go_keep; done) | ((try dsimp only); (repeat' apply And.intro) <;> (go_keep; done)))
      (first | (go_at_call 63; refine (cloneStep A xs.length c (stC xs) W.drew (by exact (HR.out.below (hbW.trans (((Below.refl W.heap.size W).drew).mono (by omega)))).more (by simp; omega)) (stC_one xs) (by omega) hA).mono ?_; rintro e w1 ⟨v1, rfl, hown1, hb1⟩; have hbA : Below W.heap.size W w1 := ((Below.refl W.heap.size W).drew).trans (hb1.mono (by simp)); have k5 := (hbA.cell (p := ⟨g, 5, none⟩) z2).trans c5'; have k0 := (hbA.cell (p := ⟨w.heap.size, 0, none⟩) (by simp; omega)).trans s0; have k1 := (hbA.cell (p := ⟨w.heap.size, 1, none⟩) (by simp; omega)).trans s1) | (go_at_call 63; refine (cloneStep A xs.length c (stC xs) ((W.alloc (.cells #[.int .i64 day, .int .i64 kind] 41)).drew) (by exact (HR.out.below (hbW.trans ((((Below.refl W.heap.size W).alloc (Nat.le_refl _) (.cells #[.int .i64 day, .int .i64 kind] 41)).drew).mono (by omega)))).more (by simp; omega)) (stC_one xs) (by omega) hA).mono ?_; rintro e w1 ⟨v1, rfl, hown1, hb1⟩; have hbB : Below W.heap.size W w1 := (((Below.refl W.heap.size W).alloc (Nat.le_refl _) (.cells #[.int .i64 day, .int .i64 kind] 41)).drew).trans (hb1.mono (by simp)); have k5 := (hbB.cell (p := ⟨g, 5, none⟩) z2).trans c5'; have k0 := (hbB.cell (p := ⟨w.heap.size, 0, none⟩) (by simp; omega)).trans s0; have k1 := (hbB.cell (p := ⟨w.heap.size, 1, none⟩) (by simp; omega)).trans s1) | (refine step_append_any _ (by rfl) (.tmp 16) (.tmp 18) _ (by rfl) W.heap.size 41 i0 _ 2 16 Tryd.underlying26 hi0 hz0 hz1 hz2 rfl (by omega) v1 xs.length (stC xs) (by rfl) ((own_mono hown1 (by simp)).alloc _) _ (some ⟨w1.heap.size, 0, none⟩) 1 1 [.int .i64 day, .int .i64 kind] (by rfl) (new_reads2 _ _ _ _) (by simp [Value.oneCell']) (by simp only [maxLen]; omega) (by omega) (by have := hbA.size; simp; omega) ?_; intro v2 w2 hown2 hg2 hat2; have hb2 : Below W.heap.size W w2 := below_own (hbA.alloc hbA.size _) ((own_mono hown1 (by simp)).alloc _) hg2 (Nat.le_refl _) (by have := hbA.size; simp; omega); obtain ⟨A2, cc2, rfl, _⟩ := own_shape hown2; have k5 := (hb2.cell (p := ⟨g, 5, none⟩) z2).trans c5'; have k0 := (hb2.cell (p := ⟨w.heap.size, 0, none⟩) (by simp; omega)).trans s0; have k1 := (hb2.cell (p := ⟨w.heap.size, 1, none⟩) (by simp; omega)).trans s1; have f5 := (HF.out.below hb2 z1).frozen 5; have g5 := (HF.out.below hb2 z1).cell 5; simp only [List.getElem?_toArray, List.getElem?_cons_succ, List.getElem?_cons_zero] at g5) | (refine step_append_any _ (by rfl) (.tmp 16) (.tmp 18) _ (by rfl) W.heap.size 41 i0 _ 2 16 Tryd.underlying26 hi0 hz0 hz1 hz2 rfl (by omega) v1 xs.length (stC xs) (by rfl) (own_mono hown1 (by simp)) _ (some ⟨W.heap.size, 0, none⟩) 1 1 [.int .i64 day, .int .i64 kind] (by rfl) ((new_reads2 W 41 (.int .i64 day) (.int .i64 kind)).drew.below (hb1.mono (by simp))) (by simp [Value.oneCell']) (by simp only [maxLen]; omega) (by omega) (by have := hbB.size; simp; omega) ?_; intro v2 w2 hown2 hg2 hat2; have hb2 : Below W.heap.size W w2 := below_own hbB (own_mono hown1 (by simp)) hg2 (Nat.le_refl _) (by have := hbB.size; simp; omega); obtain ⟨A2, cc2, rfl, _⟩ := own_shape hown2; have k5 := (hb2.cell (p := ⟨g, 5, none⟩) z2).trans c5'; have k0 := (hb2.cell (p := ⟨w.heap.size, 0, none⟩) (by simp; omega)).trans s0; have k1 := (hb2.cell (p := ⟨w.heap.size, 1, none⟩) (by simp; omega)).trans s1; have f5 := (HF.out.below hb2 z1).frozen 5; have g5 := (HF.out.below hb2 z1).cell 5; simp only [List.getElem?_toArray, List.getElem?_cons_succ, List.getElem?_cons_zero] at g5) | fail)
    all_goals
      go_wp2_with fail
      go_meet
      exact ⟨_, (HS.out.below hb2 (by omega)).far (p := ⟨w.heap.size + 1, 5, none⟩) (by simp) _, by simpa using (HF.out.below hb2 z1).set_ 5 (.slice A2 (xs.length + 1) cc2), by rw [show stC (xs ++ [(day, kind)]) = stC xs ++ [.int .i64 day, .int .i64 kind] by simp [stC]]; exact own_mono (ownsRow_setCell_below hown2 z1 _) (by have := HZ.out; omega),
        (hbW.trans (hb2.mono (by omega))).setCell (p := ⟨w.heap.size + 1, 5, none⟩) (by simp) _, by rw [World.cell?_setCell_other _ _ _ _ (by simp)]; exact (hb2.cell (p := ⟨g, 4, none⟩) z2).trans c4'⟩
  case rest =>
    clear hbW HS HF HZ c5' c4' s0 s1 z1 z2
    obtain ⟨v', hS, hF, hown, hb, c4⟩ := hcut
    have s0 := hS.cell 0
    have s1 := hS.cell 1
    have f0 := hF.frozen 0
    have f2 := hF.frozen 2
    have f3 := hF.frozen 3
    have f4 := hF.frozen 4
    have d0 := hF.cell 0
    have d2 := hF.cell 2
    have d3 := hF.cell 3
    have d4 := hF.cell 4
    have HF := Lib.hid hF
    have HO := Lib.hid hown
    simp only [List.getElem?_toArray, List.getElem?_cons_succ, List.getElem?_cons_zero] at s0 s1 d0 d2 d3 d4
    clear hS hF hown
    go_wp2_with fail
    all_goals (try go_region)
    all_goals (go_wp2_with fail)
    all_goals
      go_ret
      simp only [beq_iff_eq, beq_eq_false_iff_ne, ne_eq] at *
      refine ⟨w.heap.size + 1, v', rfl, ?_, ?_, by omega, ?_⟩
      · have hf : wc.heap[w.heap.size + 1]? = _ := HF.out
        simp [Blk, World.setCell, World.drew, Array.getElem?_modify, fileC, takeB, *]
        try (by_cases h6 : kind = 6 <;> cases s.granted <;> simp [h6])
      · refine own_mono (base := w.heap.size + 2) ?_ (by omega)
        (repeat (first | exact HO.out | refine World.ownsRow.drew ?_ | refine ownsRow_setCell_below ?_ (by simp) _))
      · (repeat (first | exact Below.refl _ _ | assumption | refine Below.drew ?_ | refine below_drewN' ?_ _ | refine Below.alloc ?_ (by (try simp); (try omega)) _ | refine Below.setCell ?_ (by (try simp); (try omega)) _))
end Go.Proofs.YteeonojcihcfiaaDoor
