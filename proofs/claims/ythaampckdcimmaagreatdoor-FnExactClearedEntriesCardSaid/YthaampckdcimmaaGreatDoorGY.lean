/- ClearedEntries of the program: the closure, the search. -/
import Derived.Test.YthaampckdcimmaaGreatDoorRows
import Derived.Test.YthaampckdcimmaaGreatDoorL0
import Derived.Test.YthaampckdcimmaaGreatDoorM0
import Derived.WalkKit
import Derived.ProofKit
import Derived.OpenShut
import Derived.BigQuiet
import Derived.Outline
import Derived.WalkSpells
import Derived.WalkLawsBesides
import Derived.Deep.DeepCutAuto
import Derived.Test.YthaampckdcimmaaGreatDoorGX
import Derived.Test.YthaampckdcimmaaGreatDoorGJ
import Derived.Test.YthaampckdcimmaaGreatDoorGS
namespace Go.Proofs.YthaampckdcimmaaGreatDoor
open Go.ChangeShapes Go.WideShapes Go.ChangeAt Go.RowKit Go.Sort

set_option maxRecDepth 100000 in
set_option maxHeartbeats 1000000 in
theorem clr1_any (xs : List Ent) (hx : ∀ f ∈ xs, entB f = true) (dist : Int) (hd : 0 ≤ dist ∧ dist ≤ 4000) (i k : Nat) (hi : i < xs.length) (hk : k < xs.length) (gb gi gd : Nat) (t ti td : TypeId) (A : Option Addr) (c : Nat) (w : World) (hb : Blk w gb t #[.slice A xs.length c]) (hbi : Blk w gi ti #[.int .i64 i]) (hbd : Blk w gd td #[.int .i64 dist]) (h : HasEnt w xs A) :
    Calls Tryz.prog 63 #[.int .i64 k, .pointer (some ⟨gb, 0, none⟩), .pointer (some ⟨gi, 0, none⟩), .pointer (some ⟨gd, 0, none⟩)] w fun e w' => e = .returned (.bool (cP xs dist k i)) ∧ Below w.heap.size w w' := by
  have HC := Lib.hid (implHom_any xs[i] xs[k] (hx _ (List.getElem_mem hi)) (hx _ (List.getElem_mem hk)) dist hd)
  have HX := Lib.hid (show cP xs dist k i = homB xs[i] xs[k] dist by rw [cP, atE_eq hi, atE_eq hk, homB_comm])
  obtain ⟨ab, ao, rfl, hadb, hcell⟩ := h.1.2 (by omega)
  obtain ⟨e0, e1, e2, e3⟩ := enC_get xs i hi
  obtain ⟨g0, g1, g2, g3⟩ := enC_get xs k hk
  have c0 := cell_regrown (hcell _ _ e0)
  have c1 := cell_regrown (hcell _ _ e1)
  have c2 := cell_regrown (hcell _ _ e2)
  have c3 := cell_regrown (hcell _ _ e3)
  have d0 := cell_regrown (hcell _ _ g0)
  have d1 := cell_regrown (hcell _ _ g1)
  have d2 := cell_regrown (hcell _ _ g2)
  have d3 := cell_regrown (hcell _ _ g3)
  simp only [← Nat.add_assoc] at c1 c2 c3 d1 d2 d3
  have b0 : w.cell? ⟨gb, 0, none⟩ = some (.slice (some ⟨ab, ao, none⟩) xs.length c) := by rw [hb.cell]; rfl
  have b1 := cell_regrown b0
  have b2 : w.cell? ⟨gi, 0, none⟩ = some (.int .i64 i) := by rw [hbi.cell]; rfl
  have b3 := cell_regrown b2
  have b4 : w.cell? ⟨gd, 0, none⟩ = some (.int .i64 dist) := by rw [hbd.cell]; rfl
  have b5 := cell_regrown b4
  have hm := h.2.1
  clear hcell e0 e1 e2 e3 g0 g1 g2 g3 hb h b0 b2 b4 hbi hbd hx hd
  generalize cP xs dist k i = r at HX ⊢
  generalize xs[i] = f at *
  generalize xs[k] = u at *
  unfold Ent.val at HC
  generalize homB f u dist = q at *
  have r1 : ∀ d os, Calls Tryz.prog 64 #[.agg #[.string f.text, .int .i64 f.x, .int .i64 f.y, .int .i64 f.since], .agg #[.string u.text, .int .i64 u.x, .int .i64 u.y, .int .i64 u.since], .int .i64 dist] (grow (redrawn w d) os) (fun e w'' => e = .returned (.bool q) ∧ ∃ p : Regrown, w'' = grow (redrawn w p.d) p.os) := fun d os => Calls.regrown_of (HC.out _)
  clear HC
  go_enter Tryz.func63, Tryz.ntmps63
  go_upto_region 1 with (fail)
  refine wp_region_quiet_below (by kernel_rfl) (by kernel_rfl) ?_; (repeat (first | go_big_quiet_step ((first | with_reducible exact r1 _ _)))); refine wpQuiet_nil ?_; intro _ hw'; obtain ⟨⟨dq, osq⟩, rfl⟩ := hw'
  go_wp2_with fail
  go_ret
  exact ⟨ret_bool HX.out.symm, below_regrown w dq osq⟩
set_option maxRecDepth 100000 in
theorem idxI_any (p : Int → Bool) (K : List Int) (cb : Array Value) (a1 a2 a3 : Value) (hcb : cb = #[a1, a2, a3]) (A : Option Addr) (c : Nat) (w : World) (hr : Reads w w.heap.size 1 A K.length (inC K)) (hm : K.length ≤ 9223372036854775807)
    (hp : ∀ b ∈ K, ∀ W, Below w.heap.size w W → Calls Tryz.prog 63 #[.int .i64 b, a1, a2, a3] W fun e w' => e = .returned (.bool (p b)) ∧ Below W.heap.size W w') :
    Calls Tryz.prog 93 #[.slice A K.length c, .func (.func 63) #[] #[a1, a2, a3]] w fun e w' => ∃ i : Int, e = .returned (.int .i64 i) ∧ decide (0 ≤ i) = K.any p ∧ Below w.heap.size w w' := by
  have HR := Lib.hid hr; clear hr
  have HP := Lib.hid hp; clear hp hcb
  go_enter Tryz.func93, Tryz.ntmps93
  go_wp2_with fail
  go_loopw [8] (fun v8 wr => ∃ k : Nat, k ≤ K.length ∧ Hid ((K.take k).any p = false) ∧ Hid (Below w.heap.size w wr) ∧ v8 = .int .i64 k) (fun i _ => K.length - (intOf i).toNat)
  case atStart => exact ⟨0, by omega, by simp [Hid], Below.refl _ _, rfl⟩
  case round =>
    obtain ⟨k, hk, HT, BW, rfl⟩ := hrel
    by_cases hlt : k < K.length
    · obtain ⟨ab, ao, rfl, hadb, hcell⟩ := (HR.out.below BW.out).2 (by omega)
      have c0 := hcell k (.int .i64 K[k]) (by unfold inC; rw [List.getElem?_map, List.getElem?_eq_getElem hlt]; rfl)
      clear hcell
      have HC := Lib.hid (HP.out K[k] (List.getElem_mem hlt) wr BW.out)
      have HS := Lib.hid (any_take p hlt)
      have HY := Lib.hid (show p K[k] = true → K.any p = true from fun h => List.any_eq_true.2 ⟨_, List.getElem_mem hlt, h⟩)
      generalize K[k] = b at c0 HC HS HY
      cases hb : p b
      · rw [hb] at HC HS
        have HN := Lib.hid (show (K.take (k + 1)).any p = false by rw [HS.out, HT.out]; rfl)
        clear hb
        go_wp2_with fail
        refine HC.out.mono ?_; rintro e w1 ⟨rfl, b1⟩
        go_wp2_with fail
        go_roundw
        case rel => exact ⟨k + 1, by omega, HN.out, BW.out.trans (b1.mono BW.out.size), by go_num⟩
        case measure => simp [intOf]; omega
      · rw [hb] at HC
        have HN := Lib.hid (HY.out hb)
        clear hb
        go_wp2_with fail
        refine HC.out.mono ?_; rintro e w1 ⟨rfl, b1⟩
        go_wp2_with fail
        go_ret
        exact ⟨k, rfl, by rw [HN.out]; simp, BW.out.trans (b1.mono BW.out.size)⟩
    · obtain rfl : k = K.length := by omega
      have HN := Lib.hid (show K.any p = false by have := HT.out; rwa [List.take_length] at this)
      go_wp2_with fail
      go_ret
      exact ⟨-1, rfl, by rw [HN.out]; rfl, BW.out⟩
theorem contI_any (p : Int → Bool) (K : List Int) (a1 a2 a3 : Value) (A : Option Addr) (c : Nat) (w : World) (hr : Reads w w.heap.size 1 A K.length (inC K)) (hm : K.length ≤ 9223372036854775807)
    (hp : ∀ b ∈ K, ∀ W, Below w.heap.size w W → Calls Tryz.prog 63 #[.int .i64 b, a1, a2, a3] W fun e w' => e = .returned (.bool (p b)) ∧ Below W.heap.size W w') :
    Calls Tryz.prog 62 #[.slice A K.length c, .func (.func 63) #[] #[a1, a2, a3]] w fun e w' => e = .returned (.bool (K.any p)) ∧ Below w.heap.size w w' := by
  have HC := Lib.hid (idxI_any p K _ a1 a2 a3 rfl A c w hr hm hp); clear hr hp
  generalize K.any p = r at HC ⊢
  go_enter Tryz.func62, Tryz.ntmps62
  go_wp2_with fail
  refine HC.out.mono ?_; rintro e w1 ⟨i, rfl, hi, b1⟩
  have HI := Lib.hid hi; clear hi
  go_wp2_with fail
  go_ret
  exact ⟨ret_bool HI.out, b1⟩
end Go.Proofs.YthaampckdcimmaaGreatDoor
