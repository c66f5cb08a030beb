/- The homonyms of an entry in a list, by the reference. -/
import Derived.Test.YthaampckdcimmaaGreatDoorRows
import Derived.Test.YthaampckdcimmaaGreatDoorL0
import Derived.Test.YthaampckdcimmaaGreatDoorM0
import Derived.WalkKit
import Derived.ProofKit
import Derived.OpenShut
import Derived.BigQuiet
import Derived.Outline
import Derived.WalkSpells
import Derived.WalkLawsBesides
import Derived.Deep.DeepCutAuto
import Derived.Test.YthaampckdcimmaaGreatDoorGC
import Derived.Lib.QuietBelow
import Derived.Deep.QuietTactic
namespace Go.Proofs.YthaampckdcimmaaGreatDoor
open Go.ChangeShapes Go.WideShapes Go.ChangeAt Go.RowKit Go.Sort

theorem wTo_congr {xs : List Ent} {p q : Ent → Bool} (h : ∀ f ∈ xs, p f = q f) : ∀ k, wTo xs p k = wTo xs q k
  | 0 => rfl
  | k + 1 => by
    rw [wTo, wTo, wTo_congr h k]
    cases hk : xs[k]? with
    | none => rfl
    | some b => simp only [h b (List.mem_of_getElem? hk)]
theorem four_regrown {W0 : World} {g : Nat} {t : TypeId} {a b c d : Value} (h : Blk W0 g t #[a, b, c, d]) :
    (∀ x os, (grow (redrawn W0 x) os).cell? ⟨g, 0, none⟩ = some a) ∧ (∀ x os, (grow (redrawn W0 x) os).cell? ⟨g, 1, none⟩ = some b) ∧ (∀ x os, (grow (redrawn W0 x) os).cell? ⟨g, 2, none⟩ = some c) ∧ (∀ x os, (grow (redrawn W0 x) os).cell? ⟨g, 3, none⟩ = some d) := by
  obtain ⟨h0, h1, h2, h3⟩ := cells_4 h
  exact ⟨cell_regrown h0, cell_regrown h1, cell_regrown h2, cell_regrown h3⟩
set_option maxRecDepth 100000 in
set_option maxHeartbeats 2000000 in
theorem specWhich_any (xs : List Ent) (b : Ent) (dist : Int) (older : Bool) (hx : ∀ f ∈ xs, entB f = true) (hb : entB b = true) (hd : 0 ≤ dist ∧ dist ≤ 4000) (A : Option Addr) (c : Nat) (w : World) (h : HasEnt w xs A) (hm : xs.length ≤ 12) :
    Calls Tryz.prog 47 #[.slice A xs.length c, b.val, .int .i64 dist, .bool older] w fun e w' => ∃ v, e = .returned v ∧ w'.ownsRow w.heap.size 2 1 v (whichE xs (fun f => homB f b dist && (decide (cmpE f b ≤ 0) == older))).length (inC (whichE xs (fun f => homB f b dist && (decide (cmpE f b ≤ 0) == older)))) ∧ Below w.heap.size w w' := by
  obtain ⟨i0, hi0, hz0, hz1, hz2⟩ := info_parts infoInt
  have H := Lib.hid h; clear h
  have HX := Lib.hid hx; clear hx
  have HB := Lib.hid hb; clear hb
  have KN := Lib.hid (blks_two w 28 2 #[.string b.text, .int .i64 b.x, .int .i64 b.y, .int .i64 b.since] #[])
  have HHm := Lib.hid (fun f hf => specHom_any f b hf HB.out dist hd)
  have HCm := Lib.hid (fun f hf => specCmpE_any f b hf HB.out)
  obtain ⟨P, hP⟩ : ∃ P : Ent → Bool, (fun f => homB f b dist && (decide (cmpE f b ≤ 0) == older)) = P := ⟨_, rfl⟩
  have HPf := Lib.hid (fun f => (congrFun hP f).symm)
  rw [hP]
  clear hP
  have HL := Lib.hid (show whichE xs P = wTo xs P xs.length from rfl)
  generalize whichE xs P = LL at HL ⊢
  unfold Ent.val at HHm HCm ⊢
  go_enter Tryz.func47, Tryz.ntmps47
  go_upto_region 2 with (fail)
  generalize hW : (w.alloc (.cells #[.string b.text, .int .i64 b.x, .int .i64 b.y, .int .i64 b.since] 28)).alloc (.cells #[] 2) = W
  obtain ⟨kb, ke, bw, hsz⟩ := KN.out W hW.symm
  have OW := Lib.hid (show W.ownsRow w.heap.size 2 1 (.slice (some ⟨w.heap.size + 1, 0, none⟩) 0 0) 0 (inC []) by
    have := World.ownsRow_made (e := 2) (base := w.heap.size) (size := 1) (w.alloc (.cells #[.string b.text, .int .i64 b.x, .int .i64 b.y, .int .i64 b.since] 28)) #[] 0 (by simp) (by decide) rfl
    rw [hW] at this
    simpa [inC] using this)
  clear hW hsz ke
  have KB := Lib.hid kb; have BW0 := Lib.hid bw; have LB := Lib.hid kb.lt; clear kb bw
  go_wp2_with fail
  go_loopw [9, 10] (fun v9 v10 wr => ∃ (k n : Nat) (B : Option Addr) (d : Nat), k ≤ xs.length ∧ n ≤ k ∧ Hid ((wTo xs P k).length = n) ∧ v9 = .slice B n d ∧ Hid (wr.ownsRow w.heap.size 2 1 (.slice B n d) n (inC (wTo xs P k))) ∧ Hid (Blk wr w.heap.size 28 #[.string b.text, .int .i64 b.x, .int .i64 b.y, .int .i64 b.since] ∧ ∀ g, (Value.slice B n d).ownBlock = some g → w.heap.size < g) ∧ Hid (Below w.heap.size w wr) ∧ v10 = .int .i64 k) (fun _ i _ => xs.length - (intOf i).toNat)
  case atStart => exact ⟨0, 0, _, _, by omega, by omega, rfl, rfl, OW.out, ⟨KB.out, fun g hg => by simp [Value.ownBlock] at hg; omega⟩, BW0.out, rfl⟩
  case round =>
    obtain ⟨k, n, B, d, hk, hnk, HN, rfl, HO, HK, BW, rfl⟩ := hrel
    by_cases hlt : k < xs.length
    · obtain ⟨ab, ao, rfl, hadb, hcell⟩ := (H.out.below BW.out).1.2 (by omega)
      obtain ⟨e0, e1, e2, e3⟩ := enC_get xs k hlt
      have c0 := hcell _ _ e0
      have c1 := hcell _ _ e1
      have c2 := hcell _ _ e2
      have c3 := hcell _ _ e3
      rw [← Nat.add_assoc] at c1 c2 c3
      clear hcell e0 e1 e2 e3
      have HW1 := Lib.hid (wTo_at (xs := xs) (p := P) hlt)
      have HH1 := Lib.hid (HHm.out xs[k] (HX.out _ (List.getElem_mem hlt)))
      have HC1 := Lib.hid (HCm.out xs[k] (HX.out _ (List.getElem_mem hlt)))
      have HP1 := Lib.hid (HPf.out xs[k])
      generalize xs[k] = f at c0 c1 c2 c3 HW1 HH1 HC1 HP1
      go_upto_region 5 with (fail)
      have k0 := cell_regrown c0
      have k1 := cell_regrown c1
      have k2 := cell_regrown c2
      have k3 := cell_regrown c3
      obtain ⟨x0, x1, x2, x3⟩ := four_regrown HK.out.1
      clear c0 c1 c2 c3
      generalize cmpE f b = q at HC1 HP1
      have r1 : ∀ d os, Calls Tryz.prog 45 #[.agg #[.string f.text, .int .i64 f.x, .int .i64 f.y, .int .i64 f.since], .agg #[.string b.text, .int .i64 b.x, .int .i64 b.y, .int .i64 b.since], .int .i64 dist] (grow (redrawn wr d) os) (fun e w'' => e = .returned (.bool (homB f b dist)) ∧ ∃ p : Regrown, w'' = grow (redrawn wr p.d) p.os) := fun d os => Calls.regrown_of (HH1.out _)
      have r2 : ∀ d os, Calls Tryz.prog 68 #[.agg #[.string f.text, .int .i64 f.x, .int .i64 f.y, .int .i64 f.since], .agg #[.string b.text, .int .i64 b.x, .int .i64 b.y, .int .i64 b.since]] (grow (redrawn wr d) os) (fun e w'' => e = .returned (.int .i64 q) ∧ ∃ p : Regrown, w'' = grow (redrawn wr p.d) p.os) := fun d os => Calls.regrown_of (HC1.out _)
      cases q1 : homB f b dist
      · have HL1 := Lib.hid (show wTo xs P (k + 1) = wTo xs P k by rw [HW1.out, HP1.out, q1]; rfl)
        rw [q1] at r1
        clear q1 r2
        refine wp_region_quiet_below (by kernel_rfl) (by kernel_rfl) ?_; (repeat (first | go_big_quiet_step ((first | with_reducible exact r1 _ _)))); refine wpQuiet_nil ?_; intro _ hw'; obtain ⟨⟨dq, osq⟩, rfl⟩ := hw'
        have HK2 := Lib.hid (HK.out.1.below (below_regrown wr dq osq) HK.out.1.lt)
        have O2 := Lib.hid (own_below HO.out (below_regrown wr dq osq))
        have B2 := Lib.hid (BW.out.trans ((below_regrown wr dq osq).mono BW.out.size))
        generalize grow (redrawn wr dq) osq = w2 at HK2 O2 B2 ⊢
        clear r1 k0 k1 k2 k3 x0 x1 x2 x3
        go_wp2_with fail
        go_roundw
        case rel => exact ⟨k + 1, n, B, d, by omega, by omega, by rw [HL1.out]; exact HN.out, rfl, by rw [HL1.out]; exact O2.out, ⟨HK2.out, HK.out.2⟩, B2.out, by go_num⟩
        case measure => simp [intOf]; omega
      · by_cases hq : q ≤ 0
        all_goals
          cases older
        · have HL1 := Lib.hid (show wTo xs P (k + 1) = wTo xs P k by rw [HW1.out, HP1.out, q1, decide_eq_true hq]; rfl)
          rw [q1] at r1
          clear q1
          refine wp_region_quiet_below (by kernel_rfl) (by kernel_rfl) ?_; (repeat (first | go_big_quiet_step ((first | with_reducible exact r1 _ _ | with_reducible exact r2 _ _)))); refine wpQuiet_nil ?_; intro _ hw'; obtain ⟨⟨dq, osq⟩, rfl⟩ := hw'
          have HK2 := Lib.hid (HK.out.1.below (below_regrown wr dq osq) HK.out.1.lt)
          have O2 := Lib.hid (own_below HO.out (below_regrown wr dq osq))
          have B2 := Lib.hid (BW.out.trans ((below_regrown wr dq osq).mono BW.out.size))
          generalize grow (redrawn wr dq) osq = w2 at HK2 O2 B2 ⊢
          clear r1 r2 k0 k1 k2 k3 x0 x1 x2 x3
          go_wp2_with fail
          go_roundw
          case rel => exact ⟨k + 1, n, B, d, by omega, by omega, by rw [HL1.out]; exact HN.out, rfl, by rw [HL1.out]; exact O2.out, ⟨HK2.out, HK.out.2⟩, B2.out, by go_num⟩
          case measure => simp [intOf]; omega
        · have HL1 := Lib.hid (show wTo xs P (k + 1) = wTo xs P k ++ [(k : Int)] by rw [HW1.out, HP1.out, q1, decide_eq_true hq]; rfl)
          rw [q1] at r1
          clear q1
          refine wp_region_quiet_below (by kernel_rfl) (by kernel_rfl) ?_; (repeat (first | go_big_quiet_step ((first | with_reducible exact r1 _ _ | with_reducible exact r2 _ _)))); refine wpQuiet_nil ?_; intro _ hw'; obtain ⟨⟨dq, osq⟩, rfl⟩ := hw'
          have HK2 := Lib.hid (HK.out.1.below (below_regrown wr dq osq) HK.out.1.lt)
          have O2 := Lib.hid (own_below HO.out (below_regrown wr dq osq))
          have B2 := Lib.hid (BW.out.trans ((below_regrown wr dq osq).mono BW.out.size))
          generalize grow (redrawn wr dq) osq = w2 at HK2 O2 B2 ⊢
          clear r1 r2 k0 k1 k2 k3 x0 x1 x2 x3
          go_wp2_with (at_builtin; refine wpList_append_any _ rfl (.tmp 36) (.tmp 38) _ rfl w.heap.size 2 i0 _ 1 8 Tryz.underlying31 hi0 hz0 hz1 hz2 rfl (by omega) (.slice B n d) n (inC (wTo xs P k)) rfl (O2.out.alloc _) _ (some ⟨w2.heap.size, 0, none⟩) 1 1 [.int .i64 k] rfl (new_in1 _ _ _) (by simp [Value.oneCell']) (by simp only [maxLen]; omega) (by omega) (by have := B2.out.size; simp; omega) ?_; intro v4 w4 hown4 hg4 hat4; obtain ⟨B4, d4, rfl, _⟩ := own_shape hown4)
          go_roundw
          case rel => exact ⟨k + 1, n + 1, B4, d4, by omega, by omega, by have := HN.out; rw [HL1.out]; simp [Hid, this], rfl, by rw [HL1.out, inC_snoc]; exact hown4, ⟨(HK2.out.alloc _).grown hg4 (fun e => by have := HK.out.2 _ e.symm; omega), fun g hg => by
              rcases hat4 with h4 | h4
              · rw [h4] at hg; exact HK.out.2 g hg
              · rw [h4] at hg; have := HK2.out.lt; injection hg with hg; subst hg; simp; omega⟩, below_own (B2.out.alloc B2.out.size _) (O2.out.alloc _) hg4 (Nat.le_refl _) (by have := B2.out.size; simp; omega), by go_num⟩
          case measure => simp [intOf]; omega
        · have HL1 := Lib.hid (show wTo xs P (k + 1) = wTo xs P k ++ [(k : Int)] by rw [HW1.out, HP1.out, q1, decide_eq_false hq]; rfl)
          rw [q1] at r1
          clear q1
          refine wp_region_quiet_below (by kernel_rfl) (by kernel_rfl) ?_; (repeat (first | go_big_quiet_step ((first | with_reducible exact r1 _ _ | with_reducible exact r2 _ _)))); refine wpQuiet_nil ?_; intro _ hw'; obtain ⟨⟨dq, osq⟩, rfl⟩ := hw'
          have HK2 := Lib.hid (HK.out.1.below (below_regrown wr dq osq) HK.out.1.lt)
          have O2 := Lib.hid (own_below HO.out (below_regrown wr dq osq))
          have B2 := Lib.hid (BW.out.trans ((below_regrown wr dq osq).mono BW.out.size))
          generalize grow (redrawn wr dq) osq = w2 at HK2 O2 B2 ⊢
          clear r1 r2 k0 k1 k2 k3 x0 x1 x2 x3
          go_wp2_with (at_builtin; refine wpList_append_any _ rfl (.tmp 36) (.tmp 38) _ rfl w.heap.size 2 i0 _ 1 8 Tryz.underlying31 hi0 hz0 hz1 hz2 rfl (by omega) (.slice B n d) n (inC (wTo xs P k)) rfl (O2.out.alloc _) _ (some ⟨w2.heap.size, 0, none⟩) 1 1 [.int .i64 k] rfl (new_in1 _ _ _) (by simp [Value.oneCell']) (by simp only [maxLen]; omega) (by omega) (by have := B2.out.size; simp; omega) ?_; intro v4 w4 hown4 hg4 hat4; obtain ⟨B4, d4, rfl, _⟩ := own_shape hown4)
          go_roundw
          case rel => exact ⟨k + 1, n + 1, B4, d4, by omega, by omega, by have := HN.out; rw [HL1.out]; simp [Hid, this], rfl, by rw [HL1.out, inC_snoc]; exact hown4, ⟨(HK2.out.alloc _).grown hg4 (fun e => by have := HK.out.2 _ e.symm; omega), fun g hg => by
              rcases hat4 with h4 | h4
              · rw [h4] at hg; exact HK.out.2 g hg
              · rw [h4] at hg; have := HK2.out.lt; injection hg with hg; subst hg; simp; omega⟩, below_own (B2.out.alloc B2.out.size _) (O2.out.alloc _) hg4 (Nat.le_refl _) (by have := B2.out.size; simp; omega), by go_num⟩
          case measure => simp [intOf]; omega
        · have HL1 := Lib.hid (show wTo xs P (k + 1) = wTo xs P k by rw [HW1.out, HP1.out, q1, decide_eq_false hq]; rfl)
          rw [q1] at r1
          clear q1
          refine wp_region_quiet_below (by kernel_rfl) (by kernel_rfl) ?_; (repeat (first | go_big_quiet_step ((first | with_reducible exact r1 _ _ | with_reducible exact r2 _ _)))); refine wpQuiet_nil ?_; intro _ hw'; obtain ⟨⟨dq, osq⟩, rfl⟩ := hw'
          have HK2 := Lib.hid (HK.out.1.below (below_regrown wr dq osq) HK.out.1.lt)
          have O2 := Lib.hid (own_below HO.out (below_regrown wr dq osq))
          have B2 := Lib.hid (BW.out.trans ((below_regrown wr dq osq).mono BW.out.size))
          generalize grow (redrawn wr dq) osq = w2 at HK2 O2 B2 ⊢
          clear r1 r2 k0 k1 k2 k3 x0 x1 x2 x3
          go_wp2_with fail
          go_roundw
          case rel => exact ⟨k + 1, n, B, d, by omega, by omega, by rw [HL1.out]; exact HN.out, rfl, by rw [HL1.out]; exact O2.out, ⟨HK2.out, HK.out.2⟩, B2.out, by go_num⟩
          case measure => simp [intOf]; omega
    · obtain rfl : k = xs.length := by omega
      have HN' := HN.out
      go_wp2_with fail
      go_ret
      exact ⟨_, rfl, by rw [HL.out, HN']; exact HO.out, BW.out⟩
end Go.Proofs.YthaampckdcimmaaGreatDoor
