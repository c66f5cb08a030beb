/- The order of precedence, of the reference. -/
import Derived.Test.YthaampckdcimmaaGreatDoorRows
import Derived.Test.YthaampckdcimmaaGreatDoorL0
import Derived.Test.YthaampckdcimmaaGreatDoorM0
import Derived.WalkKit
import Derived.ProofKit
import Derived.OpenShut
import Derived.BigQuiet
import Derived.Outline
import Derived.WalkSpells
import Derived.WalkLawsBesides
import Derived.Deep.DeepCutAuto
import Derived.Test.YthaampckdcimmaaGreatDoorGQ
import Derived.Test.YthaampckdcimmaaGreatDoorGH
import Derived.Deep.RegionHeld3
import Derived.Deep.AppendLies
namespace Go.Proofs.YthaampckdcimmaaGreatDoor
open Go.ChangeShapes Go.WideShapes Go.ChangeAt Go.RowKit Go.Sort

theorem made_a (w : World) (t : TypeId) : (w.alloc (.cells #[] t)).ownsRow w.heap.size t 1 (.slice (some ⟨w.heap.size, 0, none⟩) 0 0) 0 [] := World.ownsRow_made (e := t) (size := 1) w #[] 0 (Nat.le_refl _) (by decide) rfl
theorem made_b (w : World) (o : Obj) (t : TypeId) : ((w.alloc o).alloc (.cells #[] t)).ownsRow (w.heap.size + 1) t 1 (.slice (some ⟨w.heap.size + 1, 0, none⟩) 0 0) 0 [] := by
  have := made_a (w.alloc o) t
  simpa using this
theorem one_new (w : World) (t : TypeId) (u : Value) : Reads (w.alloc (.cells #[u] t)) (w.heap.size + 1) 1 (some ⟨w.heap.size, 0, none⟩) 1 [u] :=
  ⟨rfl, fun _ => ⟨w.heap.size, 0, rfl, by omega, fun j v hv => by
    rw [Nat.zero_add, (Blk.new w t #[u]).cell]; simpa using hv⟩⟩
theorem one_a (w : World) (t : TypeId) (u : Value) (o : Obj) : Reads ((w.alloc (.cells #[u] t)).alloc o) (w.heap.size + 1) 1 (some ⟨w.heap.size, 0, none⟩) 1 [u] := (one_new w t u).alloc (by simp) o
theorem one_b (w : World) (o : Obj) (t : TypeId) (u : Value) : Reads ((w.alloc o).alloc (.cells #[u] t)) (w.heap.size + 1 + 1) 1 (some ⟨w.heap.size + 1, 0, none⟩) 1 [u] := by
  have := one_new (w.alloc o) t u
  simpa using this
theorem one_grown {w w1 : World} {g : Nat} {u : Value} {row : Option Nat} (h : Reads w (g + 1) 1 (some ⟨g, 0, none⟩) 1 [u]) (hg : w.grownBy w1 row) (hl : g < w.heap.size) (hr : row ≠ some g) : Reads w1 (g + 1) 1 (some ⟨g, 0, none⟩) 1 [u] :=
  ⟨rfl, fun _ => ⟨g, 0, rfl, by omega, fun j x hx => by
    obtain ⟨b, off, e, _, hc⟩ := h.2 (by omega)
    cases e
    exact (World.cell?_of_block (hg.block g hl (fun e => hr e.symm))).trans (hc j x hx)⟩⟩
theorem inC_gt (S : List Int) (j : Nat) : (inC S)[j]? = S[j]?.map (Value.int .i64) := by unfold inC; rw [List.getElem?_map]
theorem inC_leng (S : List Int) : (inC S).length = S.length := by simp [inC]
/-- A part of a row. -/
theorem own_part {w : World} {base : Nat} {t : TypeId} {g n d : Nat} {S : List Int} (h : w.ownsRow base t 1 (.slice (some ⟨g, 0, none⟩) n d) n (inC S)) (hn : S.length = n) (hg : g < w.heap.size) (a b : Nat) (hab : a + b ≤ n) (T : List Int) (hT : T.length = b) (hS : ∀ j, j < b → S[a + j]? = T[j]?) : Reads w w.heap.size 1 (some ⟨g, a, none⟩) b (inC T) :=
  ⟨by rw [inC_leng, hT, Nat.mul_one], fun _ => ⟨g, a, rfl, hg, fun j u hu => by
    have hj : j < b := by
      have := (List.getElem?_eq_some_iff.1 hu).1
      rw [inC_leng, hT] at this
      exact this
    rw [h.cellAt (a + j) (by omega), inC_gt, hS j hj, ← inC_gt]
    exact hu⟩⟩
set_option maxRecDepth 100000 in
set_option maxHeartbeats 4000000 in
theorem specOrd_any (xs : List Ent) (hx : ∀ f ∈ xs, entB f = true) (A : Option Addr) (c : Nat) (w : World) (h : HasEnt w xs A) (hm : xs.length ≤ 12) :
    Calls Tryz.prog 58 #[.slice A xs.length c] w fun e w' => ∃ v, e = .returned v ∧ w'.ownsRow w.heap.size 2 1 v (ordL (ltE xs) xs.length).length (inC (ordL (ltE xs) xs.length)) ∧ Below w.heap.size w w' := by
  obtain ⟨i0, hi0, hz0, hz1, hz2⟩ := info_parts infoInt
  have H := Lib.hid h; clear h
  have HCp := Lib.hid (fun i k (hi : i < xs.length) (hk : k < xs.length) => specCmpE_any xs[i] xs[k] (hx _ (List.getElem_mem hi)) (hx _ (List.getElem_mem hk)))
  have HLl := Lib.hid (ordL_len (ltE xs) xs.length)
  obtain ⟨lt, hlt⟩ : ∃ lt, ltE xs = lt := ⟨_, rfl⟩
  have HLt := Lib.hid (show ∀ (i k : Nat) (hi : i < xs.length) (hk : k < xs.length), lt i k = decide (cmpE xs[i] xs[k] < 0) by intro i k hi hk; rw [← hlt, ltE, atE_eq hi, atE_eq hk])
  rw [HLl.out, hlt]
  clear hlt hx
  go_enter Tryz.func58, Tryz.ntmps58
  go_wp2_with fail
  go_loopw [3, 4] (fun v3 v4 wr => ∃ (k g d : Nat), k ≤ xs.length ∧ v3 = .slice (some ⟨g, 0, none⟩) k d ∧ k ≤ d ∧ g < wr.heap.size ∧ Hid (wr.ownsRow w.heap.size 2 1 (.slice (some ⟨g, 0, none⟩) k d) k (inC (ordL lt k))) ∧ Hid (Below w.heap.size w wr) ∧ v4 = .int .i64 k) (fun _ i _ => xs.length - (intOf i).toNat)
  case atStart => exact ⟨0, _, 0, by omega, rfl, by omega, by simp, made_a w _, (Below.refl _ _).alloc (Nat.le_refl _) _, rfl⟩
  case round =>
    obtain ⟨k, g, d, hk, rfl, hkd, hgl, HO, BW, rfl⟩ := hrel
    by_cases hlt : k < xs.length
    · have HSl := Lib.hid (ordL_len lt k)
      have HSi := Lib.hid (ordL_in lt k)
      have HNx := Lib.hid (ord_next lt k)
      generalize ordL lt k = S at *
      rw [HSl.out] at HNx
      go_wp2_with fail
      go_loopw [5] (fun v5 wr => ∃ j : Nat, j ≤ k ∧ g < wr.heap.size ∧ Hid (wr.ownsRow w.heap.size 2 1 (.slice (some ⟨g, 0, none⟩) k d) k (inC S)) ∧ Hid (posR lt k S j = posR lt k S k) ∧ Hid (Below w.heap.size w wr) ∧ v5 = .int .i64 j) (fun a _ => (intOf a).toNat)
      case atStart => exact ⟨k, Nat.le_refl _, hgl, HO.out, rfl, BW.out, rfl⟩
      case round =>
        clear HO BW
        obtain ⟨j, hj, hgl, HO, HPo, BW, rfl⟩ := hrel
        have hSl : S.length = k := HSl.out
        obtain ⟨ab, ao, rfl, hadb, hcell⟩ := (H.out.below BW.out).1.2 (by omega)
        obtain ⟨e0, e1, e2, e3⟩ := enC_get xs k hlt
        have c0 := cell_regrown (hcell _ _ e0)
        have c1 := cell_regrown (hcell _ _ e1)
        have c2 := cell_regrown (hcell _ _ e2)
        have c3 := cell_regrown (hcell _ _ e3)
        simp only [← Nat.add_assoc] at c1 c2 c3
        clear e0 e1 e2 e3
        cases j with
        | zero =>
          have HX := Lib.hid (show midL S k 0 = ordL lt (k + 1) by rw [← HNx.out, ← HPo.out]; rfl)
          go_upto_region 6 with (fail)
          refine wp_region_quiet_below (by kernel_rfl) (by kernel_rfl) ?_; (repeat (first | go_big_quiet_step (fail))); refine wpQuiet_nil ?_; intro _ hw'; obtain ⟨⟨dq, osq⟩, rfl⟩ := hw'
          have O2 := Lib.hid (own_below HO.out (below_regrown wr dq osq))
          have B2 := Lib.hid (BW.out.trans ((below_regrown wr dq osq).mono BW.out.size))
          have hg2 : g < (grow (redrawn wr dq) osq).heap.size := by have := (below_regrown wr dq osq).size; omega
          (try clear hcell)
          clear c0 c1 c2 c3 HO BW hgl hadb
          generalize grow (redrawn wr dq) osq = w2 at O2 B2 hg2 ⊢
          clear wr
          generalize w2 = wr at *
          have R1 := Lib.hid (own_part O2.out HSl.out hg2 0 (0) (by omega) (S.take (0)) (by rw [List.length_take]; omega) (fun i hi => by rw [Nat.zero_add, List.getElem?_take_of_lt hi]))
          have R2 := Lib.hid (own_part O2.out HSl.out hg2 (0) (k - (0)) (by omega) (S.drop (0)) (by rw [List.length_drop]; omega) (fun i hi => by rw [List.getElem?_drop]))
          have HXl := Lib.hid (show inC (S.take (0)) ++ [.int .i64 k] ++ inC (S.drop (0)) = inC (ordL lt (k + 1)) by rw [← HX.out]; unfold midL; simp [inC])
          have hs0 : (0 : Int) ≤ (0 : Int) := by omega
          have hs1 : (0 : Int) ≤ (d : Int) := by omega
          have hs2 : (0 : Int) ≤ ((k : Nat) : Int) := by omega
          have hs3 : ((k : Nat) : Int) ≤ (d : Int) := by omega
          have hs4 : (0 : Int).toNat = 0 := by omega
          go_upto_region 8 with (fail)
          go_region_held3 (fun w' => wr.heap.size ≤ w'.heap.size)
            (first | exact k0 | exact Nat.le_refl _ | (simp; done) | (simp; omega))
            (first | (refine step_append_any _ (by rfl) (.tmp 35) (.tmp 38) _ (by rfl) wr.heap.size 2 i0 _ 1 8 Tryz.underlying31 hi0 hz0 hz1 hz2 rfl (by omega) (.slice (some ⟨wr.heap.size, 0, none⟩) 0 0) 0 [] (by rfl) (World.ownsRow.drew ((made_a wr _).alloc _)) wr.heap.size (some ⟨g, 0, none⟩) (0) d (inC (S.take (0))) (by rfl) (R1.out.below ((((Below.refl wr.heap.size wr).alloc (Nat.le_refl _) (.cells #[] 2)).alloc (by simp) (.cells #[.int .i64 k] 2))).drew) (inC_one _) (by simp only [maxLen]; omega) (by omega) (by first | (simp; done) | (simp; omega)) ?_; intro v1 w1 hown1' hg1 hat1; have hown1 := (show w1.ownsRow wr.heap.size 2 1 v1 (0) (inC (S.take (0))) by simpa using hown1'); clear hown1'; obtain ⟨A1, cc1, rfl, _⟩ := own_shape hown1; have hb1 : Below wr.heap.size wr w1 := below_own ((((Below.refl wr.heap.size wr).alloc (Nat.le_refl _) (.cells #[] 2)).alloc (by simp) (.cells #[.int .i64 k] 2))).drew (World.ownsRow.drew ((made_a wr _).alloc _)) hg1 (Nat.le_refl _) (by first | (simp; done) | (simp; omega)); have k0 := hb1.size; have rc1 : Reads w1 ((wr.heap.size + 1) + 1) 1 (some ⟨(wr.heap.size + 1), 0, none⟩) 1 [.int .i64 k] := one_grown (Reads.drew (one_b wr (.cells #[] 2) 2 (.int .i64 k))) hg1 (by first | (simp; done) | (simp; omega)) (by simp [Value.ownBlock])) | (refine step_append_any _ (by rfl) (.tmp 35) (.tmp 38) _ (by rfl) wr.heap.size 2 i0 _ 1 8 Tryz.underlying31 hi0 hz0 hz1 hz2 rfl (by omega) (.slice (some ⟨wr.heap.size + 1, 0, none⟩) 0 0) 0 [] (by rfl) (World.ownsRow.drew (own_mono (made_b wr (.cells #[.int .i64 k] 2) _) (by simp))) wr.heap.size (some ⟨g, 0, none⟩) (0) d (inC (S.take (0))) (by rfl) (R1.out.below ((((Below.refl wr.heap.size wr).alloc (Nat.le_refl _) (.cells #[.int .i64 k] 2)).alloc (by simp) (.cells #[] 2))).drew) (inC_one _) (by simp only [maxLen]; omega) (by omega) (by first | (simp; done) | (simp; omega)) ?_; intro v1 w1 hown1' hg1 hat1; have hown1 := (show w1.ownsRow wr.heap.size 2 1 v1 (0) (inC (S.take (0))) by simpa using hown1'); clear hown1'; obtain ⟨A1, cc1, rfl, _⟩ := own_shape hown1; have hb2 : Below wr.heap.size wr w1 := below_own ((((Below.refl wr.heap.size wr).alloc (Nat.le_refl _) (.cells #[.int .i64 k] 2)).alloc (by simp) (.cells #[] 2))).drew (World.ownsRow.drew (own_mono (made_b wr (.cells #[.int .i64 k] 2) _) (by simp))) hg1 (Nat.le_refl _) (by first | (simp; done) | (simp; omega)); have k0 := hb2.size; have rc2 : Reads w1 (wr.heap.size + 1) 1 (some ⟨wr.heap.size, 0, none⟩) 1 [.int .i64 k] := one_grown (Reads.drew (one_a wr 2 (.int .i64 k) (.cells #[] 2))) hg1 (by first | (simp; done) | (simp; omega)) (by simp [Value.ownBlock])) | (refine step_append_any _ (by rfl) (.tmp 35) (.tmp 38) _ (by rfl) wr.heap.size 2 i0 _ 1 8 Tryz.underlying31 hi0 hz0 hz1 hz2 rfl (by omega) (.slice (some ⟨wr.heap.size, 0, none⟩) 0 0) 0 [] (by rfl) (World.ownsRow.drew (made_a wr _)) wr.heap.size (some ⟨g, 0, none⟩) (0) d (inC (S.take (0))) (by rfl) (R1.out.below (((Below.refl wr.heap.size wr).alloc (Nat.le_refl _) (.cells #[] 2))).drew) (inC_one _) (by simp only [maxLen]; omega) (by omega) (by first | (simp; done) | (simp; omega)) ?_; intro v1 w1 hown1' hg1 hat1; have hown1 := (show w1.ownsRow wr.heap.size 2 1 v1 (0) (inC (S.take (0))) by simpa using hown1'); clear hown1'; obtain ⟨A1, cc1, rfl, _⟩ := own_shape hown1; have hb0 : Below wr.heap.size wr w1 := below_own (((Below.refl wr.heap.size wr).alloc (Nat.le_refl _) (.cells #[] 2))).drew (World.ownsRow.drew (made_a wr _)) hg1 (Nat.le_refl _) (by first | (simp; done) | (simp; omega)); have k0 := hb0.size) | (refine step_append_any _ (by rfl) (.tmp 39) (.tmp 41) _ (by rfl) wr.heap.size 2 i0 _ 1 8 Tryz.underlying31 hi0 hz0 hz1 hz2 rfl (by omega) (.slice A1 (0) cc1) (0) (inC (S.take (0))) (by rfl) (hown1.alloc _) _ (some ⟨w1.heap.size, 0, none⟩) 1 1 [.int .i64 k] (by rfl) (new_in1 w1 _ _) (by simp [Value.oneCell']) (by simp only [maxLen]; omega) (by omega) (by have := hb0.size; simp; omega) ?_; intro v2 w2 hown2 hg2 hat2; have hb : Below wr.heap.size wr w2 := below_own (hb0.alloc hb0.size _) (hown1.alloc _) hg2 (Nat.le_refl _) (by have := hb0.size; simp; omega); obtain ⟨A2, cc2, rfl, _⟩ := own_shape hown2; have k0 := hb.size) | (refine step_append_any _ (by rfl) (.tmp 39) (.tmp 41) _ (by rfl) wr.heap.size 2 i0 _ 1 8 Tryz.underlying31 hi0 hz0 hz1 hz2 rfl (by omega) (.slice A1 (0) cc1) (0) (inC (S.take (0))) (by rfl) hown1 _ (some ⟨(wr.heap.size + 1), 0, none⟩) 1 1 [.int .i64 k] (by rfl) rc1 (by simp [Value.oneCell']) (by simp only [maxLen]; omega) (by omega) hb1.size ?_; intro v2 w2 hown2 hg2 hat2; have hb : Below wr.heap.size wr w2 := below_own hb1 hown1 hg2 (Nat.le_refl _) hb1.size; obtain ⟨A2, cc2, rfl, _⟩ := own_shape hown2; have k0 := hb.size) | (refine step_append_any _ (by rfl) (.tmp 39) (.tmp 41) _ (by rfl) wr.heap.size 2 i0 _ 1 8 Tryz.underlying31 hi0 hz0 hz1 hz2 rfl (by omega) (.slice A1 (0) cc1) (0) (inC (S.take (0))) (by rfl) hown1 _ (some ⟨wr.heap.size, 0, none⟩) 1 1 [.int .i64 k] (by rfl) rc2 (by simp [Value.oneCell']) (by simp only [maxLen]; omega) (by omega) hb2.size ?_; intro v2 w2 hown2 hg2 hat2; have hb : Below wr.heap.size wr w2 := below_own hb2 hown1 hg2 (Nat.le_refl _) hb2.size; obtain ⟨A2, cc2, rfl, _⟩ := own_shape hown2; have k0 := hb.size) | (refine step_append_any _ (by rfl) (.tmp 42) (.tmp 45) _ (by rfl) wr.heap.size 2 i0 _ 1 8 Tryz.underlying31 hi0 hz0 hz1 hz2 rfl (by omega) (.slice A2 ((0) + 1) cc2) ((0) + 1) (inC (S.take (0)) ++ [.int .i64 k]) (by rfl) hown2 wr.heap.size (some ⟨g, (0), none⟩) (k - (0)) (d - (0)) (inC (S.drop (0))) (by rfl) (R2.out.below hb) (inC_one _) (by simp only [maxLen]; omega) (by omega) hb.size ?_; intro v3 w3 hown3 hg3 hat3; have hb3 : Below wr.heap.size wr w3 := below_own hb hown2 hg3 (Nat.le_refl _) hb.size; obtain ⟨A3, cc3, rfl, _⟩ := own_shape hown3; have k0 := hb3.size) | fail)
          all_goals
            have hown4 : w3.ownsRow wr.heap.size 2 1 (.slice A3 (k + 1) cc3) (k + 1) (inC (ordL lt (k + 1))) := by
              have hh := hown3
              rw [HXl.out] at hh
              rw [show 0 + 1 + (k - (0)) = k + 1 by omega] at hh
              exact hh
            clear hown3
            obtain ⟨g3, d3, hv, hbg3, hgl3⟩ := hown4.form (by omega)
            simp only [Value.slice.injEq, true_and] at hv
            obtain ⟨rfl, rfl⟩ := hv
            have hc3 := Lib.hid (own_shape hown4)
            have O3 := Lib.hid (own_mono hown4 B2.out.size); have B3 := Lib.hid (B2.out.trans (hb3.mono B2.out.size))
            clear hown4 hb3 hs0 hs1 hs2 hs3 hs4
            go_wp2_with fail
            go_roundw
            case rel => exact ⟨k + 1, g3, cc3, by omega, (by first | rfl | (congr 1; omega)), by obtain ⟨_, _, e, h⟩ := hc3.out; simp only [Value.slice.injEq, true_and] at e; omega, hgl3, O3.out, B3.out, by go_num⟩
            case measure => simp [intOf]; omega
        | succ jp =>
          have hjS : jp < S.length := by omega
          have hgo := posR_go (lt := lt) (x := (k : Int)) hjS
          have hstop := posR_stop (lt := lt) (x := (k : Int)) hjS
          obtain ⟨hv0, hv1⟩ := HSi.out S[jp] (List.getElem_mem hjS)
          obtain ⟨v, hv⟩ : ∃ v : Nat, S[jp] = (v : Int) := ⟨S[jp].toNat, by omega⟩
          rw [hv] at hgo hstop hv1
          have hvn : v < xs.length := by omega
          have cb := HO.out.cellAt jp (by omega)
          have hcb : (inC S)[jp]? = some (.int .i64 v) := by rw [inC_gt, List.getElem?_eq_getElem hjS, hv]; rfl
          rw [hcb] at cb
          have lb := cell_regrown cb
          obtain ⟨e0, e1, e2, e3⟩ := enC_get xs v hvn
          have d0 := cell_regrown (hcell _ _ e0)
          have d1 := cell_regrown (hcell _ _ e1)
          have d2 := cell_regrown (hcell _ _ e2)
          have d3 := cell_regrown (hcell _ _ e3)
          simp only [← Nat.add_assoc] at d1 d2 d3
          have HL1 := HLt.out k v hlt hvn
          have HC1 := Lib.hid (HCp.out k v hlt hvn)
          generalize xs[k] = a at c0 c1 c2 c3 HL1 HC1
          generalize xs[v] = b at d0 d1 d2 d3 HL1 HC1
          unfold Ent.val at HC1
          generalize cmpE a b = q at HL1 HC1
          have r1 : ∀ d os, Calls Tryz.prog 68 #[.agg #[.string a.text, .int .i64 a.x, .int .i64 a.y, .int .i64 a.since], .agg #[.string b.text, .int .i64 b.x, .int .i64 b.y, .int .i64 b.since]] (grow (redrawn wr d) os) (fun e w'' => e = .returned (.int .i64 q) ∧ ∃ p : Regrown, w'' = grow (redrawn wr p.d) p.os) := fun d os => Calls.regrown_of (HC1.out _)
          have hw1 : IntKind.i64.wrap (jp : Int) = (jp : Int) := IntWalk.i64_in _ (by omega)
          have HGo := Lib.hid hgo; have HStop := Lib.hid hstop
          clear hcell e0 e1 e2 e3 hgo hstop cb hcb hv hv0 hv1 HC1
          by_cases hq : q < 0
          · rw [decide_eq_true hq] at HL1
            have HPo2 := Lib.hid ((HGo.out HL1).symm.trans HPo.out)
            clear HL1 HPo
            go_upto_region 6 with (fail)
            refine wp_region_quiet_below (by kernel_rfl) (by kernel_rfl) ?_; (repeat (first | go_big_quiet_step ((first | with_reducible exact r1 _ _)))); refine wpQuiet_nil ?_; intro _ hw'; obtain ⟨⟨dq, osq⟩, rfl⟩ := hw'
            have O2 := Lib.hid (own_below HO.out (below_regrown wr dq osq))
            have B2 := Lib.hid (BW.out.trans ((below_regrown wr dq osq).mono BW.out.size))
            have G2 := (below_regrown wr dq osq).size
            clear r1 lb c0 c1 c2 c3 d0 d1 d2 d3
            generalize grow (redrawn wr dq) osq = w2 at O2 B2 G2 ⊢
            go_wp2_with fail
            go_roundw
            case rel => exact ⟨jp, by omega, by omega, O2.out, HPo2.out, B2.out, by go_num⟩
            case measure => simp [intOf]
          · rw [decide_eq_false hq] at HL1
            have HX := Lib.hid (show midL S k (jp + 1) = ordL lt (k + 1) by rw [← HNx.out, ← HPo.out, HStop.out HL1])
            clear HL1
            go_upto_region 6 with (fail)
            refine wp_region_quiet_below (by kernel_rfl) (by kernel_rfl) ?_; (repeat (first | go_big_quiet_step ((first | with_reducible exact r1 _ _)))); refine wpQuiet_nil ?_; intro _ hw'; obtain ⟨⟨dq, osq⟩, rfl⟩ := hw'
            clear r1 lb d0 d1 d2 d3
            by_cases hd : d = jp + 1
            · obtain rfl : k = jp + 1 := by omega
              subst hd
              have O2 := Lib.hid (own_below HO.out (below_regrown wr dq osq))
              have B2 := Lib.hid (BW.out.trans ((below_regrown wr dq osq).mono BW.out.size))
              have hg2 : g < (grow (redrawn wr dq) osq).heap.size := by have := (below_regrown wr dq osq).size; omega
              (try clear hcell)
              clear c0 c1 c2 c3 HO BW hgl hadb
              generalize grow (redrawn wr dq) osq = w2 at O2 B2 hg2 ⊢
              clear wr
              generalize w2 = wr at *
              have R1 := Lib.hid (own_part O2.out HSl.out hg2 0 (jp + 1) (by omega) (S.take (jp + 1)) (by rw [List.length_take]; omega) (fun i hi => by rw [Nat.zero_add, List.getElem?_take_of_lt hi]))
              have hdr : S.drop (jp + 1) = [] := List.drop_eq_nil_of_le (by have := HSl.out; omega)
              have HXl := Lib.hid (show inC (S.take (jp + 1)) ++ [.int .i64 (((jp + 1) : Nat) : Int)] ++ [] = inC (ordL lt ((jp + 1) + 1)) by rw [← HX.out]; unfold midL; rw [hdr]; simp [inC])
              have hs0 : (0 : Int) ≤ ((jp : Int) + 1 : Int) := by omega
              have hs1 : ((jp : Int) + 1 : Int) ≤ ((jp + 1 : Nat) : Int) := by omega
              have hs2 : ((jp : Int) + 1 : Int) ≤ (((jp + 1) : Nat) : Int) := by omega
              have hs3 : (((jp + 1) : Nat) : Int) ≤ ((jp + 1 : Nat) : Int) := by omega
              have hs4 : ((jp : Int) + 1 : Int).toNat = jp + 1 := by omega
              go_upto_region 8 with (fail)
              go_region_held3 (fun w' => wr.heap.size ≤ w'.heap.size)
                (first | exact k0 | exact Nat.le_refl _ | (simp; done) | (simp; omega))
                (first | (refine step_append_any _ (by rfl) (.tmp 35) (.tmp 38) _ (by rfl) wr.heap.size 2 i0 _ 1 8 Tryz.underlying31 hi0 hz0 hz1 hz2 rfl (by omega) (.slice (some ⟨wr.heap.size, 0, none⟩) 0 0) 0 [] (by rfl) (World.ownsRow.drew ((made_a wr _).alloc _)) wr.heap.size (some ⟨g, 0, none⟩) (jp + 1) (jp + 1) (inC (S.take (jp + 1))) (by rfl) (R1.out.below ((((Below.refl wr.heap.size wr).alloc (Nat.le_refl _) (.cells #[] 2)).alloc (by simp) (.cells #[.int .i64 ((jp + 1 : Nat) : Int)] 2))).drew) (inC_one _) (by simp only [maxLen]; omega) (by omega) (by first | (simp; done) | (simp; omega)) ?_; intro v1 w1 hown1' hg1 hat1; have hown1 := (show w1.ownsRow wr.heap.size 2 1 v1 (jp + 1) (inC (S.take (jp + 1))) by simpa using hown1'); clear hown1'; obtain ⟨A1, cc1, rfl, _⟩ := own_shape hown1; have hb1 : Below wr.heap.size wr w1 := below_own ((((Below.refl wr.heap.size wr).alloc (Nat.le_refl _) (.cells #[] 2)).alloc (by simp) (.cells #[.int .i64 ((jp + 1 : Nat) : Int)] 2))).drew (World.ownsRow.drew ((made_a wr _).alloc _)) hg1 (Nat.le_refl _) (by first | (simp; done) | (simp; omega)); have k0 := hb1.size; have rc1 : Reads w1 ((wr.heap.size + 1) + 1) 1 (some ⟨(wr.heap.size + 1), 0, none⟩) 1 [.int .i64 ((jp + 1 : Nat) : Int)] := one_grown (Reads.drew (one_b wr (.cells #[] 2) 2 (.int .i64 ((jp + 1 : Nat) : Int)))) hg1 (by first | (simp; done) | (simp; omega)) (by simp [Value.ownBlock])) | (refine step_append_any _ (by rfl) (.tmp 35) (.tmp 38) _ (by rfl) wr.heap.size 2 i0 _ 1 8 Tryz.underlying31 hi0 hz0 hz1 hz2 rfl (by omega) (.slice (some ⟨wr.heap.size + 1, 0, none⟩) 0 0) 0 [] (by rfl) (World.ownsRow.drew (own_mono (made_b wr (.cells #[.int .i64 ((jp + 1 : Nat) : Int)] 2) _) (by simp))) wr.heap.size (some ⟨g, 0, none⟩) (jp + 1) (jp + 1) (inC (S.take (jp + 1))) (by rfl) (R1.out.below ((((Below.refl wr.heap.size wr).alloc (Nat.le_refl _) (.cells #[.int .i64 ((jp + 1 : Nat) : Int)] 2)).alloc (by simp) (.cells #[] 2))).drew) (inC_one _) (by simp only [maxLen]; omega) (by omega) (by first | (simp; done) | (simp; omega)) ?_; intro v1 w1 hown1' hg1 hat1; have hown1 := (show w1.ownsRow wr.heap.size 2 1 v1 (jp + 1) (inC (S.take (jp + 1))) by simpa using hown1'); clear hown1'; obtain ⟨A1, cc1, rfl, _⟩ := own_shape hown1; have hb2 : Below wr.heap.size wr w1 := below_own ((((Below.refl wr.heap.size wr).alloc (Nat.le_refl _) (.cells #[.int .i64 ((jp + 1 : Nat) : Int)] 2)).alloc (by simp) (.cells #[] 2))).drew (World.ownsRow.drew (own_mono (made_b wr (.cells #[.int .i64 ((jp + 1 : Nat) : Int)] 2) _) (by simp))) hg1 (Nat.le_refl _) (by first | (simp; done) | (simp; omega)); have k0 := hb2.size; have rc2 : Reads w1 (wr.heap.size + 1) 1 (some ⟨wr.heap.size, 0, none⟩) 1 [.int .i64 ((jp + 1 : Nat) : Int)] := one_grown (Reads.drew (one_a wr 2 (.int .i64 ((jp + 1 : Nat) : Int)) (.cells #[] 2))) hg1 (by first | (simp; done) | (simp; omega)) (by simp [Value.ownBlock])) | (refine step_append_any _ (by rfl) (.tmp 35) (.tmp 38) _ (by rfl) wr.heap.size 2 i0 _ 1 8 Tryz.underlying31 hi0 hz0 hz1 hz2 rfl (by omega) (.slice (some ⟨wr.heap.size, 0, none⟩) 0 0) 0 [] (by rfl) (World.ownsRow.drew (made_a wr _)) wr.heap.size (some ⟨g, 0, none⟩) (jp + 1) (jp + 1) (inC (S.take (jp + 1))) (by rfl) (R1.out.below (((Below.refl wr.heap.size wr).alloc (Nat.le_refl _) (.cells #[] 2))).drew) (inC_one _) (by simp only [maxLen]; omega) (by omega) (by first | (simp; done) | (simp; omega)) ?_; intro v1 w1 hown1' hg1 hat1; have hown1 := (show w1.ownsRow wr.heap.size 2 1 v1 (jp + 1) (inC (S.take (jp + 1))) by simpa using hown1'); clear hown1'; obtain ⟨A1, cc1, rfl, _⟩ := own_shape hown1; have hb0 : Below wr.heap.size wr w1 := below_own (((Below.refl wr.heap.size wr).alloc (Nat.le_refl _) (.cells #[] 2))).drew (World.ownsRow.drew (made_a wr _)) hg1 (Nat.le_refl _) (by first | (simp; done) | (simp; omega)); have k0 := hb0.size) | (refine step_append_any _ (by rfl) (.tmp 39) (.tmp 41) _ (by rfl) wr.heap.size 2 i0 _ 1 8 Tryz.underlying31 hi0 hz0 hz1 hz2 rfl (by omega) (.slice A1 (jp + 1) cc1) (jp + 1) (inC (S.take (jp + 1))) (by rfl) (hown1.alloc _) _ (some ⟨w1.heap.size, 0, none⟩) 1 1 [.int .i64 ((jp + 1 : Nat) : Int)] (by rfl) (new_in1 w1 _ _) (by simp [Value.oneCell']) (by simp only [maxLen]; omega) (by omega) (by have := hb0.size; simp; omega) ?_; intro v2 w2 hown2 hg2 hat2; have hb : Below wr.heap.size wr w2 := below_own (hb0.alloc hb0.size _) (hown1.alloc _) hg2 (Nat.le_refl _) (by have := hb0.size; simp; omega); obtain ⟨A2, cc2, rfl, _⟩ := own_shape hown2; have k0 := hb.size) | (refine step_append_any _ (by rfl) (.tmp 39) (.tmp 41) _ (by rfl) wr.heap.size 2 i0 _ 1 8 Tryz.underlying31 hi0 hz0 hz1 hz2 rfl (by omega) (.slice A1 (jp + 1) cc1) (jp + 1) (inC (S.take (jp + 1))) (by rfl) hown1 _ (some ⟨(wr.heap.size + 1), 0, none⟩) 1 1 [.int .i64 ((jp + 1 : Nat) : Int)] (by rfl) rc1 (by simp [Value.oneCell']) (by simp only [maxLen]; omega) (by omega) hb1.size ?_; intro v2 w2 hown2 hg2 hat2; have hb : Below wr.heap.size wr w2 := below_own hb1 hown1 hg2 (Nat.le_refl _) hb1.size; obtain ⟨A2, cc2, rfl, _⟩ := own_shape hown2; have k0 := hb.size) | (refine step_append_any _ (by rfl) (.tmp 39) (.tmp 41) _ (by rfl) wr.heap.size 2 i0 _ 1 8 Tryz.underlying31 hi0 hz0 hz1 hz2 rfl (by omega) (.slice A1 (jp + 1) cc1) (jp + 1) (inC (S.take (jp + 1))) (by rfl) hown1 _ (some ⟨wr.heap.size, 0, none⟩) 1 1 [.int .i64 ((jp + 1 : Nat) : Int)] (by rfl) rc2 (by simp [Value.oneCell']) (by simp only [maxLen]; omega) (by omega) hb2.size ?_; intro v2 w2 hown2 hg2 hat2; have hb : Below wr.heap.size wr w2 := below_own hb2 hown1 hg2 (Nat.le_refl _) hb2.size; obtain ⟨A2, cc2, rfl, _⟩ := own_shape hown2; have k0 := hb.size) | (refine step_append_any _ (by rfl) (.tmp 42) (.tmp 45) _ (by rfl) wr.heap.size 2 i0 _ 1 8 Tryz.underlying31 hi0 hz0 hz1 hz2 rfl (by omega) (.slice A2 ((jp + 1) + 1) cc2) ((jp + 1) + 1) (inC (S.take (jp + 1)) ++ [.int .i64 ((jp + 1 : Nat) : Int)]) (by rfl) hown2 wr.heap.size (some ⟨g, 0, none⟩) 0 0 [] (by rfl) (Reads.nil_ (B := wr.heap.size)) (by simp) (by simp only [maxLen]; omega) (by omega) hb.size ?_; intro v3 w3 hown3 hg3 hat3; have hb3 : Below wr.heap.size wr w3 := below_own hb hown2 hg3 (Nat.le_refl _) hb.size; obtain ⟨A3, cc3, rfl, _⟩ := own_shape hown3; have k0 := hb3.size) | fail)
              all_goals
                have hown4 : w3.ownsRow wr.heap.size 2 1 (.slice A3 ((jp + 1) + 1) cc3) ((jp + 1) + 1) (inC (ordL lt ((jp + 1) + 1))) := by
                  have hh := hown3
                  rw [HXl.out] at hh
                  rw [show jp + 1 + 1 + 0 = (jp + 1) + 1 by omega] at hh
                  exact hh
                clear hown3
                obtain ⟨g3, d3, hv, hbg3, hgl3⟩ := hown4.form (by omega)
                simp only [Value.slice.injEq, true_and] at hv
                obtain ⟨rfl, rfl⟩ := hv
                have hc3 := Lib.hid (own_shape hown4)
                have O3 := Lib.hid (own_mono hown4 B2.out.size); have B3 := Lib.hid (B2.out.trans (hb3.mono B2.out.size))
                clear hown4 hb3 hs0 hs1 hs2 hs3 hs4
                go_wp2_with fail
                go_roundw
                case rel => exact ⟨(jp + 1) + 1, g3, cc3, by omega, (by first | rfl | (congr 1; omega)), by obtain ⟨_, _, e, h⟩ := hc3.out; simp only [Value.slice.injEq, true_and] at e; omega, hgl3, O3.out, B3.out, by go_num⟩
                case measure => simp [intOf]; omega
            · have O2 := Lib.hid (own_below HO.out (below_regrown wr dq osq))
              have B2 := Lib.hid (BW.out.trans ((below_regrown wr dq osq).mono BW.out.size))
              have hg2 : g < (grow (redrawn wr dq) osq).heap.size := by have := (below_regrown wr dq osq).size; omega
              (try clear hcell)
              clear c0 c1 c2 c3 HO BW hgl hadb
              generalize grow (redrawn wr dq) osq = w2 at O2 B2 hg2 ⊢
              clear wr
              generalize w2 = wr at *
              have R1 := Lib.hid (own_part O2.out HSl.out hg2 0 (jp + 1) (by omega) (S.take (jp + 1)) (by rw [List.length_take]; omega) (fun i hi => by rw [Nat.zero_add, List.getElem?_take_of_lt hi]))
              have R2 := Lib.hid (own_part O2.out HSl.out hg2 (jp + 1) (k - (jp + 1)) (by omega) (S.drop (jp + 1)) (by rw [List.length_drop]; omega) (fun i hi => by rw [List.getElem?_drop]))
              have HXl := Lib.hid (show inC (S.take (jp + 1)) ++ [.int .i64 k] ++ inC (S.drop (jp + 1)) = inC (ordL lt (k + 1)) by rw [← HX.out]; unfold midL; simp [inC])
              have hs0 : (0 : Int) ≤ ((jp : Int) + 1 : Int) := by omega
              have hs1 : ((jp : Int) + 1 : Int) ≤ (d : Int) := by omega
              have hs2 : ((jp : Int) + 1 : Int) ≤ ((k : Nat) : Int) := by omega
              have hs3 : ((k : Nat) : Int) ≤ (d : Int) := by omega
              have hs4 : ((jp : Int) + 1 : Int).toNat = jp + 1 := by omega
              go_upto_region 8 with (fail)
              go_region_held3 (fun w' => wr.heap.size ≤ w'.heap.size)
                (first | exact k0 | exact Nat.le_refl _ | (simp; done) | (simp; omega))
                (first | (refine step_append_any _ (by rfl) (.tmp 35) (.tmp 38) _ (by rfl) wr.heap.size 2 i0 _ 1 8 Tryz.underlying31 hi0 hz0 hz1 hz2 rfl (by omega) (.slice (some ⟨wr.heap.size, 0, none⟩) 0 0) 0 [] (by rfl) (World.ownsRow.drew ((made_a wr _).alloc _)) wr.heap.size (some ⟨g, 0, none⟩) (jp + 1) d (inC (S.take (jp + 1))) (by rfl) (R1.out.below ((((Below.refl wr.heap.size wr).alloc (Nat.le_refl _) (.cells #[] 2)).alloc (by simp) (.cells #[.int .i64 k] 2))).drew) (inC_one _) (by simp only [maxLen]; omega) (by omega) (by first | (simp; done) | (simp; omega)) ?_; intro v1 w1 hown1' hg1 hat1; have hown1 := (show w1.ownsRow wr.heap.size 2 1 v1 (jp + 1) (inC (S.take (jp + 1))) by simpa using hown1'); clear hown1'; obtain ⟨A1, cc1, rfl, _⟩ := own_shape hown1; have hb1 : Below wr.heap.size wr w1 := below_own ((((Below.refl wr.heap.size wr).alloc (Nat.le_refl _) (.cells #[] 2)).alloc (by simp) (.cells #[.int .i64 k] 2))).drew (World.ownsRow.drew ((made_a wr _).alloc _)) hg1 (Nat.le_refl _) (by first | (simp; done) | (simp; omega)); have k0 := hb1.size; have rc1 : Reads w1 ((wr.heap.size + 1) + 1) 1 (some ⟨(wr.heap.size + 1), 0, none⟩) 1 [.int .i64 k] := one_grown (Reads.drew (one_b wr (.cells #[] 2) 2 (.int .i64 k))) hg1 (by first | (simp; done) | (simp; omega)) (by simp [Value.ownBlock])) | (refine step_append_any _ (by rfl) (.tmp 35) (.tmp 38) _ (by rfl) wr.heap.size 2 i0 _ 1 8 Tryz.underlying31 hi0 hz0 hz1 hz2 rfl (by omega) (.slice (some ⟨wr.heap.size + 1, 0, none⟩) 0 0) 0 [] (by rfl) (World.ownsRow.drew (own_mono (made_b wr (.cells #[.int .i64 k] 2) _) (by simp))) wr.heap.size (some ⟨g, 0, none⟩) (jp + 1) d (inC (S.take (jp + 1))) (by rfl) (R1.out.below ((((Below.refl wr.heap.size wr).alloc (Nat.le_refl _) (.cells #[.int .i64 k] 2)).alloc (by simp) (.cells #[] 2))).drew) (inC_one _) (by simp only [maxLen]; omega) (by omega) (by first | (simp; done) | (simp; omega)) ?_; intro v1 w1 hown1' hg1 hat1; have hown1 := (show w1.ownsRow wr.heap.size 2 1 v1 (jp + 1) (inC (S.take (jp + 1))) by simpa using hown1'); clear hown1'; obtain ⟨A1, cc1, rfl, _⟩ := own_shape hown1; have hb2 : Below wr.heap.size wr w1 := below_own ((((Below.refl wr.heap.size wr).alloc (Nat.le_refl _) (.cells #[.int .i64 k] 2)).alloc (by simp) (.cells #[] 2))).drew (World.ownsRow.drew (own_mono (made_b wr (.cells #[.int .i64 k] 2) _) (by simp))) hg1 (Nat.le_refl _) (by first | (simp; done) | (simp; omega)); have k0 := hb2.size; have rc2 : Reads w1 (wr.heap.size + 1) 1 (some ⟨wr.heap.size, 0, none⟩) 1 [.int .i64 k] := one_grown (Reads.drew (one_a wr 2 (.int .i64 k) (.cells #[] 2))) hg1 (by first | (simp; done) | (simp; omega)) (by simp [Value.ownBlock])) | (refine step_append_any _ (by rfl) (.tmp 35) (.tmp 38) _ (by rfl) wr.heap.size 2 i0 _ 1 8 Tryz.underlying31 hi0 hz0 hz1 hz2 rfl (by omega) (.slice (some ⟨wr.heap.size, 0, none⟩) 0 0) 0 [] (by rfl) (World.ownsRow.drew (made_a wr _)) wr.heap.size (some ⟨g, 0, none⟩) (jp + 1) d (inC (S.take (jp + 1))) (by rfl) (R1.out.below (((Below.refl wr.heap.size wr).alloc (Nat.le_refl _) (.cells #[] 2))).drew) (inC_one _) (by simp only [maxLen]; omega) (by omega) (by first | (simp; done) | (simp; omega)) ?_; intro v1 w1 hown1' hg1 hat1; have hown1 := (show w1.ownsRow wr.heap.size 2 1 v1 (jp + 1) (inC (S.take (jp + 1))) by simpa using hown1'); clear hown1'; obtain ⟨A1, cc1, rfl, _⟩ := own_shape hown1; have hb0 : Below wr.heap.size wr w1 := below_own (((Below.refl wr.heap.size wr).alloc (Nat.le_refl _) (.cells #[] 2))).drew (World.ownsRow.drew (made_a wr _)) hg1 (Nat.le_refl _) (by first | (simp; done) | (simp; omega)); have k0 := hb0.size) | (refine step_append_any _ (by rfl) (.tmp 39) (.tmp 41) _ (by rfl) wr.heap.size 2 i0 _ 1 8 Tryz.underlying31 hi0 hz0 hz1 hz2 rfl (by omega) (.slice A1 (jp + 1) cc1) (jp + 1) (inC (S.take (jp + 1))) (by rfl) (hown1.alloc _) _ (some ⟨w1.heap.size, 0, none⟩) 1 1 [.int .i64 k] (by rfl) (new_in1 w1 _ _) (by simp [Value.oneCell']) (by simp only [maxLen]; omega) (by omega) (by have := hb0.size; simp; omega) ?_; intro v2 w2 hown2 hg2 hat2; have hb : Below wr.heap.size wr w2 := below_own (hb0.alloc hb0.size _) (hown1.alloc _) hg2 (Nat.le_refl _) (by have := hb0.size; simp; omega); obtain ⟨A2, cc2, rfl, _⟩ := own_shape hown2; have k0 := hb.size) | (refine step_append_any _ (by rfl) (.tmp 39) (.tmp 41) _ (by rfl) wr.heap.size 2 i0 _ 1 8 Tryz.underlying31 hi0 hz0 hz1 hz2 rfl (by omega) (.slice A1 (jp + 1) cc1) (jp + 1) (inC (S.take (jp + 1))) (by rfl) hown1 _ (some ⟨(wr.heap.size + 1), 0, none⟩) 1 1 [.int .i64 k] (by rfl) rc1 (by simp [Value.oneCell']) (by simp only [maxLen]; omega) (by omega) hb1.size ?_; intro v2 w2 hown2 hg2 hat2; have hb : Below wr.heap.size wr w2 := below_own hb1 hown1 hg2 (Nat.le_refl _) hb1.size; obtain ⟨A2, cc2, rfl, _⟩ := own_shape hown2; have k0 := hb.size) | (refine step_append_any _ (by rfl) (.tmp 39) (.tmp 41) _ (by rfl) wr.heap.size 2 i0 _ 1 8 Tryz.underlying31 hi0 hz0 hz1 hz2 rfl (by omega) (.slice A1 (jp + 1) cc1) (jp + 1) (inC (S.take (jp + 1))) (by rfl) hown1 _ (some ⟨wr.heap.size, 0, none⟩) 1 1 [.int .i64 k] (by rfl) rc2 (by simp [Value.oneCell']) (by simp only [maxLen]; omega) (by omega) hb2.size ?_; intro v2 w2 hown2 hg2 hat2; have hb : Below wr.heap.size wr w2 := below_own hb2 hown1 hg2 (Nat.le_refl _) hb2.size; obtain ⟨A2, cc2, rfl, _⟩ := own_shape hown2; have k0 := hb.size) | (refine step_append_any _ (by rfl) (.tmp 42) (.tmp 45) _ (by rfl) wr.heap.size 2 i0 _ 1 8 Tryz.underlying31 hi0 hz0 hz1 hz2 rfl (by omega) (.slice A2 ((jp + 1) + 1) cc2) ((jp + 1) + 1) (inC (S.take (jp + 1)) ++ [.int .i64 k]) (by rfl) hown2 wr.heap.size (some ⟨g, (jp + 1), none⟩) (k - (jp + 1)) (d - (jp + 1)) (inC (S.drop (jp + 1))) (by rfl) (R2.out.below hb) (inC_one _) (by simp only [maxLen]; omega) (by omega) hb.size ?_; intro v3 w3 hown3 hg3 hat3; have hb3 : Below wr.heap.size wr w3 := below_own hb hown2 hg3 (Nat.le_refl _) hb.size; obtain ⟨A3, cc3, rfl, _⟩ := own_shape hown3; have k0 := hb3.size) | fail)
              all_goals
                have hown4 : w3.ownsRow wr.heap.size 2 1 (.slice A3 (k + 1) cc3) (k + 1) (inC (ordL lt (k + 1))) := by
                  have hh := hown3
                  rw [HXl.out] at hh
                  rw [show jp + 1 + 1 + (k - (jp + 1)) = k + 1 by omega] at hh
                  exact hh
                clear hown3
                obtain ⟨g3, d3, hv, hbg3, hgl3⟩ := hown4.form (by omega)
                simp only [Value.slice.injEq, true_and] at hv
                obtain ⟨rfl, rfl⟩ := hv
                have hc3 := Lib.hid (own_shape hown4)
                have O3 := Lib.hid (own_mono hown4 B2.out.size); have B3 := Lib.hid (B2.out.trans (hb3.mono B2.out.size))
                clear hown4 hb3 hs0 hs1 hs2 hs3 hs4
                go_wp2_with fail
                go_roundw
                case rel => exact ⟨k + 1, g3, cc3, by omega, (by first | rfl | (congr 1; omega)), by obtain ⟨_, _, e, h⟩ := hc3.out; simp only [Value.slice.injEq, true_and] at e; omega, hgl3, O3.out, B3.out, by go_num⟩
                case measure => simp [intOf]; omega
    · obtain rfl : k = xs.length := by omega
      go_wp2_with fail
      go_ret
      exact ⟨_, rfl, HO.out, BW.out⟩
end Go.Proofs.YthaampckdcimmaaGreatDoor
