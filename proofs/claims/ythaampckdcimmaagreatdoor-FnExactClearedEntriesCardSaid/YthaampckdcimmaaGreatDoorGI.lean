/- HomonymsOf, IsAdmitted and Displaced of the reference. -/
import Derived.Test.YthaampckdcimmaaGreatDoorRows
import Derived.Test.YthaampckdcimmaaGreatDoorL0
import Derived.Test.YthaampckdcimmaaGreatDoorM0
import Derived.WalkKit
import Derived.ProofKit
import Derived.OpenShut
import Derived.BigQuiet
import Derived.Outline
import Derived.WalkSpells
import Derived.WalkLawsBesides
import Derived.Deep.DeepCutAuto
import Derived.Test.YthaampckdcimmaaGreatDoorGH
namespace Go.Proofs.YthaampckdcimmaaGreatDoor
open Go.ChangeShapes Go.WideShapes Go.ChangeAt Go.RowKit Go.Sort

/-- The results: the indices, and the code. -/
def rowE (xs : List Ent) (b : Ent) (d : Int) (p : Ent → Bool) : List Int := if codeE xs (entB b) d = 0 then whichE xs p else []
def pAll (b : Ent) (d : Int) (f : Ent) : Bool := homB b f d && true
def pBar (b : Ent) (d : Int) (f : Ent) : Bool := homB b f d && decide (cmpE f b ≤ 0)
def pDis (b : Ent) (d : Int) (f : Ent) : Bool := homB b f d && decide (cmpE b f < 0)
theorem rowE_len (xs : List Ent) (b : Ent) (d : Int) (p : Ent → Bool) : (rowE xs b d p).length ≤ xs.length := by
  unfold rowE
  split
  · exact wTo_len _ _ _
  · simp
theorem codeE_zero {xs : List Ent} {ok : Bool} {d : Int} (h : codeE xs ok d = 0) : (∀ f ∈ xs, entB f = true) ∧ xs.length ≤ 12 ∧ ok = true ∧ 0 ≤ d ∧ d ≤ 4000 := by
  unfold codeE at h
  split at h
  · rename_i h1
    split at h
    · rename_i h2
      simp only [areE, Bool.and_eq_true, List.all_eq_true, decide_eq_true_eq] at h1
      simp only [inB, Bool.and_eq_true, decide_eq_true_eq] at h2
      exact ⟨h1.1.1, by omega, h1.2, by omega, by omega⟩
    · cases h
  · cases h
def admB (xs : List Ent) (b : Ent) (d : Int) : Bool := (codeE xs (entB b) d == 0) && decide ((rowE xs b d (pBar b d)).length = 0)
set_option maxRecDepth 100000 in
set_option maxHeartbeats 2000000 in
theorem specHomL_any (xs : List Ent) (b : Ent) (dist : Int) (hs : ∀ b ∈ xs, b.text.size ≤ 1048576) (hb : b.text.size ≤ 1048576) (A : Option Addr) (c : Nat) (w : World) (h : HasEnt w xs A) :
    Calls Tryz.prog 9 #[.slice A xs.length c, b.val, .int .i64 dist] w fun e w' => ∃ v, e = .returned (.tuple #[v, .int .i64 (codeE xs (entB b) dist)]) ∧ w'.ownsRow w.heap.size 2 1 v (rowE xs b dist (pAll b dist)).length (inC (rowE xs b dist (pAll b dist))) ∧ Below w.heap.size w w' := by
  obtain ⟨i0, hi0, hz0, hz1, hz2⟩ := info_parts infoInt
  have HC0 := Lib.hid (fun W (hb' : Below w.heap.size w W) => specCodeE_any xs b dist A c W (h.below hb') hs hb)
  have H := Lib.hid h; clear h
  have KN := Lib.hid (blks_one w 28 #[.string b.text, .int .i64 b.x, .int .i64 b.y, .int .i64 b.since])
  have KZ := Lib.hid (fun h => codeE_zero (xs := xs) (ok := entB b) (d := dist) h)
  have HL := Lib.hid (show rowE xs b dist (pAll b dist) = if codeE xs (entB b) dist = 0 then whichE xs (pAll b dist) else [] from rfl)
  generalize rowE xs b dist (pAll b dist) = LL at HL ⊢
  generalize hcz : codeE xs (entB b) dist = cz at HC0 HL KZ ⊢
  clear hcz hs hb
  by_cases hz : cz = 0
  · obtain ⟨hx, hm, hb, hd⟩ := KZ.out hz
    rw [if_pos hz] at HL
    subst hz
    have HX := Lib.hid hx; clear hx
    have HB := Lib.hid hb; clear hb
    have HHm := Lib.hid (fun f hf => specHom_any f b hf HB.out dist hd)
    obtain ⟨P, hP⟩ : ∃ P : Ent → Bool, pAll b dist = P := ⟨_, rfl⟩
    have HPf := Lib.hid (show ∀ f, P f = homB f b dist from fun f => by rw [← hP, pAll, Bool.and_true, homB_comm])
    rw [hP] at HL
    clear hP
    unfold Ent.val at HHm HC0 ⊢
    go_enter Tryz.func9, Tryz.ntmps9
    go_wp2_with fail
    generalize hW : w.alloc (.cells #[.string b.text, .int .i64 b.x, .int .i64 b.y, .int .i64 b.since] 28) = W
    obtain ⟨kb, bw, hsz⟩ := KN.out W hW.symm
    clear hW hsz
    refine (HC0.out W bw).mono ?_; rintro e w1 ⟨rfl, b1⟩
    have KB := Lib.hid (kb.below b1 kb.lt); have BW0 := Lib.hid (bw.trans (b1.mono bw.size)); clear kb bw b1
    go_upto_region 5 with (fail)
    generalize hW : w1.alloc (.cells #[] 2) = W1
    have OW := Lib.hid (show W1.ownsRow w.heap.size 2 1 (.slice (some ⟨w1.heap.size, 0, none⟩) 0 0) 0 (inC []) by
      have := World.ownsRow_made (e := 2) (base := w.heap.size) (size := 1) w1 #[] 0 BW0.out.size (by decide) rfl
      rw [← hW]
      simpa [inC] using this)
    have KB1 := Lib.hid (show Blk W1 w.heap.size 28 #[.string b.text, .int .i64 b.x, .int .i64 b.y, .int .i64 b.since] by rw [← hW]; exact KB.out.alloc _)
    have BW1 := Lib.hid (show Below w.heap.size w W1 by rw [← hW]; exact BW0.out.alloc BW0.out.size _)
    clear hW
    have LB1 := Lib.hid KB.out.lt
    go_wp2_with fail
    go_loopw [9, 10] (fun v9 v10 wr => ∃ (k n : Nat) (B : Option Addr) (d : Nat), k ≤ xs.length ∧ n ≤ k ∧ Hid ((wTo xs P k).length = n) ∧ v9 = .slice B n d ∧ Hid (wr.ownsRow w.heap.size 2 1 (.slice B n d) n (inC (wTo xs P k))) ∧ Hid (Blk wr w.heap.size 28 #[.string b.text, .int .i64 b.x, .int .i64 b.y, .int .i64 b.since] ∧ ∀ g, (Value.slice B n d).ownBlock = some g → w.heap.size < g) ∧ Hid (Below w.heap.size w wr) ∧ v10 = .int .i64 k) (fun _ i _ => xs.length - (intOf i).toNat)
    case atStart => exact ⟨0, 0, _, _, by omega, by omega, rfl, rfl, OW.out, ⟨KB1.out, fun g hg => by simp [Value.ownBlock] at hg; have := LB1.out; omega⟩, BW1.out, rfl⟩
    case round =>
      obtain ⟨k, n, B, d, hk, hnk, HN, rfl, HO, HK, BW, rfl⟩ := hrel
      by_cases hlt : k < xs.length
      · obtain ⟨ab, ao, rfl, hadb, hcell⟩ := (H.out.below BW.out).1.2 (by omega)
        obtain ⟨e0, e1, e2, e3⟩ := enC_get xs k hlt
        have c0 := hcell _ _ e0
        have c1 := hcell _ _ e1
        have c2 := hcell _ _ e2
        have c3 := hcell _ _ e3
        rw [← Nat.add_assoc] at c1 c2 c3
        clear hcell e0 e1 e2 e3
        have HW1 := Lib.hid (wTo_at (xs := xs) (p := P) hlt)
        have HH1 := Lib.hid (HHm.out xs[k] (HX.out _ (List.getElem_mem hlt)))
        have HP1 := Lib.hid (HPf.out xs[k])
        generalize xs[k] = f at c0 c1 c2 c3 HW1 HH1 HP1
        go_upto_region 8 with (fail)
        have k0 := cell_regrown c0
        have k1 := cell_regrown c1
        have k2 := cell_regrown c2
        have k3 := cell_regrown c3
        obtain ⟨x0, x1, x2, x3⟩ := four_regrown HK.out.1
        clear c0 c1 c2 c3
        have r1 : ∀ d os, Calls Tryz.prog 45 #[.agg #[.string f.text, .int .i64 f.x, .int .i64 f.y, .int .i64 f.since], .agg #[.string b.text, .int .i64 b.x, .int .i64 b.y, .int .i64 b.since], .int .i64 dist] (grow (redrawn wr d) os) (fun e w'' => e = .returned (.bool (homB f b dist)) ∧ ∃ p : Regrown, w'' = grow (redrawn wr p.d) p.os) := fun d os => Calls.regrown_of (HH1.out _)
        cases q1 : homB f b dist
        · have HL1 := Lib.hid (show wTo xs P (k + 1) = wTo xs P k by rw [HW1.out, HP1.out, q1]; rfl)
          rw [q1] at r1
          clear q1
          refine wp_region_quiet_below (by kernel_rfl) (by kernel_rfl) ?_; (repeat (first | go_big_quiet_step ((first | with_reducible exact r1 _ _)))); refine wpQuiet_nil ?_; intro _ hw'; obtain ⟨⟨dq, osq⟩, rfl⟩ := hw'
          have HK2 := Lib.hid (HK.out.1.below (below_regrown wr dq osq) HK.out.1.lt)
          have O2 := Lib.hid (own_below HO.out (below_regrown wr dq osq))
          have B2 := Lib.hid (BW.out.trans ((below_regrown wr dq osq).mono BW.out.size))
          generalize grow (redrawn wr dq) osq = w2 at HK2 O2 B2 ⊢
          clear r1 k0 k1 k2 k3 x0 x1 x2 x3
          go_wp2_with fail
          go_roundw
          case rel => exact ⟨k + 1, n, B, d, by omega, by omega, by rw [HL1.out]; exact HN.out, rfl, by rw [HL1.out]; exact O2.out, ⟨HK2.out, HK.out.2⟩, B2.out, by go_num⟩
          case measure => simp [intOf]; omega
        · have HL1 := Lib.hid (show wTo xs P (k + 1) = wTo xs P k ++ [(k : Int)] by rw [HW1.out, HP1.out, q1]; rfl)
          rw [q1] at r1
          clear q1
          refine wp_region_quiet_below (by kernel_rfl) (by kernel_rfl) ?_; (repeat (first | go_big_quiet_step ((first | with_reducible exact r1 _ _)))); refine wpQuiet_nil ?_; intro _ hw'; obtain ⟨⟨dq, osq⟩, rfl⟩ := hw'
          have HK2 := Lib.hid (HK.out.1.below (below_regrown wr dq osq) HK.out.1.lt)
          have O2 := Lib.hid (own_below HO.out (below_regrown wr dq osq))
          have B2 := Lib.hid (BW.out.trans ((below_regrown wr dq osq).mono BW.out.size))
          generalize grow (redrawn wr dq) osq = w2 at HK2 O2 B2 ⊢
          clear r1 k0 k1 k2 k3 x0 x1 x2 x3
          go_wp2_with (at_builtin; refine wpList_append_any _ rfl (.tmp 32) (.tmp 34) _ rfl w.heap.size 2 i0 _ 1 8 Tryz.underlying31 hi0 hz0 hz1 hz2 rfl (by omega) (.slice B n d) n (inC (wTo xs P k)) rfl (O2.out.alloc _) _ (some ⟨w2.heap.size, 0, none⟩) 1 1 [.int .i64 k] rfl (new_in1 _ _ _) (by simp [Value.oneCell']) (by simp only [maxLen]; omega) (by omega) (by have := B2.out.size; simp; omega) ?_; intro v4 w4 hown4 hg4 hat4; obtain ⟨B4, d4, rfl, _⟩ := own_shape hown4)
          go_roundw
          case rel => exact ⟨k + 1, n + 1, B4, d4, by omega, by omega, by have := HN.out; rw [HL1.out]; simp [Hid, this], rfl, by rw [HL1.out, inC_snoc]; exact hown4, ⟨(HK2.out.alloc _).grown hg4 (fun e => by have := HK.out.2 _ e.symm; omega), fun g hg => by
              rcases hat4 with h4 | h4
              · rw [h4] at hg; exact HK.out.2 g hg
              · rw [h4] at hg; have := HK2.out.lt; injection hg with hg; subst hg; simp; omega⟩, below_own (B2.out.alloc B2.out.size _) (O2.out.alloc _) hg4 (Nat.le_refl _) (by have := B2.out.size; simp; omega), by go_num⟩
          case measure => simp [intOf]; omega
      · obtain rfl : k = xs.length := by omega
        have HN' := HN.out
        have HLL := Lib.hid (show LL = wTo xs P xs.length from HL.out)
        go_wp2_with fail
        go_ret2
        exact ⟨_, rfl, by rw [HLL.out, HN']; exact HO.out, BW.out⟩
  · rw [if_neg hz] at HL
    have hne : (cz != 0) = true := by rw [bne_iff_ne]; exact hz
    clear hz
    unfold Ent.val at HC0 ⊢
    go_enter Tryz.func9, Tryz.ntmps9
    go_wp2_with fail
    generalize hW : w.alloc (.cells #[.string b.text, .int .i64 b.x, .int .i64 b.y, .int .i64 b.since] 28) = W
    obtain ⟨kb, bw, hsz⟩ := KN.out W hW.symm
    clear hW hsz
    refine (HC0.out W bw).mono ?_; rintro e w1 ⟨rfl, b1⟩
    go_wp2_with fail
    go_ret2
    exact ⟨_, rfl, by rw [HL.out]; exact World.ownsRow_nil _ _ _ _, bw.trans (b1.mono bw.size)⟩
set_option maxRecDepth 100000 in
set_option maxHeartbeats 1000000 in
theorem specDis_any (xs : List Ent) (b : Ent) (dist : Int) (hs : ∀ b ∈ xs, b.text.size ≤ 1048576) (hb : b.text.size ≤ 1048576) (A : Option Addr) (c : Nat) (w : World) (h : HasEnt w xs A) :
    Calls Tryz.prog 13 #[.slice A xs.length c, b.val, .int .i64 dist] w fun e w' => ∃ v, e = .returned (.tuple #[v, .int .i64 (codeE xs (entB b) dist)]) ∧ w'.ownsRow w.heap.size 2 1 v (rowE xs b dist (pDis b dist)).length (inC (rowE xs b dist (pDis b dist))) ∧ Below w.heap.size w w' := by
  have HC0 := Lib.hid (fun W (hb' : Below w.heap.size w W) => specCodeE_any xs b dist A c W (h.below hb') hs hb)
  have KN := Lib.hid (blks_one w 28 #[.string b.text, .int .i64 b.x, .int .i64 b.y, .int .i64 b.since])
  by_cases hz : codeE xs (entB b) dist = 0
  · obtain ⟨hx, hm, hb, hd⟩ := codeE_zero hz
    have HW := Lib.hid (fun W (hb' : Below w.heap.size w W) => specWhich_any xs b dist false hx hb hd A c W (h.below hb') hm)
    have HE := Lib.hid (show rowE xs b dist (pDis b dist) = whichE xs (fun f => homB f b dist && (decide (cmpE f b ≤ 0) == false)) by
      rw [rowE, if_pos hz]
      exact wTo_congr (fun f _ => by
        unfold pDis
        rw [homB_comm, cmpE_anti b f]
        congr 1
        by_cases h0 : cmpE f b ≤ 0
        · rw [decide_eq_true h0, decide_eq_false (by omega)]; rfl
        · rw [decide_eq_false h0, decide_eq_true (by omega)]; rfl) _)
    generalize rowE xs b dist (pDis b dist) = LL at HE ⊢
    rw [← HE.out] at HW
    rw [hz] at HC0 ⊢
    clear hz hx hb hd hs h HE
    unfold Ent.val at HC0 HW ⊢
    go_enter Tryz.func13, Tryz.ntmps13
    go_wp2_with fail
    generalize hW : w.alloc (.cells #[.string b.text, .int .i64 b.x, .int .i64 b.y, .int .i64 b.since] 28) = W
    obtain ⟨kb, bw, hsz⟩ := KN.out W hW.symm
    clear hW hsz
    refine (HC0.out W bw).mono ?_; rintro e w1 ⟨rfl, b1⟩
    obtain ⟨x0, x1, x2, x3⟩ := cells_4 (kb.below b1 kb.lt)
    have B1 := Lib.hid (bw.trans (b1.mono bw.size)); clear kb bw b1
    go_wp2_with fail
    refine (HW.out w1 B1.out).mono ?_; rintro e w2 ⟨v, rfl, own2, b2⟩
    have O2 := Lib.hid own2; have B2 := Lib.hid b2; clear own2 b2
    go_wp2_with fail
    go_ret2
    exact ⟨_, rfl, own_mono O2.out B1.out.size, B1.out.trans (B2.out.mono B1.out.size)⟩
  · have HE := Lib.hid (show rowE xs b dist (pDis b dist) = [] by rw [rowE, if_neg hz])
    generalize rowE xs b dist (pDis b dist) = LL at HE ⊢
    generalize codeE xs (entB b) dist = cz at HC0 hz ⊢
    have hne : (cz != 0) = true := by rw [bne_iff_ne]; exact hz
    clear hz hs h hb
    unfold Ent.val at HC0 ⊢
    go_enter Tryz.func13, Tryz.ntmps13
    go_wp2_with fail
    generalize hW : w.alloc (.cells #[.string b.text, .int .i64 b.x, .int .i64 b.y, .int .i64 b.since] 28) = W
    obtain ⟨kb, bw, hsz⟩ := KN.out W hW.symm
    clear hW hsz
    refine (HC0.out W bw).mono ?_; rintro e w1 ⟨rfl, b1⟩
    go_wp2_with fail
    go_ret2
    exact ⟨_, rfl, by rw [HE.out]; exact World.ownsRow_nil _ _ _ _, bw.trans (b1.mono bw.size)⟩
set_option maxRecDepth 100000 in
set_option maxHeartbeats 1000000 in
theorem specAdm_any (xs : List Ent) (b : Ent) (dist : Int) (hs : ∀ b ∈ xs, b.text.size ≤ 1048576) (hb : b.text.size ≤ 1048576) (A : Option Addr) (c : Nat) (w : World) (h : HasEnt w xs A) :
    Calls Tryz.prog 11 #[.slice A xs.length c, b.val, .int .i64 dist] w fun e w' => e = .returned (.tuple #[.bool (admB xs b dist), .int .i64 (codeE xs (entB b) dist)]) ∧ Below w.heap.size w w' := by
  have HC0 := Lib.hid (fun W (hb' : Below w.heap.size w W) => specCodeE_any xs b dist A c W (h.below hb') hs hb)
  have KN := Lib.hid (blks_one w 28 #[.string b.text, .int .i64 b.x, .int .i64 b.y, .int .i64 b.since])
  by_cases hz : codeE xs (entB b) dist = 0
  · obtain ⟨hx, hm, hb, hd⟩ := codeE_zero hz
    have HW := Lib.hid (fun W (hb' : Below w.heap.size w W) => specWhich_any xs b dist true hx hb hd A c W (h.below hb') hm)
    have HE := Lib.hid (show rowE xs b dist (pBar b dist) = whichE xs (fun f => homB f b dist && (decide (cmpE f b ≤ 0) == true)) by
      rw [rowE, if_pos hz]
      exact wTo_congr (fun f _ => by
        unfold pBar
        rw [homB_comm]
        cases decide (cmpE f b ≤ 0) <;> rfl) _)
    have HR := Lib.hid (show admB xs b dist = decide ((rowE xs b dist (pBar b dist)).length = 0) by rw [admB, hz]; rfl)
    generalize admB xs b dist = r at HR ⊢
    generalize rowE xs b dist (pBar b dist) = LL at HE HR
    rw [← HE.out] at HW
    rw [hz] at HC0 ⊢
    clear hz hx hb hd hs h HE
    unfold Ent.val at HC0 HW ⊢
    go_enter Tryz.func11, Tryz.ntmps11
    go_wp2_with fail
    generalize hW : w.alloc (.cells #[.string b.text, .int .i64 b.x, .int .i64 b.y, .int .i64 b.since] 28) = W
    obtain ⟨kb, bw, hsz⟩ := KN.out W hW.symm
    clear hW hsz
    refine (HC0.out W bw).mono ?_; rintro e w1 ⟨rfl, b1⟩
    obtain ⟨x0, x1, x2, x3⟩ := cells_4 (kb.below b1 kb.lt)
    have B1 := Lib.hid (bw.trans (b1.mono bw.size)); clear kb bw b1
    go_wp2_with fail
    refine (HW.out w1 B1.out).mono ?_; rintro e w2 ⟨v, rfl, own2, b2⟩
    obtain ⟨A2, c2, rfl, _⟩ := own_shape own2
    have B2 := Lib.hid b2; clear own2 b2
    go_wp2_with fail
    go_ret2
    exact ⟨by rw [HR.out]; (first | done | rfl | (by_cases h0 : LL.length = 0 <;> simp [h0]) | (simp; omega)), B1.out.trans (B2.out.mono B1.out.size)⟩
  · have HE := Lib.hid (show admB xs b dist = false by
      have : (codeE xs (entB b) dist == 0) = false := by simpa using hz
      rw [admB, this, Bool.false_and])
    generalize admB xs b dist = r at HE ⊢
    generalize codeE xs (entB b) dist = cz at HC0 hz ⊢
    have hne : (cz != 0) = true := by rw [bne_iff_ne]; exact hz
    clear hz hs h hb
    unfold Ent.val at HC0 ⊢
    go_enter Tryz.func11, Tryz.ntmps11
    go_wp2_with fail
    generalize hW : w.alloc (.cells #[.string b.text, .int .i64 b.x, .int .i64 b.y, .int .i64 b.since] 28) = W
    obtain ⟨kb, bw, hsz⟩ := KN.out W hW.symm
    clear hW hsz
    refine (HC0.out W bw).mono ?_; rintro e w1 ⟨rfl, b1⟩
    go_wp2_with fail
    go_ret2
    exact ⟨by rw [HE.out]; first | done | rfl, bw.trans (b1.mono bw.size)⟩
end Go.Proofs.YthaampckdcimmaaGreatDoor
