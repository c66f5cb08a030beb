/- The stable sort of the program, at indices of entries. -/
import Derived.Test.YthaampckdcimmaaGreatDoorRows
import Derived.Test.YthaampckdcimmaaGreatDoorL0
import Derived.Test.YthaampckdcimmaaGreatDoorM0
import Derived.WalkKit
import Derived.ProofKit
import Derived.OpenShut
import Derived.BigQuiet
import Derived.Outline
import Derived.WalkSpells
import Derived.WalkLawsBesides
import Derived.Deep.DeepCutAuto
import Derived.Test.YthaampckdcimmaaGreatDoorGQ
import Derived.Test.YthaampckdcimmaaGreatDoorGJ
import Derived.Sort.WalkA
import Derived.Sort.WalkB2
import Derived.Sort.WalkB12
namespace Go.Proofs.YthaampckdcimmaaGreatDoor
open Go.ChangeShapes Go.WideShapes Go.ChangeAt Go.RowKit Go.Sort

theorem grown_below {w w' : World} (h : Below w.heap.size w w') (row : Option Nat) : w.grownBy w' row := ⟨h.os, h.tape, h.output, h.size, fun k hk _ => h.block k hk⟩
set_option maxRecDepth 100000 in
set_option maxHeartbeats 1000000 in
theorem cmp1_any (xs : List Ent) (i k : Nat) (hi : i < xs.length) (hk : k < xs.length) (gb : Nat) (t : TypeId) (A : Option Addr) (c : Nat) (w : World) (hb : Blk w gb t #[.slice A xs.length c]) (h : HasEnt w xs A) :
    Calls Tryz.prog 92 #[.int .i64 i, .int .i64 k, .pointer (some ⟨gb, 0, none⟩)] w fun e w' => e = .returned (.int .i64 (cmpE xs[i] xs[k])) ∧ Below w.heap.size w w' := by
  have HC := Lib.hid (implCmpE_any xs[i] xs[k])
  obtain ⟨ab, ao, rfl, hadb, hcell⟩ := h.1.2 (by omega)
  obtain ⟨e0, e1, e2, e3⟩ := enC_get xs i hi
  obtain ⟨g0, g1, g2, g3⟩ := enC_get xs k hk
  have c0 := cell_regrown (hcell _ _ e0)
  have c1 := cell_regrown (hcell _ _ e1)
  have c2 := cell_regrown (hcell _ _ e2)
  have c3 := cell_regrown (hcell _ _ e3)
  have d0 := cell_regrown (hcell _ _ g0)
  have d1 := cell_regrown (hcell _ _ g1)
  have d2 := cell_regrown (hcell _ _ g2)
  have d3 := cell_regrown (hcell _ _ g3)
  simp only [← Nat.add_assoc] at c1 c2 c3 d1 d2 d3
  have b0 : w.cell? ⟨gb, 0, none⟩ = some (.slice (some ⟨ab, ao, none⟩) xs.length c) := by rw [hb.cell]; rfl
  have b1 := cell_regrown b0
  have hm := h.2.1
  clear hcell e0 e1 e2 e3 g0 g1 g2 g3 hb h b0
  generalize xs[i] = f at *
  generalize xs[k] = u at *
  unfold Ent.val at HC
  generalize cmpE f u = q at *
  have r1 : ∀ d os, Calls Tryz.prog 49 #[.agg #[.string f.text, .int .i64 f.x, .int .i64 f.y, .int .i64 f.since], .agg #[.string u.text, .int .i64 u.x, .int .i64 u.y, .int .i64 u.since]] (grow (redrawn w d) os) (fun e w'' => e = .returned (.int .i64 q) ∧ ∃ p : Regrown, w'' = grow (redrawn w p.d) p.os) := fun d os => Calls.regrown_of (HC.out _)
  clear HC
  go_enter Tryz.func92, Tryz.ntmps92
  go_upto_region 1 with (fail)
  refine wp_region_quiet_below (by kernel_rfl) (by kernel_rfl) ?_; (repeat (first | go_big_quiet_step ((first | with_reducible exact r1 _ _)))); refine wpQuiet_nil ?_; intro _ hw'; obtain ⟨⟨dq, osq⟩, rfl⟩ := hw'
  go_wp2_with fail
  go_ret
  exact ⟨rfl, below_regrown w dq osq⟩
set_option maxRecDepth 100000 in
set_option maxHeartbeats 4000000 in
theorem insSort_any (xs : List Ent) (hm : xs.length ≤ 12) (hp : 0 < xs.length) (gb : Nat) (t : TypeId) (A : Option Addr) (c : Nat) (w0 w : World) (h : HasEnt w0 xs A) (hb : Blk w0 gb t #[.slice A xs.length c]) (hB : Below w0.heap.size w0 w) (g cap : Nat) (hO : w.ownsRow w0.heap.size 2 1 (.slice (some ⟨g, 0, none⟩) xs.length cap) xs.length (inC (upL 0 xs.length))) (hg : w0.heap.size ≤ g) :
    Calls Tryz.prog 125 #[.slice (some ⟨g, 0, none⟩) xs.length cap, .int .i64 0, .int .i64 xs.length, .func (.func 92) #[] #[.pointer (some ⟨gb, 0, none⟩)]] w fun e w' => e = .returned (.tuple #[]) ∧ w'.ownsRow w0.heap.size 2 1 (.slice (some ⟨g, 0, none⟩) xs.length cap) xs.length (inC (ordL (ltE xs) xs.length)) ∧ w.grownBy w' (some g) := by
  have HO := Lib.hid hO; clear hO
  obtain ⟨n, hn⟩ : ∃ n, xs.length = n := ⟨_, rfl⟩
  have HCl := Lib.hid (show ∀ (i k : Nat), i < n → k < n → ∀ W, w.grownBy W (some g) → Calls Tryz.prog 92 #[.int .i64 i, .int .i64 k, .pointer (some ⟨gb, 0, none⟩)] W fun e w' => e = .returned (.int .i64 (cmpE (atE xs i) (atE xs k))) ∧ Below W.heap.size W w' from fun i k hi hk W hW => by
    rw [atE_eq (by omega : i < xs.length), atE_eq (by omega : k < xs.length)]
    have hBW := hB.grown hW hB.size (fun k hk => by injection hk with hk; omega)
    exact cmp1_any xs i k (by omega) (by omega) gb t A c W (hb.below hBW hb.lt) (h.below hBW))
  obtain ⟨lt, hlt⟩ : ∃ lt, ltE xs = lt := ⟨_, rfl⟩
  have HLt := Lib.hid (show ∀ i k : Int, lt i k = decide (cmpE (atE xs i) (atE xs k) < 0) by intro i k; rw [← hlt, ltE])
  rw [hlt]
  rw [hn] at hm hp HO ⊢
  clear hlt h hb hB
  go_enter Tryz.func125, Tryz.ntmps125
  go_wp2_with fail
  go_loopw [8] (fun v8 wr => ∃ i : Nat, 1 ≤ i ∧ i ≤ n ∧ Hid (wr.ownsRow w0.heap.size 2 1 (.slice (some ⟨g, 0, none⟩) n cap) n (inC (ordL lt i ++ upL i (n - i)))) ∧ Hid (w.grownBy wr (some g)) ∧ v8 = .int .i64 i) (fun a _ => n - (intOf a).toNat)
  case atStart =>
    refine ⟨1, Nat.le_refl _, hp, ?_, World.grownBy.refl w _, by go_num⟩
    have : ordL lt 1 ++ upL 1 (n - 1) = upL 0 n := by
      obtain ⟨m, rfl⟩ : ∃ m, n = m + 1 := ⟨n - 1, by omega⟩
      rw [upL_cons]; rfl
    rw [this]; exact HO.out
  case round =>
    obtain ⟨i, hi1, hin, HW, HG, rfl⟩ := hrel
    by_cases hlt : i < n
    · have HSl := Lib.hid (ordL_len lt i)
      have HSi := Lib.hid (ordL_in lt i)
      have HNx := Lib.hid (ord_next lt i)
      have hup : upL i (n - i) = (i : Int) :: upL (i + 1) (n - (i + 1)) := by
        rw [show n - i = (n - (i + 1)) + 1 by omega, upL_cons]
      have HW1 := Lib.hid (show wr.ownsRow w0.heap.size 2 1 (.slice (some ⟨g, 0, none⟩) n cap) n (inC (midL (ordL lt i) i i ++ upL (i + 1) (n - (i + 1)))) by
        have := mid_start (ordL lt i) i
        rw [HSl.out] at this
        rw [this, List.append_assoc, List.cons_append, List.nil_append, ← hup]
        exact HW.out)
      clear hup HW
      generalize ordL lt i = S at *
      generalize hR : upL (i + 1) (n - (i + 1)) = R at *
      go_wp2_with fail
      go_loopw [9] (fun v9 wr => ∃ j : Nat, j ≤ i ∧ Hid (wr.ownsRow w0.heap.size 2 1 (.slice (some ⟨g, 0, none⟩) n cap) n (inC (midL S i j ++ R))) ∧ Hid (posR lt i S j = posR lt i S S.length) ∧ Hid (w.grownBy wr (some g)) ∧ v9 = .int .i64 j) (fun a _ => (intOf a).toNat)
      case atStart => exact ⟨i, Nat.le_refl _, HW1.out, by show _ = _; rw [HSl.out], HG.out, rfl⟩
      case round =>
        clear HW1 HG
        obtain ⟨j, hj, HW, HPo, HG, rfl⟩ := hrel
        have hSi : S.length = i := HSl.out
        have hlen : (midL S i j).length = i + 1 := by rw [midL_len (by omega), hSi]
        have hRl : R.length = n - (i + 1) := by rw [← hR, upL_len]
        cases j with
        | zero =>
          have HX := Lib.hid (show midL S i 0 ++ R = ordL lt (i + 1) ++ upL (i + 1) (n - (i + 1)) by rw [hR, ← HNx.out, ← HPo.out]; rfl)
          go_upto_region 4 with (fail)
          refine wp_region_quiet_below (by kernel_rfl) (by kernel_rfl) ?_; (repeat (first | go_big_quiet_step (fail))); refine wpQuiet_nil ?_; intro _ hw'; obtain ⟨⟨dq, osq⟩, rfl⟩ := hw'
          have O2 := Lib.hid (own_below HW.out (below_regrown wr dq osq))
          have G2 := Lib.hid (HG.out.trans (grown_below (below_regrown wr dq osq) (some g)))
          generalize grow (redrawn wr dq) osq = w2 at O2 G2 ⊢
          go_wp2_with fail
          go_roundw
          case rel => exact ⟨i + 1, by omega, by omega, by have := O2.out; rw [HX.out] at this; exact this, G2.out, by go_num⟩
          case measure => simp [intOf]; omega
        | succ jp =>
          have hjS : jp < S.length := by omega
          have hx0 : (midL S i (jp + 1) ++ R)[jp + 1]? = some (i : Int) := by rw [List.getElem?_append_left (by omega)]; exact midL_at (by omega)
          have hx1 : (midL S i (jp + 1) ++ R)[jp]? = some S[jp] := by rw [List.getElem?_append_left (by omega)]; exact midL_before hjS
          have hsw := midL_swap (R := R) (x := (i : Int)) hjS
          have hgo := posR_go (lt := lt) (x := (i : Int)) hjS
          have hstop := posR_stop (lt := lt) (x := (i : Int)) hjS
          obtain ⟨hv0, hv1⟩ := HSi.out S[jp] (List.getElem_mem hjS)
          obtain ⟨v, hv⟩ : ∃ v : Nat, S[jp] = (v : Int) := ⟨S[jp].toNat, by omega⟩
          rw [hv] at hx1 hsw hgo hstop hv1
          have hvn : v < n := by omega
          have ca := HW.out.cellAt (jp + 1) (by omega)
          have cb := HW.out.cellAt jp (by omega)
          have hca : (inC (midL S i (jp + 1) ++ R))[jp + 1]? = some (.int .i64 i) := by unfold inC; rw [List.getElem?_map, hx0]; rfl
          have hcb : (inC (midL S i (jp + 1) ++ R))[jp]? = some (.int .i64 v) := by unfold inC; rw [List.getElem?_map, hx1]; rfl
          have HX0 := Lib.hid hca; have HX1 := Lib.hid hcb
          rw [hca] at ca
          rw [hcb] at cb
          have la := cell_regrown ca
          have lb := cell_regrown cb
          have HSw := Lib.hid hsw; have HGo := Lib.hid hgo; have HStop := Lib.hid hstop
          clear hsw hgo hstop hx0 hx1 hca hcb ca cb hv hv0 hv1
          have HC1 := Lib.hid (HCl.out i v hlt hvn)
          have HL1 := HLt.out i v
          generalize cmpE (atE xs i) (atE xs v) = q at HC1 HL1
          have r1 : ∀ d os, Calls Tryz.prog 92 #[.int .i64 i, .int .i64 v, .pointer (some ⟨gb, 0, none⟩)] (grow (redrawn wr d) os) (fun e w'' => e = .returned (.int .i64 q) ∧ ∃ p : Regrown, w'' = grow (redrawn wr p.d) p.os) := fun d os => Calls.regrown_of (HC1.out _ (HG.out.trans (grown_below (below_regrown wr d os) (some g))))
          have hw1 : IntKind.i64.wrap (jp : Int) = (jp : Int) := IntWalk.i64_in _ (by omega)
          by_cases hq : q < 0
          · rw [decide_eq_true hq] at HL1
            have HPo2 := Lib.hid ((HGo.out HL1).symm.trans HPo.out)
            clear HL1 HPo
            go_upto_region 4 with (fail)
            refine wp_region_quiet_below (by kernel_rfl) (by kernel_rfl) ?_; (repeat (first | go_big_quiet_step ((first | with_reducible exact r1 _ _)))); refine wpQuiet_nil ?_; intro _ hw'; obtain ⟨⟨dq, osq⟩, rfl⟩ := hw'
            have O2 := Lib.hid (own_below HW.out (below_regrown wr dq osq))
            have G2 := Lib.hid (HG.out.trans (grown_below (below_regrown wr dq osq) (some g)))
            clear r1 la lb
            generalize grow (redrawn wr dq) osq = w2 at O2 G2 ⊢
            have ca := O2.out.cellAt (jp + 1) (by omega)
            have cb := O2.out.cellAt jp (by omega)
            rw [HX0.out] at ca
            rw [HX1.out] at cb
            have fa := O2.out.frozenAt (jp + 1)
            have fb := O2.out.frozenAt jp
            have cc : (w2.setCell ⟨g, jp + 1, none⟩ (.int .i64 v)).cell? ⟨g, jp, none⟩ = some (.int .i64 v) := by
              rw [World.cell?_setCell_other _ _ _ _ (by intro e; simp only [Addr.mk.injEq] at e; omega)]; exact cb
            have s1 := O2.out.stored (jp + 1) (.int .i64 v)
            have s2 := s1.1.stored jp (.int .i64 i)
            have e2 : ((inC (midL S i (jp + 1) ++ R)).set (jp + 1) (.int .i64 v)).set jp (.int .i64 i) = inC (midL S i jp ++ R) := by
              unfold inC
              rw [← List.map_set, ← List.map_set, HSw.out]
            have O3 := Lib.hid (World.ownsRow.drew (e2 ▸ s2.1))
            have G3 := Lib.hid (((G2.out.trans s1.2).trans s2.2).trans (grown_below (Below.refl _ _).drew (some g)))
            have mixed : Tryz.prog.follows Departure.mixedOrders = true := by kernel_rfl
            clear s1 s2 e2
            go_wp2_with fail
            go_big_region_o
            clear ca cb fa fb cc
            generalize ((w2.setCell ⟨g, jp + 1, none⟩ (.int .i64 v)).setCell ⟨g, jp, none⟩ (.int .i64 i)).drew = w3 at O3 G3 ⊢
            go_wp2_with fail
            go_roundw
            case rel => exact ⟨jp, by omega, O3.out, HPo2.out, G3.out, by go_num⟩
            case measure => simp [intOf]
          · rw [decide_eq_false hq] at HL1
            have HX := Lib.hid (show midL S i (jp + 1) ++ R = ordL lt (i + 1) ++ upL (i + 1) (n - (i + 1)) by rw [hR, ← HNx.out, ← HPo.out, HStop.out HL1])
            clear HL1
            go_upto_region 4 with (fail)
            refine wp_region_quiet_below (by kernel_rfl) (by kernel_rfl) ?_; (repeat (first | go_big_quiet_step ((first | with_reducible exact r1 _ _)))); refine wpQuiet_nil ?_; intro _ hw'; obtain ⟨⟨dq, osq⟩, rfl⟩ := hw'
            have O2 := Lib.hid (own_below HW.out (below_regrown wr dq osq))
            have G2 := Lib.hid (HG.out.trans (grown_below (below_regrown wr dq osq) (some g)))
            clear r1 la lb
            generalize grow (redrawn wr dq) osq = w2 at O2 G2 ⊢
            go_wp2_with fail
            go_roundw
            case rel => exact ⟨i + 1, by omega, by omega, by have := O2.out; rw [HX.out] at this; exact this, G2.out, by go_num⟩
            case measure => simp [intOf]; omega
    · obtain rfl : i = n := by omega
      have HX := Lib.hid (show ordL lt i ++ upL i (i - i) = ordL lt i by rw [Nat.sub_self]; exact List.append_nil _)
      go_wp2_with fail
      go_end0
      exact ⟨rfl, by have := HW.out; rw [HX.out] at this; exact this, HG.out⟩
end Go.Proofs.YthaampckdcimmaaGreatDoor
