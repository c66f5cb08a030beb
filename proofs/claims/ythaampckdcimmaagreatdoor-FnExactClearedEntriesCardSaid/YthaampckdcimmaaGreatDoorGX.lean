/- ClearedEntries of the reference. -/
import Derived.Test.YthaampckdcimmaaGreatDoorRows
import Derived.Test.YthaampckdcimmaaGreatDoorL0
import Derived.Test.YthaampckdcimmaaGreatDoorM0
import Derived.WalkKit
import Derived.ProofKit
import Derived.OpenShut
import Derived.BigQuiet
import Derived.Outline
import Derived.WalkSpells
import Derived.WalkLawsBesides
import Derived.Deep.DeepCutAuto
import Derived.Test.YthaampckdcimmaaGreatDoorGW
import Derived.Test.YthaampckdcimmaaGreatDoorGT
import Derived.Test.YthaampckdcimmaaGreatDoorG6
namespace Go.Proofs.YthaampckdcimmaaGreatDoor
open Go.ChangeShapes Go.WideShapes Go.ChangeAt Go.RowKit Go.Sort

def cP (xs : List Ent) (d : Int) (k i : Int) : Bool := homB (atE xs k) (atE xs i) d
def keptL (xs : List Ent) (d : Int) : List Int := clrL (cP xs d) (ordL (ltE xs) xs.length)
/-- The indices of the entries that are left. -/
def clV (xs : List Ent) (d : Int) : List Int := if codeE xs true d = 0 then refTo (keptL xs d) xs.length else []
theorem clV_len (xs : List Ent) (d : Int) : (clV xs d).length ≤ xs.length := by
  unfold clV
  split
  · exact refTo_len _ _
  · simp
theorem codeT {xs : List Ent} {d : Int} : codeE xs true d = if areE xs = true then (if inB d 0 4000 = true then 0 else 2) else 1 := by unfold codeE; rw [Bool.and_true]
theorem any_take {K : List Int} (p : Int → Bool) {j : Nat} (h : j < K.length) : (K.take (j + 1)).any p = ((K.take j).any p || p K[j]) := by
  rw [List.take_succ_eq_append_getElem h, List.any_append]; simp
set_option maxRecDepth 100000 in
theorem hasI_any (K : List Int) (x : Int) (A : Option Addr) (c : Nat) (w : World) (hr : Reads w w.heap.size 1 A K.length (inC K)) (hm : K.length ≤ 9223372036854775807) :
    Calls Tryz.prog 59 #[.slice A K.length c, .int .i64 x] w fun e w' => e = .returned (.bool (inB' K x)) ∧ w = w' := by
  have HR := Lib.hid hr; clear hr
  go_enter Tryz.func59, Tryz.ntmps59
  go_wp2_with fail
  go_loopw [5] (fun v5 wr => ∃ k : Nat, k ≤ K.length ∧ Hid ((K.take k).any (fun v => v == x) = false) ∧ wr = w ∧ v5 = .int .i64 k) (fun i _ => K.length - (intOf i).toNat)
  case atStart => exact ⟨0, Nat.zero_le _, rfl, rfl, rfl⟩
  case round =>
    obtain ⟨k, hk, HN, rfl, rfl⟩ := hrel
    by_cases hlt : k < K.length
    · obtain ⟨ab, ao, rfl, hadb, hcell⟩ := HR.out.2 (by omega)
      have c0 := hcell k (.int .i64 K[k]) (by unfold inC; rw [List.getElem?_map, List.getElem?_eq_getElem hlt]; rfl)
      have HT := Lib.hid (any_take (fun v => v == x) hlt)
      have HM := Lib.hid (show K[k] ∈ K from List.getElem_mem hlt)
      clear hcell
      generalize K[k] = y at c0 HT HM
      by_cases hy : y = x
      · subst hy
        have HX := Lib.hid (inB'_iff.2 HM.out)
        go_wp2_with fail
        go_ret
        exact ⟨ret_bool HX.out.symm, by first | rfl | trivial⟩
      · have HF := Lib.hid (show (K.take (k + 1)).any (fun v => v == x) = false by rw [HT.out, HN.out, beq_eq_false_iff_ne.2 hy]; rfl)
        go_wp2_with fail
        go_roundw
        case rel => exact ⟨k + 1, by omega, HF.out, by first | rfl | trivial, by go_num⟩
        case measure => simp [intOf]; omega
    · obtain rfl : k = K.length := by omega
      have HX := Lib.hid (show inB' K x = false by have := HN.out; rw [List.take_length] at this; exact this)
      go_wp2_with fail
      go_ret
      exact ⟨ret_bool HX.out.symm, by first | rfl | trivial⟩
set_option maxRecDepth 100000 in
set_option maxHeartbeats 4000000 in
theorem specClr_any (xs : List Ent) (dist : Int) (hs : ∀ b ∈ xs, b.text.size ≤ 1048576) (A : Option Addr) (c : Nat) (w : World) (h : HasEnt w xs A) :
    Calls Tryz.prog 19 #[.slice A xs.length c, .int .i64 dist] w fun e w' => ∃ v, e = .returned (.tuple #[v, .int .i64 (codeE xs true dist)]) ∧ w'.ownsRow w.heap.size 2 1 v (clV xs dist).length (inC (clV xs dist)) ∧ Below w.heap.size w w' := by
  have HA := Lib.hid (specAreE_any xs A c w h hs)
  have HI := Lib.hid (specIn_any dist 0 4000)
  cases ha : areE xs
  · have HC := Lib.hid (show codeE xs true dist = 1 by rw [codeT, ha]; rfl)
    have HV := Lib.hid (show clV xs dist = [] by unfold clV; rw [if_neg (by rw [HC.out]; decide)])
    rw [ha] at HA
    clear h hs ha
    generalize clV xs dist = L at HV ⊢
    generalize codeE xs true dist = code at HC ⊢
    go_enter Tryz.func19, Tryz.ntmps19
    go_wp2_with fail
    refine HA.out.mono ?_; rintro e w1 ⟨rfl, b1⟩
    go_wp2_with fail
    go_ret2
    exact ⟨_, by rw [HC.out]; (first | done | rfl), by rw [HV.out]; exact World.ownsRow_nil _ _ _ _, b1⟩
  · cases hi : inB dist 0 4000
    · have HC := Lib.hid (show codeE xs true dist = 2 by rw [codeT, ha, hi]; rfl)
      have HV := Lib.hid (show clV xs dist = [] by unfold clV; rw [if_neg (by rw [HC.out]; decide)])
      rw [ha] at HA
      rw [hi] at HI
      clear h hs ha hi
      generalize clV xs dist = L at HV ⊢
      generalize codeE xs true dist = code at HC ⊢
      go_enter Tryz.func19, Tryz.ntmps19
      go_wp2_with fail
      refine HA.out.mono ?_; rintro e w1 ⟨rfl, b1⟩
      have B1 := Lib.hid b1; clear b1
      go_wp2_with fail
      refine (HI.out _).mono ?_; rintro e w' ⟨rfl, rfl⟩
      go_wp2_with fail
      go_ret2
      exact ⟨_, by rw [HC.out]; (first | done | rfl), by rw [HV.out]; exact World.ownsRow_nil _ _ _ _, B1.out⟩
    · have HC := Lib.hid (show codeE xs true dist = 0 by rw [codeT, ha, hi]; rfl)
      have HV := Lib.hid (show clV xs dist = refTo (keptL xs dist) xs.length by unfold clV; rw [if_pos HC.out])
      obtain ⟨hx, hm⟩ : (∀ f ∈ xs, entB f = true) ∧ xs.length ≤ 12 := by
        simp only [areE, Bool.and_eq_true, List.all_eq_true, decide_eq_true_eq] at ha
        exact ⟨ha.1, by omega⟩
      have hd : 0 ≤ dist ∧ dist ≤ 4000 := by simp only [inB, Bool.and_eq_true, decide_eq_true_eq] at hi; omega
      have HOd := Lib.hid (fun W (hb : Below w.heap.size w W) => specOrd_any xs hx A c W (h.below hb) hm)
      have HHm := Lib.hid (fun i k (hi : i < xs.length) (hk : k < xs.length) => specHom_any xs[i] xs[k] (hx _ (List.getElem_mem hi)) (hx _ (List.getElem_mem hk)) dist hd)
      rw [ha] at HA
      rw [hi] at HI
      have H := Lib.hid h
      clear h hs ha hi hx hd
      obtain ⟨i0, hi0, hz0, hz1, hz2⟩ := info_parts infoInt
      have HOi := Lib.hid (ordL_in (ltE xs) xs.length)
      have HOl := Lib.hid (ordL_len (ltE xs) xs.length)
      have HKp := Lib.hid (show keptL xs dist = clrL (cP xs dist) (ordL (ltE xs) xs.length) from rfl)
      obtain ⟨P, hP⟩ : ∃ P, cP xs dist = P := ⟨_, rfl⟩
      have HPp := Lib.hid (show ∀ (i k : Nat) (hi : i < xs.length) (hk : k < xs.length), P i k = homB xs[i] xs[k] dist by intro i k hi hk; rw [← hP, cP, atE_eq hi, atE_eq hk])
      rw [hP] at HKp
      clear hP
      generalize keptL xs dist = KK at HKp HV
      generalize ordL (ltE xs) xs.length = O at *
      generalize clV xs dist = L at HV ⊢
      generalize codeE xs true dist = code at HC ⊢
      have hOl : O.length = xs.length := HOl.out
      rw [hOl] at HOd
      clear hOl
      go_enter Tryz.func19, Tryz.ntmps19
      go_wp2_with fail
      refine HA.out.mono ?_; rintro e w1 ⟨rfl, b1⟩
      have B1 := Lib.hid b1; clear b1
      go_wp2_with fail
      refine (HI.out _).mono ?_; rintro e w' ⟨rfl, rfl⟩
      go_upto_region 6 with (fail)
      generalize hW : w1.alloc (.cells #[] 2) = W1
      have OW := Lib.hid (show W1.ownsRow w.heap.size 2 1 (.slice (some ⟨w1.heap.size, 0, none⟩) 0 0) 0 (inC []) by
        have := World.ownsRow_made (e := 2) (base := w.heap.size) (size := 1) w1 #[] 0 B1.out.size (by decide) rfl
        rw [← hW]
        simpa [inC] using this)
      have BW1 := Lib.hid (show Below w.heap.size w W1 by rw [← hW]; exact B1.out.alloc B1.out.size _)
      have LW1 := Lib.hid (show w1.heap.size < W1.heap.size by rw [← hW]; simp)
      clear hW
      go_wp2_with fail
      refine (HOd.out W1 BW1.out).mono ?_; rintro e w2 ⟨v, rfl, own2, b2⟩
      obtain ⟨A2, c2, rfl, _⟩ := own_shape own2
      have O2 := Lib.hid own2
      have K2 := Lib.hid (own_below OW.out b2)
      have B2 := Lib.hid (BW1.out.trans (b2.mono BW1.out.size))
      have N2 := Lib.hid (show ∀ q, (Value.slice A2 xs.length c2).ownBlock = some q → w1.heap.size < q ∧ q < w2.heap.size from fun q hq => by have := own_lt own2 q hq; have := LW1.out; omega)
      clear own2 b2
      go_wp2_with fail
      go_loopw [6, 8] (fun v6 v8 wr => ∃ (k m : Nat) (B : Option Addr) (d : Nat), k ≤ xs.length ∧ Hid ((clrL P (O.take k)).length = m) ∧ v6 = .slice B m d ∧ Hid (wr.ownsRow w.heap.size 2 1 (.slice B m d) m (inC (clrL P (O.take k)))) ∧ Hid (wr.ownsRow w.heap.size 2 1 (.slice A2 xs.length c2) xs.length (inC O)) ∧ Hid (∀ q, (Value.slice B m d).ownBlock = some q → (Value.slice A2 xs.length c2).ownBlock ≠ some q) ∧ Hid (Below w.heap.size w wr) ∧ v8 = .int .i64 k) (fun _ i _ => xs.length - (intOf i).toNat)
      case atStart => exact ⟨0, 0, _, 0, by omega, rfl, rfl, K2.out, own_mono O2.out BW1.out.size, fun q hq ho => by simp [Value.ownBlock] at hq; have := N2.out q ho; omega, B2.out, rfl⟩
      case round =>
        obtain ⟨k, m, B, d, hk, HN, rfl, HK, HO, HD, BW, rfl⟩ := hrel
        by_cases hlt : k < xs.length
        · have hkO : k < O.length := by have := HOl.out; omega
          have HNx := Lib.hid (clrL_take (P := P) hkO)
          have HKm := Lib.hid (fun v (hv : v ∈ clrL P (O.take k)) => HOi.out v (List.mem_of_mem_take ((clrL_sub P (O.take k)).subset hv)))
          have HKl := Lib.hid (Nat.le_trans (clrL_len P (O.take k)) (by rw [List.length_take]; exact Nat.min_le_left k O.length))
          obtain ⟨ho0, ho1⟩ := HOi.out O[k] (List.getElem_mem hkO)
          obtain ⟨ov, hov⟩ : ∃ v : Nat, O[k] = (v : Int) := ⟨O[k].toNat, by omega⟩
          have hovn : ov < xs.length := by omega
          have HOc := Lib.hid (show (inC O)[k]? = some (.int .i64 ov) by unfold inC; rw [List.getElem?_map, List.getElem?_eq_getElem hkO, hov]; rfl)
          rw [hov] at HNx
          clear ho0 ho1 hov hkO
          generalize clrL P (O.take k) = K at *
          have hKl : K.length = m := HN.out
          have hmk : m ≤ k := by have := HKl.out; omega
          go_wp2_with fail
          go_loopw [9, 10] (fun v9 v10 wr => ∃ (j : Nat) (fr : Bool), j ≤ m ∧ Hid (wr.ownsRow w.heap.size 2 1 (.slice B m d) m (inC K)) ∧ Hid (wr.ownsRow w.heap.size 2 1 (.slice A2 xs.length c2) xs.length (inC O)) ∧ Hid (Below w.heap.size w wr) ∧ Hid (fr = !((K.take j).any fun v => P v ov)) ∧ v9 = .bool fr ∧ v10 = .int .i64 j) (fun _ b _ => m - (intOf b).toNat)
          case atStart => exact ⟨0, true, by omega, HK.out, HO.out, BW.out, rfl, rfl, rfl⟩
          case round =>
            clear HK HO BW
            obtain ⟨j, fr, hj, HK, HO, BW, HF, rfl, rfl⟩ := hrel
            by_cases hjm : j < m
            · have hjK : j < K.length := by omega
              have HT := Lib.hid (any_take (fun v => P v ov) hjK)
              obtain ⟨kb, ko, rfl, hkb, hkc⟩ := (Reads.of_own HK.out).2 (by omega)
              obtain ⟨ob, oo, rfl, hob, hoc⟩ := (Reads.of_own HO.out).2 (by omega)
              obtain ⟨ab, ao, rfl, hadb, hcell⟩ := (H.out.below BW.out).1.2 (by omega)
              obtain ⟨hv0, hv1⟩ := HKm.out K[j] (List.getElem_mem hjK)
              obtain ⟨kv, hkv⟩ : ∃ v : Nat, K[j] = (v : Int) := ⟨K[j].toNat, by omega⟩
              have hkvn : kv < xs.length := by omega
              have ck := cell_regrown (hkc j (.int .i64 kv) (by unfold inC; rw [List.getElem?_map, List.getElem?_eq_getElem hjK, hkv]; rfl))
              have co := cell_regrown (hoc k (.int .i64 ov) HOc.out)
              obtain ⟨e0, e1, e2, e3⟩ := enC_get xs kv hkvn
              obtain ⟨g0, g1, g2, g3⟩ := enC_get xs ov hovn
              have c0 := cell_regrown (hcell _ _ e0)
              have c1 := cell_regrown (hcell _ _ e1)
              have c2' := cell_regrown (hcell _ _ e2)
              have c3 := cell_regrown (hcell _ _ e3)
              have d0 := cell_regrown (hcell _ _ g0)
              have d1 := cell_regrown (hcell _ _ g1)
              have d2 := cell_regrown (hcell _ _ g2)
              have d3 := cell_regrown (hcell _ _ g3)
              simp only [← Nat.add_assoc] at c1 c2' c3 d1 d2 d3
              rw [hkv] at HT
              have HP1 := Lib.hid (HPp.out kv ov hkvn hovn)
              have HC1 := Lib.hid (HHm.out kv ov hkvn hovn)
              clear hkc hoc hcell e0 e1 e2 e3 g0 g1 g2 g3 hv0 hv1 hkv
              generalize xs[kv] = f at c0 c1 c2' c3 HP1 HC1
              generalize xs[ov] = u at d0 d1 d2 d3 HP1 HC1
              unfold Ent.val at HC1
              generalize homB f u dist = q at HP1 HC1
              have r1 : ∀ d os, Calls Tryz.prog 45 #[.agg #[.string f.text, .int .i64 f.x, .int .i64 f.y, .int .i64 f.since], .agg #[.string u.text, .int .i64 u.x, .int .i64 u.y, .int .i64 u.since], .int .i64 dist] (grow (redrawn wr d) os) (fun e w'' => e = .returned (.bool q) ∧ ∃ p : Regrown, w'' = grow (redrawn wr p.d) p.os) := fun d os => Calls.regrown_of (HC1.out _)
              rw [HP1.out] at HT
              clear HC1 HP1
              cases fr
              · have HT2 := Lib.hid (show (K.take (j + 1)).any (fun v => P v ov) = true by rw [HT.out]; have := HF.out; revert this; cases (K.take j).any (fun v => P v ov) <;> simp)
                go_upto_region 14 with (fail)
                refine wp_region_quiet_below (by kernel_rfl) (by kernel_rfl) ?_; (repeat (first | go_big_quiet_step ((first | with_reducible exact r1 _ _)))); refine wpQuiet_nil ?_; intro _ hw'; obtain ⟨⟨dq, osq⟩, rfl⟩ := hw'
                have O2' := Lib.hid (own_below HO.out (below_regrown wr dq osq))
                have K2' := Lib.hid (own_below HK.out (below_regrown wr dq osq))
                have B2' := Lib.hid (BW.out.trans ((below_regrown wr dq osq).mono BW.out.size))
                clear r1 ck co c0 c1 c2' c3 d0 d1 d2 d3
                generalize grow (redrawn wr dq) osq = w3 at O2' K2' B2' ⊢
                go_wp2_with fail
                go_roundw
                case rel => exact ⟨j + 1, _, by omega, K2'.out, O2'.out, B2'.out, by show _ = _; rw [HT2.out]; (first | done | rfl | (cases q <;> rfl)), rfl, by go_num⟩
                case measure => simp [intOf]; omega
              · have HT2 := Lib.hid (show (K.take (j + 1)).any (fun v => P v ov) = q by rw [HT.out]; have := HF.out; revert this; cases (K.take j).any (fun v => P v ov) <;> simp)
                go_upto_region 14 with (fail)
                refine wp_region_quiet_below (by kernel_rfl) (by kernel_rfl) ?_; (repeat (first | go_big_quiet_step ((first | with_reducible exact r1 _ _)))); refine wpQuiet_nil ?_; intro _ hw'; obtain ⟨⟨dq, osq⟩, rfl⟩ := hw'
                have O2' := Lib.hid (own_below HO.out (below_regrown wr dq osq))
                have K2' := Lib.hid (own_below HK.out (below_regrown wr dq osq))
                have B2' := Lib.hid (BW.out.trans ((below_regrown wr dq osq).mono BW.out.size))
                clear r1 ck co c0 c1 c2' c3 d0 d1 d2 d3
                generalize grow (redrawn wr dq) osq = w3 at O2' K2' B2' ⊢
                go_wp2_with fail
                go_roundw
                case rel => exact ⟨j + 1, _, by omega, K2'.out, O2'.out, B2'.out, by show _ = _; rw [HT2.out]; (first | done | rfl | (cases q <;> rfl)), rfl, by go_num⟩
                case measure => simp [intOf]; omega
            · obtain rfl : j = m := by omega
              have HF2 := Lib.hid (show fr = !(K.any fun v => P v ov) by have := HF.out; rw [List.take_of_length_le (by omega)] at this; exact this)
              cases fr
              case true =>
                have hf : K.any (fun v => P v ov) = false := by have := HF2.out; revert this; cases K.any (fun v => P v ov) <;> simp
                rw [hf] at HNx
                clear hf
                obtain ⟨ob, oo, rfl, hob, hoc⟩ := (Reads.of_own HO.out).2 (by omega)
                have co := hoc k (.int .i64 ov) HOc.out
                clear hoc hob
                go_wp2_with (at_builtin; refine wpList_append_any _ rfl (.tmp 55) (.tmp 60) _ rfl w.heap.size 2 i0 _ 1 8 Tryz.underlying31 hi0 hz0 hz1 hz2 rfl (by omega) (.slice B j d) j (inC K) rfl (HK.out.alloc _) _ (some ⟨wr.heap.size, 0, none⟩) 1 1 [.int .i64 ov] rfl (new_in1 _ _ _) (by simp [Value.oneCell']) (by simp only [maxLen]; omega) (by omega) (by have := BW.out.size; simp; omega) ?_; intro v4 w4 hown4 hg4 hat4; obtain ⟨B4, d4, rfl, _⟩ := own_shape hown4)
                go_roundw
                case rel => exact ⟨k + 1, j + 1, B4, d4, by omega, by have := HN.out; rw [HNx.out]; simp [Hid, this], rfl, by rw [HNx.out]; (try simp only [Bool.false_eq_true, if_false]); rw [inC_snoc]; exact hown4,
                  (HO.out.alloc _).kept hg4 (by
                    rcases ho : (Value.slice (some ⟨ob, oo, none⟩) xs.length c2).ownBlock with _ | q
                    · exact .inl rfl
                    · exact .inr (fun e => HD.out q e.symm ho)),
                  (fun q hq ho => by
                    rcases hat4 with h4 | h4
                    · rw [h4] at hq; exact HD.out q hq ho
                    · rw [h4] at hq
                      have h5 := (own_lt HO.out q ho).2
                      injection hq with hq
                      simp at hq; omega),
                  below_own (BW.out.alloc BW.out.size _) (HK.out.alloc _) hg4 (Nat.le_refl _) (by have := BW.out.size; simp; omega), by go_num⟩
                case measure => simp [intOf]; omega
              case false =>
                have hf : K.any (fun v => P v ov) = true := by have := HF2.out; revert this; cases K.any (fun v => P v ov) <;> simp
                rw [hf] at HNx
                clear hf
                go_wp2_with fail
                go_roundw
                case rel => exact ⟨k + 1, j, B, d, by omega, by rw [HNx.out]; exact HN.out, rfl, by rw [HNx.out]; exact HK.out, HO.out, HD.out, BW.out, by go_num⟩
                case measure => simp [intOf]; omega
        · obtain rfl : k = xs.length := by omega
          have htk : O.take xs.length = O := List.take_of_length_le (by have := HOl.out; omega)
          rw [htk, ← HKp.out] at HN HK
          obtain rfl := HN.out
          have HKl := Lib.hid (show KK.length ≤ xs.length by rw [HKp.out]; have := clrL_len P O; have := HOl.out; omega)
          have hkl := HKl.out
          clear htk HO HD
          go_upto_region 18 with (fail)
          generalize hW : wr.alloc (.cells #[] 2) = W5
          have OW5 := Lib.hid (show W5.ownsRow wr.heap.size 2 1 (.slice (some ⟨wr.heap.size, 0, none⟩) 0 0) 0 (inC []) by
            have := World.ownsRow_made (e := 2) (base := wr.heap.size) (size := 1) wr #[] 0 (Nat.le_refl _) (by decide) rfl
            rw [← hW]
            simpa [inC] using this)
          have B5 := Lib.hid (show Below wr.heap.size wr W5 by rw [← hW]; exact (Below.refl _ _).alloc (Nat.le_refl _) _)
          clear hW
          go_wp2_with fail
          go_loopw [11, 12] (fun v11 v12 w6 => ∃ (i m2 : Nat) (B2 : Option Addr) (d2 : Nat), i ≤ xs.length ∧ Hid ((refTo KK i).length = m2) ∧ v11 = .slice B2 m2 d2 ∧ Hid (w6.ownsRow wr.heap.size 2 1 (.slice B2 m2 d2) m2 (inC (refTo KK i))) ∧ Hid (Below wr.heap.size wr w6) ∧ v12 = .int .i64 i) (fun _ i _ => xs.length - (intOf i).toNat)
          case atStart => exact ⟨0, 0, _, 0, by omega, rfl, rfl, OW5.out, B5.out, rfl⟩
          case round =>
            obtain ⟨i, m2, B2, d2, hi, HM, rfl, HW2, BX, rfl⟩ := hrel
            have hm2 : m2 ≤ i := by have := HM.out; have := refTo_len KK i; omega
            by_cases hin : i < xs.length
            · have HNx := Lib.hid (refTo_next KK i)
              have HH := Lib.hid (hasI_any KK i B d wr (Reads.of_own (own_below HK.out BX.out)) (by omega))
              cases hb : inB' KK (i : Int)
              · rw [hb] at HNx HH
                clear hb
                go_wp2_with fail
                refine HH.out.mono ?_; rintro e w' ⟨rfl, rfl⟩
                go_wp2_with fail
                go_roundw
                case rel => exact ⟨i + 1, m2, B2, d2, by omega, by rw [HNx.out]; exact HM.out, rfl, by rw [HNx.out]; exact HW2.out, BX.out, by go_num⟩
                case measure => simp [intOf]; omega
              · rw [hb] at HNx HH
                clear hb
                go_wp2_with fail
                refine HH.out.mono ?_; rintro e w' ⟨rfl, rfl⟩
                go_wp2_with (at_builtin; refine wpList_append_any _ rfl (.tmp 72) (.tmp 74) _ rfl _ 2 i0 _ 1 8 Tryz.underlying31 hi0 hz0 hz1 hz2 rfl (by omega) (.slice B2 m2 d2) m2 (inC (refTo KK i)) rfl (HW2.out.alloc _) _ (some ⟨wr.heap.size, 0, none⟩) 1 1 [.int .i64 i] rfl (new_in1 _ _ _) (by simp [Value.oneCell']) (by simp only [maxLen]; omega) (by omega) (by have := BX.out.size; simp; omega) ?_; intro v4 w4 hown4 hg4 hat4; obtain ⟨B4, d4, rfl, _⟩ := own_shape hown4)
                go_roundw
                case rel => exact ⟨i + 1, m2 + 1, B4, d4, by omega, by have := HM.out; rw [HNx.out]; simp [Hid, this], rfl, by rw [HNx.out]; (try simp only [if_true]); rw [inC_snoc]; exact hown4, below_own (BX.out.alloc BX.out.size _) (HW2.out.alloc _) hg4 (Nat.le_refl _) (by have := BX.out.size; simp; omega), by go_num⟩
                case measure => simp [intOf]; omega
            · obtain rfl : i = xs.length := by omega
              have HM' := HM.out
              go_wp2_with fail
              go_ret2
              exact ⟨_, by rw [HC.out]; (first | done | rfl), by rw [HV.out, HM']; exact own_mono HW2.out BW.out.size, BW.out.trans (BX.out.mono BW.out.size)⟩
end Go.Proofs.YthaampckdcimmaaGreatDoor
