/- ClearedEntries of the program. -/
import Derived.Test.YthaampckdcimmaaGreatDoorRows
import Derived.Test.YthaampckdcimmaaGreatDoorL0
import Derived.Test.YthaampckdcimmaaGreatDoorM0
import Derived.WalkKit
import Derived.ProofKit
import Derived.OpenShut
import Derived.BigQuiet
import Derived.Outline
import Derived.WalkSpells
import Derived.WalkLawsBesides
import Derived.Deep.DeepCutAuto
import Derived.Test.YthaampckdcimmaaGreatDoorGY
import Derived.Test.YthaampckdcimmaaGreatDoorKM
import Derived.Sort.OwnSortedInts
namespace Go.Proofs.YthaampckdcimmaaGreatDoor
open Go.ChangeShapes Go.WideShapes Go.ChangeAt Go.RowKit Go.Sort

theorem sortI_any (K : List Int) (base : Nat) (B : Option Addr) (d : Nat) (w : World) (hm : K.length ≤ 12) (h : w.ownsRow base 2 1 (.slice B K.length d) K.length (inC K)) :
    Calls Tryz.prog 65 #[.slice B K.length d] w fun e w' => e = .returned (.tuple #[]) ∧ w'.ownsRow base 2 1 (.slice B K.length d) K.length (inC (K.mergeSort fun x y => decide (x ≤ y))) ∧ w.grownBy w' (Value.slice B K.length d).ownBlock := by
  rcases Nat.eq_zero_or_pos K.length with hz | hp
  · have hK : K = [] := List.eq_nil_of_length_eq_zero hz
    subst hK
    refine (AnyM.slices_Sort_int_none Tryz.lays5_f65 B d w).mono ?_
    rintro e w' ⟨rfl, rfl⟩
    exact ⟨rfl, by rw [List.mergeSort_nil]; exact h, World.grownBy.refl _ _⟩
  · obtain ⟨g, cap, hv, hbg, hgl⟩ := h.form hp
    simp only [Value.slice.injEq, true_and] at hv
    obtain ⟨rfl, rfl⟩ := hv
    rcases h.2 with ⟨h', _⟩ | ⟨g', cap', cur, h', hb, hg, hnc, hcm, hcs, htake⟩
    · simp at h'
    · simp only [Value.slice.injEq, Option.some.injEq, Addr.mk.injEq, and_true, true_and] at h'
      obtain ⟨rfl, rfl⟩ := h'
      rw [Nat.mul_one] at htake
      have hH := holds_of_blockI hg htake
      refine (AnyM.slices_Sort_int Tryz.lays5_f65 g 0 d K w hH hgl (by omega)).mono ?_
      rintro e w' ⟨rfl, n, os, rfl⟩
      exact ⟨rfl, ownsRow_sortedI (by rw [List.length_mergeSort]) hb hg hnc hcm hcs, grownBy_sortedI _⟩
set_option maxRecDepth 100000 in
set_option maxHeartbeats 4000000 in
theorem implClr_any (xs : List Ent) (dist : Int) (hs : ∀ b ∈ xs, b.text.size ≤ 1048576) (A : Option Addr) (c : Nat) (w : World) (h : HasEnt w xs A) :
    Calls Tryz.prog 21 #[.slice A xs.length c, .int .i64 dist] w fun e w' => ∃ v, e = .returned (.tuple #[v, .int .i64 (codeE xs true dist)]) ∧ w'.ownsRow w.heap.size 2 1 v (clV xs dist).length (inC (clV xs dist)) ∧ Below w.heap.size w w' := by
  have hmf : ∀ (fn : Fn) (first cap : Array Value) (w : World), (Instr.makeFunc fn first cap).run Tryz.prog w = .ok (.func fn first cap) w := fun _ _ _ _ => rfl
  have HC0 := Lib.hid (fun W (hb : Below w.heap.size w W) => implCodeE_any xs true dist A c W (h.below hb) hs)
  have KN := Lib.hid (blks_two w 24 2 #[.slice A xs.length c] #[.int .i64 dist])
  by_cases hz : codeE xs true dist = 0
  · have HV := Lib.hid (show clV xs dist = refTo (keptL xs dist) xs.length by unfold clV; rw [if_pos hz])
    have HSt := Lib.hid (show (keptL xs dist).mergeSort (fun x y => decide (x ≤ y)) = refTo (keptL xs dist) xs.length from sort_ref (P := cP xs dist) (lt := ltE xs) xs.length)
    obtain ⟨hx, hm, _, hd⟩ := codeE_zero hz
    have HOd := Lib.hid (fun W (hb : Below w.heap.size w W) => implOrd_any xs A c W (h.below hb) hm)
    have HCl := Lib.hid (fun i k hi hk gb gi gd t ti td W hb hbi hbd hW => clr1_any xs hx dist hd i k hi hk gb gi gd t ti td A c W hb hbi hbd hW)
    have H := Lib.hid h
    rw [hz] at HC0
    have HC := Lib.hid hz
    clear h hs hx hd hz
    obtain ⟨i0, hi0, hz0, hz1, hz2⟩ := info_parts infoInt
    have HOi := Lib.hid (ordL_in (ltE xs) xs.length)
    have HOl := Lib.hid (ordL_len (ltE xs) xs.length)
    have HKp := Lib.hid (show keptL xs dist = clrL (cP xs dist) (ordL (ltE xs) xs.length) from rfl)
    obtain ⟨P, hP⟩ : ∃ P, cP xs dist = P := ⟨_, rfl⟩
    rw [hP] at HKp HCl
    clear hP
    generalize keptL xs dist = KK at HKp HV HSt
    generalize ordL (ltE xs) xs.length = O at *
    generalize clV xs dist = L at HV ⊢
    generalize codeE xs true dist = code at HC ⊢
    have hOl : O.length = xs.length := HOl.out
    rw [hOl] at HOd
    clear hOl
    go_enter Tryz.func21, Tryz.ntmps21
    go_upto_region 1 with (fail)
    generalize hW : (w.alloc (.cells #[.slice A xs.length c] 24)).alloc (.cells #[.int .i64 dist] 2) = W
    obtain ⟨kb, kd, bw, hsz⟩ := KN.out W hW.symm
    clear hW hsz
    have x0 : W.cell? ⟨w.heap.size, 0, none⟩ = some (.slice A xs.length c) := by rw [kb.cell]; rfl
    have y0 : W.cell? ⟨w.heap.size + 1, 0, none⟩ = some (.int .i64 dist) := by rw [kd.cell]; rfl
    go_wp2_with fail
    refine (HC0.out W bw).mono ?_; rintro e w1 ⟨rfl, b1⟩
    have KB := Lib.hid (kb.below b1 kb.lt); have KD := Lib.hid (kd.below b1 kd.lt); have B1 := Lib.hid (bw.trans (b1.mono bw.size)); clear kb kd bw b1 x0 y0
    have x0 : w1.cell? ⟨w.heap.size, 0, none⟩ = some (.slice A xs.length c) := by rw [KB.out.cell]; rfl
    go_wp2_with fail
    refine (HOd.out w1 B1.out).mono ?_; rintro e w2 ⟨v, rfl, own2, b2⟩
    obtain ⟨A2, c2, rfl, _⟩ := own_shape own2
    have O2 := Lib.hid own2
    have KB := Lib.hid (KB.out.below b2 KB.out.lt); have KD := Lib.hid (KD.out.below b2 KD.out.lt); have B2 := Lib.hid (B1.out.trans (b2.mono B1.out.size)); clear b2 x0 own2
    go_wp2_with fail
    go_loopw [7, 19] (fun v7 v19 wr => ∃ (k m : Nat) (B : Option Addr) (d : Nat), k ≤ xs.length ∧ Hid ((clrL P (O.take k)).length = m) ∧ v7 = .slice B m d ∧ Hid (wr.ownsRow w2.heap.size 2 1 (.slice B m d) m (inC (clrL P (O.take k)))) ∧ Hid (Below w2.heap.size w2 wr) ∧ v19 = .int .i64 k) (fun _ i _ => xs.length - (intOf i).toNat)
    case atStart => exact ⟨0, 0, none, 0, by omega, rfl, rfl, World.ownsRow_nil _ _ _ _, Below.refl _ _, rfl⟩
    case round =>
      obtain ⟨k, m, B, d, hk, HN, rfl, HK, BW, rfl⟩ := hrel
      by_cases hlt : k < xs.length
      · have hkO : k < O.length := by have := HOl.out; omega
        have HNx := Lib.hid (clrL_take (P := P) hkO)
        have HKm := Lib.hid (fun v (hv : v ∈ clrL P (O.take k)) => HOi.out v (List.mem_of_mem_take ((clrL_sub P (O.take k)).subset hv)))
        have HKl := Lib.hid (Nat.le_trans (clrL_len P (O.take k)) (by rw [List.length_take]; exact Nat.min_le_left k O.length))
        obtain ⟨ho0, ho1⟩ := HOi.out O[k] (List.getElem_mem hkO)
        obtain ⟨ov, hov⟩ : ∃ v : Nat, O[k] = (v : Int) := ⟨O[k].toNat, by omega⟩
        have hovn : ov < xs.length := by omega
        have HOc := Lib.hid (show (inC O)[k]? = some (.int .i64 ov) by unfold inC; rw [List.getElem?_map, List.getElem?_eq_getElem hkO, hov]; rfl)
        rw [hov] at HNx
        clear ho0 ho1 hov hkO
        generalize clrL P (O.take k) = K at *
        obtain rfl := HN.out
        have hmk : K.length ≤ k := HKl.out
        obtain ⟨ob, oo, rfl, hob, hoc⟩ := (Reads.of_own (own_below O2.out BW.out)).2 (by omega)
        have co := hoc k (.int .i64 ov) HOc.out
        clear hoc hob
        have T3 := Lib.hid (blks_one wr 2 #[.int .i64 ov])
        go_upto_region 8 with (fail)
        generalize hW2 : wr.alloc (.cells #[.int .i64 ov] 2) = W3
        obtain ⟨ki, bi, hsz⟩ := T3.out W3 hW2.symm
        clear hW2 hsz co
        have BI := Lib.hid (BW.out.trans (bi.mono BW.out.size))
        have KI := Lib.hid ki
        have K3 := Lib.hid (own_below HK.out bi)
        have KB3 := Lib.hid (KB.out.below BI.out KB.out.lt); have KD3 := Lib.hid (KD.out.below BI.out KD.out.lt)
        have hlw : wr.heap.size < W3.heap.size := ki.lt
        have HCt := Lib.hid (contI_any (fun v => P v ov) K (.pointer (some ⟨w.heap.size, 0, none⟩)) (.pointer (some ⟨wr.heap.size, 0, none⟩)) (.pointer (some ⟨w.heap.size + 1, 0, none⟩)) B d W3 (Reads.of_own K3.out) (by omega) (fun v hv W hW => by
          obtain ⟨h0, h1⟩ := HKm.out v hv
          obtain ⟨vn, rfl⟩ : ∃ n : Nat, v = (n : Int) := ⟨v.toNat, by omega⟩
          exact HCl.out ov vn hovn (by omega) w.heap.size wr.heap.size (w.heap.size + 1) _ _ _ W (KB3.out.below hW KB3.out.lt) (KI.out.below hW KI.out.lt) (KD3.out.below hW KD3.out.lt) (H.out.below ((B2.out.trans (BI.out.mono B2.out.size)).trans (hW.mono (B2.out.trans (BI.out.mono B2.out.size)).size)))))
        clear ki bi
        cases hf : K.any (fun v => P v ov)
        · rw [hf] at HNx HCt
          clear hf
          go_wp2_with fail
          refine HCt.out.mono ?_; rintro e w4 ⟨rfl, b4⟩
          have B4 := Lib.hid (BI.out.trans (b4.mono BI.out.size))
          have K4 := Lib.hid (own_below K3.out b4)
          have x1 : w4.cell? ⟨wr.heap.size, 0, none⟩ = some (.int .i64 ov) := by rw [(KI.out.below b4 KI.out.lt).cell]; rfl
          clear b4
          go_wp2_with (at_builtin; refine wpList_append_any _ rfl (.tmp 27) (.tmp 29) _ rfl w2.heap.size 2 i0 _ 1 8 Tryz.underlying31 hi0 hz0 hz1 hz2 rfl (by omega) (.slice B K.length d) K.length (inC K) rfl (K4.out.alloc _) _ (some ⟨w4.heap.size, 0, none⟩) 1 1 [.int .i64 ov] rfl (new_in1 _ _ _) (by simp [Value.oneCell']) (by simp only [maxLen]; omega) (by omega) (by have := B4.out.size; simp; omega) ?_; intro v5 w5 hown5 hg5 hat5; obtain ⟨B5, d5, rfl, _⟩ := own_shape hown5)
          go_roundw
          case rel => exact ⟨k + 1, K.length + 1, B5, d5, by omega, by rw [HNx.out]; simp [Hid], rfl, by rw [HNx.out]; (try simp only [Bool.false_eq_true, if_false]); rw [inC_snoc]; exact hown5, below_own (B4.out.alloc B4.out.size _) (K4.out.alloc _) hg5 (Nat.le_refl _) (by have := B4.out.size; simp; omega), by go_num⟩
          case measure => simp [intOf]; omega
        · rw [hf] at HNx HCt
          clear hf
          go_wp2_with fail
          refine HCt.out.mono ?_; rintro e w4 ⟨rfl, b4⟩
          have B4 := Lib.hid (BI.out.trans (b4.mono BI.out.size))
          have K4 := Lib.hid (own_below K3.out b4)
          clear b4
          go_wp2_with fail
          go_roundw
          case rel => exact ⟨k + 1, K.length, B, d, by omega, by rw [HNx.out]; simp [Hid], rfl, by rw [HNx.out]; exact K4.out, B4.out, by go_num⟩
          case measure => simp [intOf]; omega
      · obtain rfl : k = xs.length := by omega
        have htk : O.take xs.length = O := List.take_of_length_le (by have := HOl.out; omega)
        rw [htk, ← HKp.out] at HN HK
        obtain rfl := HN.out
        have hkl : KK.length ≤ xs.length := by rw [HKp.out]; have := clrL_len P O; have := HOl.out; omega
        have HS := Lib.hid (sortI_any KK w2.heap.size B d wr (by omega) HK.out)
        have NB := Lib.hid (fun q hq => (own_lt HK.out q hq).1)
        clear htk HK
        go_wp2_with fail
        refine HS.out.mono ?_; rintro e w4 ⟨rfl, o4, g4⟩
        have O4 := Lib.hid o4; have G4 := Lib.hid g4; clear o4 g4
        have HL := Lib.hid (show KK.length = L.length by rw [HV.out, ← HSt.out, List.length_mergeSort])
        go_wp2_with fail
        go_ret2
        exact ⟨_, by rw [HC.out]; (first | done | rfl), by
          have := O4.out
          rw [HSt.out, ← HV.out] at this
          rw [← HL.out]
          exact own_mono this B2.out.size, B2.out.trans ((BW.out.grown G4.out BW.out.size (fun q hq => NB.out q hq)).mono B2.out.size)⟩
  · have HV := Lib.hid (show clV xs dist = [] by unfold clV; rw [if_neg hz])
    generalize clV xs dist = L at HV ⊢
    generalize codeE xs true dist = cz at HC0 hz ⊢
    have hne : (cz != 0) = true := by rw [bne_iff_ne]; exact hz
    clear hz hs h
    go_enter Tryz.func21, Tryz.ntmps21
    go_upto_region 1 with (fail)
    generalize hW : (w.alloc (.cells #[.slice A xs.length c] 24)).alloc (.cells #[.int .i64 dist] 2) = W
    obtain ⟨kb, kd, bw, hsz⟩ := KN.out W hW.symm
    clear hW hsz
    have x0 : W.cell? ⟨w.heap.size, 0, none⟩ = some (.slice A xs.length c) := by rw [kb.cell]; rfl
    have y0 : W.cell? ⟨w.heap.size + 1, 0, none⟩ = some (.int .i64 dist) := by rw [kd.cell]; rfl
    go_wp2_with fail
    refine (HC0.out W bw).mono ?_; rintro e w1 ⟨rfl, b1⟩
    go_wp2_with fail
    go_ret2
    exact ⟨_, (by first | done | rfl), by rw [HV.out]; exact World.ownsRow_nil _ _ _ _, bw.trans (b1.mono bw.size)⟩
end Go.Proofs.YthaampckdcimmaaGreatDoor
