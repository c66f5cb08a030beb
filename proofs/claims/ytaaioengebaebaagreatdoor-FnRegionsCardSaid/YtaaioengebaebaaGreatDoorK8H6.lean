/- The code of sites and descriptions, by the program. -/
import Derived.Test.YtaaioengebaebaaGreatDoorRows
import Derived.Test.YtaaioengebaebaaGreatDoorK8GA
import Derived.WalkKit
import Derived.ProofKit
import Derived.OpenShut
import Derived.BigQuiet
import Derived.Outline
import Derived.WalkSpells
import Derived.WalkLawsBesides
import Derived.Deep.DeepCutAuto
import Derived.Test.YtaaioengebaebaaGreatDoorK8H5
import Derived.Test.YtaaioengebaebaaGreatDoorK8FD3
import Derived.Test.YtaaioengebaebaaGreatDoorK8Q5
namespace Go.Proofs.YtaaioengebaebaaGreatDoor
open Go.ChangeShapes Go.WideShapes Go.ChangeAt Go.RowKit Go.Sort

theorem badD1_any (d : Dsc) (hd : d.Ok) (w : World) (hdir : Dirs w) : Calls Tryz.prog 82 #[d.val] w fun e w' => e = .returned (.bool (!isD d)) ∧ Below w.heap.size w w' := by
  have HE := Lib.hid (fun W (hb : Below w.heap.size w W) => implIsD_any d hd W (hdir.below hb))
  have KN := Lib.hid (blks_one w 79 #[.int .i64 d.kind, .int .i64 d.count, .string d.unit, .int .i64 d.dir, .string d.a, .string d.b])
  unfold Dsc.val at HE ⊢
  generalize isD d = r at *
  go_enter Tryz.func82, Tryz.ntmps82
  go_wp2_with fail
  generalize hW : w.alloc (.cells #[.int .i64 d.kind, .int .i64 d.count, .string d.unit, .int .i64 d.dir, .string d.a, .string d.b] 79) = W
  obtain ⟨bk, bw, hsz⟩ := KN.out W hW.symm
  clear hW hsz
  refine (HE.out W bw).mono ?_; rintro e w1 ⟨rfl, b1⟩
  go_wp2_with fail
  go_ret
  exact ⟨rfl, bw.trans (b1.mono bw.size)⟩
theorem isD_b {d : Dsc} (h : isD d = true) (hk : d.kind ≠ 3) : d.b = ⟨#[]⟩ := by
  unfold isD at h
  rw [Bool.and_eq_true] at h
  have h4 := h.2
  by_cases h2 : d.kind = 2
  · rw [if_pos h2] at h4
    simp only [Bool.and_eq_true, decide_eq_true_eq] at h4
    exact h4.2.2.2
  · rw [if_neg h2] at h4
    by_cases h01 : d.kind = 0 ∨ d.kind = 1
    · rw [if_pos h01] at h4
      simp only [Bool.and_eq_true, decide_eq_true_eq] at h4
      exact h4.2
    · rw [if_neg h01, decide_eq_false hk] at h4
      simp at h4
theorem isD_b3 {d : Dsc} (h : isD d = true) (hk : d.kind = 3) : d.b ≠ ⟨#[]⟩ := by
  unfold isD at h
  rw [Bool.and_eq_true] at h
  have h4 := h.2
  rw [if_neg (by omega), if_neg (by omega)] at h4
  simp only [Bool.and_eq_true, decide_eq_true_eq] at h4
  rintro e
  have h5 := h4.2.2.1
  rw [e] at h5
  simp [codeW, wordB, inB] at h5
  exact absurd h5.2.1.2 (by decide)
theorem miss_places {xs : List Sit} {d : Dsc} (h : isD d = true) : missD xs d = (placesD d).any (fun s => decide (sitIx s xs < 0)) := by
  unfold missD placesD
  by_cases hk : d.kind = 3
  · rw [if_pos hk, decide_eq_false (isD_b3 h hk)]
    simp
  · rw [if_neg hk, isD_b h hk]
    simp
theorem any_bad_d (ds : List Dsc) : ds.any (fun b => !isD b) = !(ds.all isD) := by
  induction ds with
  | nil => rfl
  | cons x r ih => simp only [List.any_cons, List.all_cons, ih]; cases isD x <;> simp
set_option maxRecDepth 100000 in
set_option maxHeartbeats 4000000 in
theorem implCodeS_any (xs : List Sit) (ds : List Dsc) (ok : Bool) (A B : Option Addr) (c d : Nat) (w : World) (h : HasSit w xs A) (h2 : HasDsc w ds B) (hdir : Dirs w) :
    Calls Tryz.prog 51 #[.slice A xs.length c, .slice B ds.length d, .bool ok] w fun e w' => e = .returned (.int .i64 (codeS xs ds ok)) ∧ Below w.heap.size w w' := by
  have HA := Lib.hid (implAreS_any xs A c w h.1 h.2.1 h.2.2 hdir)
  have HD := Lib.hid (fun W (hb : Below w.heap.size w W) => (h2.below hb).1)
  have hm := h2.2.1
  have HC := Lib.hid (fun W (hb : Below w.heap.size w W) => badDHas_any (fun b => !isD b) ds B d W (h2.below hb).1 h2.2.1 (fun b hb' W' hb2 => badD1_any b (h2.2.2 b hb') W' (hdir.below (hb.trans (hb2.mono hb.size)))))
  have HF := Lib.hid (fun (ha : areS xs = true) s W (hb : Below w.heap.size w W) => implFind_any xs ha s A c W (h.below hb))
  have HX := Lib.hid (show codeS xs ds ok = if (areS xs && (ok && ds.all isD)) = true then (if ds.any (missD xs) = true then 4 else if 8 < ds.length then 3 else 0) else 1 from rfl)
  have HQ := Lib.hid (show ds.any (fun b => !isD b) = !(ds.all isD) from any_bad_d ds)
  have HG := Lib.hid (show ds.all isD = true → ∀ b ∈ ds, isD b = true from fun h => List.all_eq_true.1 h)
  clear h h2 hdir
  generalize codeS xs ds ok = r at HX ⊢
  generalize ds.any (fun b => !isD b) = bad at HC HQ
  cases ha : areS xs
  · rw [ha] at HA HX
    clear ha HF
    go_enter Tryz.func51, Tryz.ntmps51
    go_wp2_with fail
    refine HA.out.mono ?_; rintro e w1 ⟨rfl, b1⟩
    go_wp2_with fail
    go_ret
    exact ⟨ret_int (by rw [HX.out]; rfl), b1⟩
  rw [ha] at HA HX
  have HF2 := Lib.hid (HF.out ha)
  clear ha HF
  cases ok
  · go_enter Tryz.func51, Tryz.ntmps51
    go_wp2_with fail
    refine HA.out.mono ?_; rintro e w1 ⟨rfl, b1⟩
    go_wp2_with fail
    go_ret
    exact ⟨ret_int (by rw [HX.out]; rfl), b1⟩
  cases hall : ds.all isD
  · rw [hall] at HX HQ
    have HQ2 := HQ.out
    rw [HQ2] at HC
    clear hall HQ HQ2
    go_enter Tryz.func51, Tryz.ntmps51
    go_wp2_with fail
    refine HA.out.mono ?_; rintro e w1 ⟨rfl, b1⟩
    go_wp2_with fail
    refine (HC.out w1 b1).mono ?_; rintro e w2 ⟨rfl, b2⟩
    go_wp2_with fail
    go_ret
    exact ⟨ret_int (by rw [HX.out]; rfl), b1.trans (b2.mono b1.size)⟩
  rw [hall] at HX HQ
  have HQ2 := HQ.out
  rw [HQ2] at HC
  have HGd := Lib.hid (HG.out hall)
  have HX2 := Lib.hid (show r = if ds.any (missD xs) = true then 4 else if 8 < ds.length then 3 else 0 by rw [HX.out]; rfl)
  clear hall HQ HQ2 HG HX
  go_enter Tryz.func51, Tryz.ntmps51
  go_wp2_with fail
  refine HA.out.mono ?_; rintro e w1 ⟨rfl, b1⟩
  go_wp2_with fail
  refine (HC.out w1 b1).mono ?_; rintro e w2 ⟨rfl, b2⟩
  have B2 := Lib.hid (b1.trans (b2.mono b1.size)); clear b1 b2
  go_wp2_with fail
  go_loopw [26] (fun v26 wr => ∃ k : Nat, k ≤ ds.length ∧ Hid ((ds.take k).any (missD xs) = false) ∧ Hid (Below w.heap.size w wr) ∧ v26 = .int .i64 k) (fun i _ => ds.length - (intOf i).toNat)
  case atStart => exact ⟨0, by omega, by simp [Hid], B2.out, rfl⟩
  case round =>
    obtain ⟨k, hk, HT, BW, rfl⟩ := hrel
    by_cases hlt : k < ds.length
    · obtain ⟨ab, ao, rfl, hadb, hcell⟩ := (HD.out wr BW.out).2 (by omega)
      obtain ⟨e0, e1, e2, e3, e4, e5⟩ := dsC_get ds k hlt
      have c0 := hcell _ _ e0
      have c1 := hcell _ _ e1
      have c2 := hcell _ _ e2
      have c3 := hcell _ _ e3
      have c4 := hcell _ _ e4
      have c5 := hcell _ _ e5
      rw [← Nat.add_assoc] at c1 c2 c3 c4 c5
      clear hcell e0 e1 e2 e3 e4 e5
      have HS := Lib.hid (any_take_d ds (missD xs) k hlt)
      have HN := Lib.hid (show missD xs ds[k] = true → ds.any (missD xs) = true from fun h => List.any_eq_true.2 ⟨_, List.getElem_mem hlt, h⟩)
      have HP := Lib.hid (miss_places (xs := xs) (HGd.out ds[k] (List.getElem_mem hlt)))
      generalize ds[k] = b at c0 c1 c2 c3 c4 c5 HS HN HP
      have T3 := Lib.hid (blks_one wr 79 #[.int .i64 b.kind, .int .i64 b.count, .string b.unit, .int .i64 b.dir, .string b.a, .string b.b])
      have HPl := Lib.hid (places_any b)
      unfold Dsc.val at HPl
      generalize missD xs b = ms at HS HN HP
      have hlen : (placesD b).length ≤ 2 := by unfold placesD; split <;> simp
      generalize placesD b = L at HP HPl hlen
      go_upto_region 6 with (fail)
      generalize hW : wr.alloc (.cells #[.int .i64 b.kind, .int .i64 b.count, .string b.unit, .int .i64 b.dir, .string b.a, .string b.b] 79) = W1
      obtain ⟨kb, bw, hsz⟩ := T3.out W1 hW.symm
      clear hW hsz c0 c1 c2 c3 c4 c5
      obtain ⟨x0, x1, x2, x3, x4, x5⟩ := cells_6 kb
      have B1 := Lib.hid (BW.out.trans (bw.mono BW.out.size)); clear kb bw
      go_wp2_with fail
      refine (HPl.out W1).mono ?_; rintro e w3 ⟨v, rfl, own3, b3⟩
      obtain ⟨A3, c3, rfl, _⟩ := own_shape own3
      have O3 := Lib.hid own3; have B3 := Lib.hid (B1.out.trans (b3.mono B1.out.size)); clear own3 b3
      go_wp2_with fail
      go_loopw [33] (fun v33 wr => ∃ j : Nat, j ≤ L.length ∧ Hid ((L.take j).any (fun s => decide (sitIx s xs < 0)) = false) ∧ Hid (Below w.heap.size w wr) ∧ Hid (wr.ownsRow W1.heap.size 9 1 (.slice A3 L.length c3) L.length (txC L)) ∧ v33 = .int .i64 j) (fun i _ => L.length - (intOf i).toNat)
      case atStart => exact ⟨0, by omega, by simp [Hid], B3.out, O3.out, rfl⟩
      case round =>
        obtain ⟨j, hj, HJ, BJ, OJ, rfl⟩ := hrel
        by_cases hjl : j < L.length
        · obtain ⟨sb, so, rfl, hsb, hcell⟩ := (Reads.of_own OJ.out).2 (by omega)
          have c0 := hcell _ _ (txC_get L j hjl)
          clear hcell
          have HJS := Lib.hid (show (L.take (j + 1)).any (fun s => decide (sitIx s xs < 0)) = ((L.take j).any (fun s => decide (sitIx s xs < 0)) || decide (sitIx L[j] xs < 0)) by rw [List.take_succ_eq_append_getElem hjl, List.any_append]; simp)
          have HJN := Lib.hid (show decide (sitIx L[j] xs < 0) = true → L.any (fun s => decide (sitIx s xs < 0)) = true from fun h => List.any_eq_true.2 ⟨_, List.getElem_mem hjl, h⟩)
          have HFj := Lib.hid (HF2.out L[j])
          generalize L[j] = s at c0 HJS HJN HFj
          generalize pAt xs s = pp at HFj
          generalize sitIx s xs = ix at HJS HJN HFj
          by_cases hix : 0 ≤ ix
          · have HV := Lib.hid (show (L.take (j + 1)).any (fun s => decide (sitIx s xs < 0)) = false by rw [HJS.out, HJ.out, decide_eq_false (by omega)]; rfl)
            rw [decide_eq_true hix] at HFj
            clear hix
            go_wp2_with fail
            refine (HFj.out _ BJ.out).mono ?_; rintro e w4 ⟨rfl, b4⟩
            have B4 := Lib.hid (BJ.out.trans (b4.mono BJ.out.size)); have O4 := Lib.hid (own_below OJ.out b4); clear b4
            go_wp2_with fail
            go_roundw
            case rel => exact ⟨j + 1, by omega, HV.out, B4.out.alloc B4.out.size _, O4.out.alloc _, by go_num⟩
            case measure => simp [intOf]; omega
          · have HV := Lib.hid (show r = 4 by rw [HX2.out, if_pos (HN.out (by rw [HP.out]; exact HJN.out (decide_eq_true (by omega))))])
            rw [decide_eq_false hix] at HFj
            clear hix
            go_wp2_with fail
            refine (HFj.out _ BJ.out).mono ?_; rintro e w4 ⟨rfl, b4⟩
            have B4 := Lib.hid (BJ.out.trans (b4.mono BJ.out.size)); clear b4
            go_wp2_with fail
            go_ret
            exact ⟨ret_int HV.out.symm, B4.out.alloc B4.out.size _⟩
        · obtain rfl : j = L.length := by omega
          have HV := Lib.hid (show (ds.take (k + 1)).any (missD xs) = false by
            have := HJ.out
            rw [List.take_length] at this
            rw [HS.out, HT.out, HP.out, this]; rfl)
          go_wp2_with fail
          go_roundw
          case rel => exact ⟨k + 1, by omega, HV.out, BJ.out, by go_num⟩
          case measure => simp [intOf]; omega
    · obtain rfl : k = ds.length := by omega
      have HX3 := Lib.hid (show r = if 8 < ds.length then 3 else 0 by
        have := HT.out
        rw [List.take_length] at this
        rw [HX2.out, this]; rfl)
      by_cases h8 : 8 < ds.length
      · rw [if_pos h8] at HX3
        go_wp2_with fail
        go_ret
        exact ⟨ret_int HX3.out.symm, BW.out⟩
      · rw [if_neg h8] at HX3
        go_wp2_with fail
        go_ret
        exact ⟨ret_int HX3.out.symm, BW.out⟩
end Go.Proofs.YtaaioengebaebaaGreatDoor
