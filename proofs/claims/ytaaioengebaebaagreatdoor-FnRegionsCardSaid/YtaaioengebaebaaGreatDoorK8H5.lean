/- The code of sites and descriptions, by the reference. -/
import Derived.Test.YtaaioengebaebaaGreatDoorRows
import Derived.Test.YtaaioengebaebaaGreatDoorK8GA
import Derived.WalkKit
import Derived.ProofKit
import Derived.OpenShut
import Derived.BigQuiet
import Derived.Outline
import Derived.WalkSpells
import Derived.WalkLawsBesides
import Derived.Deep.DeepCutAuto
import Derived.Test.YtaaioengebaebaaGreatDoorK8H4
import Derived.Test.YtaaioengebaebaaGreatDoorK8FD0
import Derived.Test.YtaaioengebaebaaGreatDoorK8QH
namespace Go.Proofs.YtaaioengebaebaaGreatDoor
open Go.ChangeShapes Go.WideShapes Go.ChangeAt Go.RowKit Go.Sort

def missD (xs : List Sit) (d : Dsc) : Bool := decide (sitIx d.a xs < 0) || (!decide (d.b = ⟨#[]⟩) && decide (sitIx d.b xs < 0))
/-- The code of sites and descriptions; something else is as it should be or not. -/
def codeS (xs : List Sit) (ds : List Dsc) (ok : Bool) : Int := if (areS xs && (ok && ds.all isD)) = true then (if ds.any (missD xs) = true then 4 else if 8 < ds.length then 3 else 0) else 1
theorem all_take_d (ds : List Dsc) (p : Dsc → Bool) (k : Nat) (h : k < ds.length) : (ds.take (k + 1)).all p = ((ds.take k).all p && p ds[k]) := by
  rw [List.take_succ_eq_append_getElem h, List.all_append]; simp
theorem any_take_d (ds : List Dsc) (p : Dsc → Bool) (k : Nat) (h : k < ds.length) : (ds.take (k + 1)).any p = ((ds.take k).any p || p ds[k]) := by
  rw [List.take_succ_eq_append_getElem h, List.any_append]; simp
set_option maxRecDepth 100000 in
set_option maxHeartbeats 4000000 in
theorem specCodeS_any (xs : List Sit) (ds : List Dsc) (A B : Option Addr) (c d : Nat) (w : World) (h : HasSit w xs A) (h2 : HasDsc w ds B) :
    Calls Tryz.prog 79 #[.slice A xs.length c, .slice B ds.length d] w fun e w' => e = .returned (.int .i64 (codeS xs ds true)) ∧ Below w.heap.size w w' := by
  have HA := Lib.hid (specAreS_any xs A c w h.1 h.2.1 h.2.2)
  have HD := Lib.hid (fun W (hb : Below w.heap.size w W) => (h2.below hb).1)
  have HK := Lib.hid h2.2.2
  have hm := h2.2.1
  have HF := Lib.hid (fun s W (hb : Below w.heap.size w W) => specFind_any xs s A c W (h.below hb))
  have HX := Lib.hid (show codeS xs ds true = if (areS xs && (true && ds.all isD)) = true then (if ds.any (missD xs) = true then 4 else if 8 < ds.length then 3 else 0) else 1 from rfl)
  clear h h2
  generalize codeS xs ds true = r at HX ⊢
  cases ha : areS xs
  · rw [ha] at HA HX
    clear ha
    go_enter Tryz.func79, Tryz.ntmps79
    go_wp2_with fail
    refine HA.out.mono ?_; rintro e w1 ⟨rfl, b1⟩
    go_wp2_with fail
    go_ret
    exact ⟨ret_int (by rw [HX.out]; rfl), b1⟩
  rw [ha] at HA HX
  clear ha
  go_enter Tryz.func79, Tryz.ntmps79
  go_wp2_with fail
  refine HA.out.mono ?_; rintro e w0 ⟨rfl, b0⟩
  have B0 := Lib.hid b0; clear b0
  go_wp2_with fail
  go_loopw [5] (fun v5 wr => ∃ k : Nat, k ≤ ds.length ∧ Hid ((ds.take k).all isD = true) ∧ Hid (Below w.heap.size w wr) ∧ v5 = .int .i64 k) (fun i _ => ds.length - (intOf i).toNat)
  case atStart => exact ⟨0, by omega, by simp [Hid], B0.out, rfl⟩
  case round =>
    obtain ⟨k, hk, HT, BW, rfl⟩ := hrel
    by_cases hlt : k < ds.length
    · obtain ⟨ab, ao, rfl, hadb, hcell⟩ := (HD.out wr BW.out).2 (by omega)
      obtain ⟨e0, e1, e2, e3, e4, e5⟩ := dsC_get ds k hlt
      have c0 := hcell _ _ e0
      have c1 := hcell _ _ e1
      have c2 := hcell _ _ e2
      have c3 := hcell _ _ e3
      have c4 := hcell _ _ e4
      have c5 := hcell _ _ e5
      rw [← Nat.add_assoc] at c1 c2 c3 c4 c5
      clear hcell e0 e1 e2 e3 e4 e5
      have HS := Lib.hid (all_take_d ds isD k hlt)
      have HI := Lib.hid (specIsD_any ds[k] (HK.out _ (List.getElem_mem hlt)))
      have HN : Hid (isD ds[k] = false → ds.all isD = false) := fun h => by
        have h1 := HS.out
        rw [h, Bool.and_false] at h1
        rw [← List.take_append_drop (k + 1) ds, List.all_append, h1, Bool.false_and]
      unfold Dsc.val at HI
      generalize ds[k] = b at c0 c1 c2 c3 c4 c5 HS HI HN
      cases hb : isD b
      · have HV := Lib.hid (show r = 1 by rw [HX.out, HN.out hb]; rfl)
        rw [hb] at HI
        clear hb
        go_wp2_with fail
        refine (HI.out _).mono ?_; rintro e w1 ⟨rfl, b1⟩
        go_wp2_with fail
        go_ret
        exact ⟨ret_int HV.out.symm, BW.out.trans (b1.mono BW.out.size)⟩
      · have HV := Lib.hid (show (ds.take (k + 1)).all isD = true by rw [HS.out, HT.out, hb]; rfl)
        rw [hb] at HI
        clear hb
        go_wp2_with fail
        refine (HI.out _).mono ?_; rintro e w1 ⟨rfl, b1⟩
        go_wp2_with fail
        go_roundw
        case rel => exact ⟨k + 1, by omega, HV.out, BW.out.trans (b1.mono BW.out.size), by go_num⟩
        case measure => simp [intOf]; omega
    · obtain rfl : k = ds.length := by omega
      have HX2 := Lib.hid (show r = if ds.any (missD xs) = true then 4 else if 8 < ds.length then 3 else 0 by
        have := HT.out
        rw [List.take_length] at this
        rw [HX.out, this]; rfl)
      clear HX
      go_wp2_with fail
      go_loopw [6] (fun v6 wr => ∃ k : Nat, k ≤ ds.length ∧ Hid ((ds.take k).any (missD xs) = false) ∧ Hid (Below w.heap.size w wr) ∧ v6 = .int .i64 k) (fun i _ => ds.length - (intOf i).toNat)
      case atStart => exact ⟨0, by omega, by simp [Hid], BW.out, rfl⟩
      case round =>
        obtain ⟨k, hk, HT2, BQ, rfl⟩ := hrel
        by_cases hlt : k < ds.length
        · obtain ⟨ab, ao, rfl, hadb, hcell⟩ := (HD.out wr BQ.out).2 (by omega)
          obtain ⟨e0, e1, e2, e3, e4, e5⟩ := dsC_get ds k hlt
          have c0 := hcell _ _ e0
          have c1 := hcell _ _ e1
          have c2 := hcell _ _ e2
          have c3 := hcell _ _ e3
          have c4 := hcell _ _ e4
          have c5 := hcell _ _ e5
          rw [← Nat.add_assoc] at c1 c2 c3 c4 c5
          clear hcell e0 e1 e2 e3 e4 e5
          have HS := Lib.hid (any_take_d ds (missD xs) k hlt)
          have HN := Lib.hid (show missD xs ds[k] = true → ds.any (missD xs) = true from fun h => List.any_eq_true.2 ⟨_, List.getElem_mem hlt, h⟩)
          generalize ds[k] = b at c0 c1 c2 c3 c4 c5 HS HN
          have T3 := Lib.hid (blks_one wr 79 #[.int .i64 b.kind, .int .i64 b.count, .string b.unit, .int .i64 b.dir, .string b.a, .string b.b])
          go_upto_region 12 with (fail)
          generalize hW : wr.alloc (.cells #[.int .i64 b.kind, .int .i64 b.count, .string b.unit, .int .i64 b.dir, .string b.a, .string b.b] 79) = W1
          obtain ⟨kb, bw, hsz⟩ := T3.out W1 hW.symm
          clear hW hsz c0 c1 c2 c3 c4 c5
          obtain ⟨x0, x1, x2, x3, x4, x5⟩ := cells_6 kb
          have B1 := Lib.hid (BQ.out.trans (bw.mono BQ.out.size)); clear kb bw
          have F1 := Lib.hid (HF.out b.a W1 B1.out)
          have F2 := Lib.hid (HF.out b.b W1 B1.out)
          have HM := Lib.hid (show missD xs b = (decide (sitIx b.a xs < 0) || (!decide (b.b = ⟨#[]⟩) && decide (sitIx b.b xs < 0))) from rfl)
          generalize missD xs b = ms at HS HN HM
          generalize sitIx b.a xs = ia at F1 HM
          generalize sitIx b.b xs = ib at F2 HM
          have sb := str_lit b.b []
          by_cases h1 : ia < 0
          · have HV := Lib.hid (show r = 4 by rw [HX2.out, if_pos (HN.out (by rw [HM.out, decide_eq_true h1]; rfl))])
            go_wp2_with fail
            refine F1.out.mono ?_; rintro e w' ⟨rfl, rfl⟩
            go_wp2_with fail
            go_ret
            exact ⟨ret_int HV.out.symm, B1.out⟩
          · by_cases h2 : b.b = ⟨#[]⟩
            · have HV := Lib.hid (show (ds.take (k + 1)).any (missD xs) = false by rw [HS.out, HT2.out, HM.out, decide_eq_false h1, decide_eq_true h2]; rfl)
              rw [decide_eq_true h2] at sb
              clear h2
              go_wp2_with fail
              refine F1.out.mono ?_; rintro e w' ⟨rfl, rfl⟩
              go_wp2_with fail
              go_roundw
              case rel => exact ⟨k + 1, by omega, HV.out, B1.out, by go_num⟩
              case measure => simp [intOf]; omega
            · by_cases h3 : ib < 0
              · have HV := Lib.hid (show r = 4 by rw [HX2.out, if_pos (HN.out (by rw [HM.out, decide_eq_true h3, decide_eq_false h2]; simp))])
                rw [decide_eq_false h2] at sb
                clear h2
                go_wp2_with fail
                refine F1.out.mono ?_; rintro e w' ⟨rfl, rfl⟩
                go_wp2_with fail
                refine F2.out.mono ?_; rintro e w' ⟨rfl, rfl⟩
                go_wp2_with fail
                go_ret
                exact ⟨ret_int HV.out.symm, B1.out⟩
              · have HV := Lib.hid (show (ds.take (k + 1)).any (missD xs) = false by rw [HS.out, HT2.out, HM.out, decide_eq_false h1, decide_eq_false h3, Bool.and_false]; rfl)
                rw [decide_eq_false h2] at sb
                clear h2
                go_wp2_with fail
                refine F1.out.mono ?_; rintro e w' ⟨rfl, rfl⟩
                go_wp2_with fail
                refine F2.out.mono ?_; rintro e w' ⟨rfl, rfl⟩
                go_wp2_with fail
                go_roundw
                case rel => exact ⟨k + 1, by omega, HV.out, B1.out, by go_num⟩
                case measure => simp [intOf]; omega
        · obtain rfl : k = ds.length := by omega
          have HX3 := Lib.hid (show r = if 8 < ds.length then 3 else 0 by
            have := HT2.out
            rw [List.take_length] at this
            rw [HX2.out, this]; rfl)
          by_cases h8 : 8 < ds.length
          · rw [if_pos h8] at HX3
            go_wp2_with fail
            go_ret
            exact ⟨ret_int HX3.out.symm, BQ.out⟩
          · rw [if_neg h8] at HX3
            go_wp2_with fail
            go_ret
            exact ⟨ret_int HX3.out.symm, BQ.out⟩
end Go.Proofs.YtaaioengebaebaaGreatDoor
