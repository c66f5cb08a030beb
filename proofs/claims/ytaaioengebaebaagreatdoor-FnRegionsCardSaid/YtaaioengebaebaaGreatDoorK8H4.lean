/- Sites by their codes: l29Find of the reference, findSite of the program. -/
import Derived.Test.YtaaioengebaebaaGreatDoorRows
import Derived.Test.YtaaioengebaebaaGreatDoorK8GA
import Derived.WalkKit
import Derived.ProofKit
import Derived.OpenShut
import Derived.BigQuiet
import Derived.Outline
import Derived.WalkSpells
import Derived.WalkLawsBesides
import Derived.Deep.DeepCutAuto
import Derived.Test.YtaaioengebaebaaGreatDoorK8H1
import Derived.Test.YtaaioengebaebaaGreatDoorK8GD
namespace Go.Proofs.YtaaioengebaebaaGreatDoor
open Go.ChangeShapes Go.WideShapes Go.ChangeAt Go.RowKit Go.Sort

/-- Where the site with a code lies. -/
def pAt (xs : List Sit) (s : ByteArray) : Int × Int := if 0 ≤ sitIx s xs then (match xs[(sitIx s xs).toNat]? with | some b => (b.x, b.y) | none => (0, 0)) else (0, 0)
set_option maxRecDepth 100000 in
theorem specFind_any (xs : List Sit) (s : ByteArray) (A : Option Addr) (c : Nat) (w : World) (h : HasSit w xs A) :
    Calls Tryz.prog 107 #[.slice A xs.length c, .string s] w fun e w' => e = .returned (.int .i64 (sitIx s xs)) ∧ w = w' := by
  have HR := Lib.hid h.1
  have hm := h.2.1
  clear h
  have HX := Lib.hid (show sitIx s xs = ixS s (xs.map Sit.name) from rfl)
  have H0 := Lib.hid (ixT_zero s (xs.map Sit.name))
  generalize sitIx s xs = r at HX ⊢
  go_enter Tryz.func107, Tryz.ntmps107
  go_wp2_with fail
  go_loop [5] (fun v5 => ∃ k : Nat, k ≤ xs.length ∧ Hid (ixS s (xs.map Sit.name) = ixT s (xs.map Sit.name) k) ∧ v5 = .int .i64 k) (fun i => xs.length - (intOf i).toNat)
  case atStart => exact ⟨0, by omega, H0.out.symm, rfl⟩
  case round =>
    obtain ⟨k, hk, HK, rfl⟩ := hrel
    by_cases hlt : k < xs.length
    · have hl' : k < (xs.map Sit.name).length := by simpa using hlt
      have hat : (xs.map Sit.name)[k] = xs[k].name := by simp
      obtain ⟨ab, ao, rfl, hadb, hcell⟩ := HR.out.2 (by omega)
      have c0 := hcell _ _ (siC_get xs k hlt).1
      clear hcell
      have HH := Lib.hid (fun e => ixT_hit (x := s) hl' e)
      have HM := Lib.hid (fun e => ixT_miss (x := s) hl' e)
      rw [hat] at HH HM
      clear hat
      generalize xs[k].name = a at c0 HH HM
      have hc := str_eq a s
      by_cases he : a = s
      · have HV := Lib.hid (HX.out.trans (HK.out.trans (HH.out he.symm)))
        rw [decide_eq_true he] at hc
        clear he
        go_wp2_with fail
        go_ret
        exact ⟨ret_int HV.out.symm, rfl⟩
      · have HV := Lib.hid (HK.out.trans (HM.out (fun h => he h.symm)))
        rw [decide_eq_false he] at hc
        clear he
        go_wp2_with fail
        go_round
        case rel => exact ⟨k + 1, by omega, HV.out, by go_num⟩
        case measure => simp [intOf]; omega
    · obtain rfl : k = xs.length := by omega
      have HV := Lib.hid (show r = -1 by
        have := ixT_end (x := s) (L := xs.map Sit.name)
        rw [List.length_map] at this
        rw [HX.out, HK.out, this])
      go_wp2_with fail
      go_ret
      exact ⟨ret_int HV.out.symm, rfl⟩
set_option maxRecDepth 100000 in
set_option maxHeartbeats 1000000 in
theorem implFind_any (xs : List Sit) (ha : areS xs = true) (s : ByteArray) (A : Option Addr) (c : Nat) (w : World) (h : HasSit w xs A) :
    Calls Tryz.prog 85 #[.slice A xs.length c, .string s] w fun e w' => e = .returned (.tuple #[.agg #[.int .i64 (pAt xs s).1, .int .i64 (pAt xs s).2], .bool (decide (0 ≤ sitIx s xs))]) ∧ Below w.heap.size w w' := by
  have HS := Lib.hid (fun W (hb : Below w.heap.size w W) => searchT_any xs ha s A c W (h.below hb).1)
  have HF := Lib.hid (fnd_ix ha s)
  have HP := Lib.hid (show pAt xs s = if 0 ≤ sitIx s xs then (match xs[(sitIx s xs).toNat]? with | some b => (b.x, b.y) | none => (0, 0)) else (0, 0) from rfl)
  have HR := Lib.hid (fun W (hb : Below w.heap.size w W) => (h.below hb).1)
  have hm := h.2.1
  have KN := Lib.hid (blks_one w 32 #[.int .i64 0, .int .i64 0])
  clear h ha
  generalize pAt xs s = pp at HP ⊢
  generalize sitIx s xs = ix at HF HP ⊢
  cases hf : fndT xs s
  · have HI := Lib.hid (HF.out.2 hf)
    have HP2 := Lib.hid (show pp = (0, 0) by rw [HP.out, if_neg (by rw [HI.out]; decide)])
    rw [hf] at HS
    clear hf HF HP
    go_enter Tryz.func85, Tryz.ntmps85
    go_wp2_with fail
    generalize hW : w.alloc (.cells #[.int .i64 0, .int .i64 0] 32) = W
    obtain ⟨kb, bw, hsz⟩ := KN.out W hW.symm
    clear hW hsz
    refine (HS.out W bw).mono ?_; rintro e w1 ⟨rfl, b1⟩
    have KB := Lib.hid (kb.below b1 kb.lt); have B1 := Lib.hid (bw.trans (b1.mono bw.size)); clear kb bw b1
    obtain ⟨g0, g1, g2, g3, g4, g5⟩ := facts_2 KB.out
    go_wp2_with fail
    refine bodyPost_ret (v := .tuple #[.agg #[.int .i64 pp.1, .int .i64 pp.2], .bool (decide (0 ≤ ix))]) (by rw [HP2.out, HI.out]; simp [results, Tryz.results85, go_sem, g4, g5]) rfl ⟨rfl, ?_⟩
    exact (B1.out.setCell (by dsimp only; omega) _).setCell (by dsimp only; omega) _
  · obtain ⟨hi, hlt⟩ := HF.out.1 hf
    have HI := Lib.hid hi; clear hi
    have HP2 := Lib.hid (show pp = (xs[posT xs s].x, xs[posT xs s].y) by
      rw [HP.out, HI.out, if_pos (by omega), Int.toNat_natCast, List.getElem?_eq_getElem hlt])
    rw [hf] at HS
    clear hf HF HP
    generalize posT xs s = ps at *
    go_enter Tryz.func85, Tryz.ntmps85
    go_wp2_with fail
    generalize hW : w.alloc (.cells #[.int .i64 0, .int .i64 0] 32) = W
    obtain ⟨kb, bw, hsz⟩ := KN.out W hW.symm
    clear hW hsz
    refine (HS.out W bw).mono ?_; rintro e w1 ⟨rfl, b1⟩
    have KB := Lib.hid (kb.below b1 kb.lt); have B1 := Lib.hid (bw.trans (b1.mono bw.size)); clear kb bw b1
    obtain ⟨g0, g1, g2, g3, g4, g5⟩ := facts_2 KB.out
    obtain ⟨ab, ao, rfl, hadb, hcell⟩ := (HR.out w1 B1.out).2 (by omega)
    obtain ⟨_, e1, e2⟩ := siC_get xs ps hlt
    have c1 := hcell _ _ e1
    have c2 := hcell _ _ e2
    rw [← Nat.add_assoc] at c1 c2
    clear hcell e1 e2
    generalize xs[ps] = b at c1 c2 HP2
    go_wp2_with fail
    refine bodyPost_ret (v := .tuple #[.agg #[.int .i64 pp.1, .int .i64 pp.2], .bool (decide (0 ≤ ix))]) (by rw [HP2.out, HI.out]; simp [results, Tryz.results85, go_sem, g4, g5]) rfl ⟨rfl, ?_⟩
    exact (B1.out.setCell (by dsimp only; omega) _).setCell (by dsimp only; omega) _
end Go.Proofs.YtaaioengebaebaaGreatDoor
