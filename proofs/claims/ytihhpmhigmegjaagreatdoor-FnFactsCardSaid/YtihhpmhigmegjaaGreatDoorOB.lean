/- BalanceOf of both. -/
import Derived.Test.YtihhpmhigmegjaaGreatDoorRows
import Derived.Test.YtihhpmhigmegjaaGreatDoorL0
import Derived.Test.YtihhpmhigmegjaaGreatDoorM0
import Derived.WalkKit
import Derived.ProofKit
import Derived.OpenShut
import Derived.BigQuiet
import Derived.Outline
import Derived.WalkSpells
import Derived.WalkLawsBesides
import Derived.Deep.DeepCutAuto
import Derived.Test.YtihhpmhigmegjaaGreatDoorOA
import Derived.Deep.RegionHeld3
import Derived.IntWalk
import Derived.Deep.AppendLies
namespace Go.Proofs.YtihhpmhigmegjaaGreatDoor
open Go.ChangeShapes Go.WideShapes Go.ChangeAt Go.RowKit Go.Sort

/-- The balance of claims and a fact. -/
def balF (xs : List Clm) (f : Fct) : Int := if codeF xs f = 0 then wtS xs (whichC xs (fun c => telB c f)) (whichC xs (fun c => telB c f)).length - wtS xs (whichC xs (denB f)) (whichC xs (denB f)).length else 0
theorem which_in (xs : List Clm) (p : Clm → Bool) : ∀ v ∈ whichC xs p, ∃ i : Nat, v = (i : Int) ∧ i < xs.length := fun v hv => by
  obtain ⟨i, e, hi, _⟩ := wC_in xs p _ v hv
  exact ⟨i, e, hi⟩
set_option maxRecDepth 100000 in
set_option maxHeartbeats 2000000 in
theorem specBal_any (xs : List Clm) (f : Fct) (hs : ∀ b ∈ xs, b.src.size ≤ 1048576 ∧ b.place.size ≤ 1048576 ∧ b.val_.size ≤ 1048576) (hf : f.place.size ≤ 1048576 ∧ f.val_.size ≤ 1048576) (A : Option Addr) (c : Nat) (w : World) (h : HasClm w xs A) :
    Calls Tryz.prog 17 #[.slice A xs.length c, f.val] w fun e w' => e = .returned (.tuple #[.int .i64 (balF xs f), .int .i64 (codeF xs f)]) ∧ Below w.heap.size w w' := by
  have HC := Lib.hid (fun W (hB : Below w.heap.size w W) => specCode_any xs f hs hf A c W (h.below hB))
  have HT := Lib.hid (fun (hm : xs.length ≤ 1048576) W (hB : Below w.heap.size w W) => specTelL_any xs f hm A c W (h.below hB))
  have HD := Lib.hid (fun (hm : xs.length ≤ 1048576) W (hB : Below w.heap.size w W) => specDenL_any xs f hm A c W (h.below hB))
  have HWT := Lib.hid (fun (hz : codeF xs f = 0) A' c' W (hB : Below w.heap.size w W) (hr : Reads W W.heap.size 1 A' (whichC xs (fun c => telB c f)).length (inC (whichC xs (fun c => telB c f)))) => specWt_any xs (codeF_len hz).1 _ (which_in xs _) (by have := wC_len xs (fun c => telB c f) xs.length; have := (codeF_len hz).2.1; unfold whichC; omega) (by have := (codeF_len hz).2.1; omega) A A' c c' W ((h.1.below hB).more hB.size) hr)
  have HWD := Lib.hid (fun (hz : codeF xs f = 0) A' c' W (hB : Below w.heap.size w W) (hr : Reads W W.heap.size 1 A' (whichC xs (denB f)).length (inC (whichC xs (denB f)))) => specWt_any xs (codeF_len hz).1 _ (which_in xs _) (by have := wC_len xs (denB f) xs.length; have := (codeF_len hz).2.1; unfold whichC; omega) (by have := (codeF_len hz).2.1; omega) A A' c c' W ((h.1.below hB).more hB.size) hr)
  clear h
  have KN := Lib.hid (blks_one w 26 #[.int .i64 f.kind, .string f.place, .string f.val_, .int .i64 f.year])
  have HM := Lib.hid (fun h : codeF xs f = 0 => (codeF_len h).2.1)
  have HN1 := Lib.hid (fun h : codeF xs f = 0 => And.intro (wtS_bd (codeF_len h).1 (whichC xs (fun c => telB c f)) (whichC xs (fun c => telB c f)).length) (wC_len xs (fun c => telB c f) xs.length))
  have HN2 := Lib.hid (fun h : codeF xs f = 0 => And.intro (wtS_bd (codeF_len h).1 (whichC xs (denB f)) (whichC xs (denB f)).length) (wC_len xs (denB f) xs.length))
  have HR := Lib.hid (show balF xs f = if codeF xs f = 0 then wtS xs (whichC xs (fun c => telB c f)) (whichC xs (fun c => telB c f)).length - wtS xs (whichC xs (denB f)) (whichC xs (denB f)).length else 0 from rfl)
  have h01 := codeF_01 xs f
  unfold whichC at HN1 HN2 HR HWT HWD
  unfold Fct.val at HC HT HD ⊢
  unfold whichC at HT HD
  generalize wC xs (fun c => telB c f) xs.length = LT at *
  generalize wC xs (denB f) xs.length = LD at *
  generalize wtS xs LT LT.length = sT at *
  generalize wtS xs LD LD.length = sD at *
  generalize balF xs f = bal at HR ⊢
  generalize codeF xs f = code at *
  go_enter Tryz.func17, Tryz.ntmps17
  go_upto_region 1 with (fail)
  generalize hW : w.alloc (.cells #[.int .i64 f.kind, .string f.place, .string f.val_, .int .i64 f.year] 26) = W
  obtain ⟨bk, bw, _⟩ := KN.out W hW.symm
  clear hW
  have KB := Lib.hid bk; have B0 := Lib.hid bw
  obtain ⟨x0, x1, x2, x3⟩ := cells_4 bk
  clear bk bw
  go_wp2_with fail
  refine (HC.out W B0.out).mono ?_; rintro e w1 ⟨rfl, b1⟩
  have B1 := Lib.hid (B0.out.trans (b1.mono B0.out.size))
  have K1 := Lib.hid (KB.out.below b1 KB.out.lt)
  have SL := Lib.hid (show w.heap.size < w1.heap.size from K1.out.lt)
  obtain ⟨y0, y1, y2, y3⟩ := cells_4 K1.out
  clear b1 x0 x1 x2 x3
  rcases h01 with rfl | rfl
  · rw [if_pos rfl] at HR
    have hm := HM.out rfl
    obtain ⟨⟨n1, n2⟩, n3⟩ := HN1.out rfl
    obtain ⟨⟨n4, n5⟩, n6⟩ := HN2.out rfl
    have HT2 := Lib.hid (HT.out (by omega)); have HD2 := Lib.hid (HD.out (by omega)); have HWT2 := Lib.hid (HWT.out rfl); have HWD2 := Lib.hid (HWD.out rfl)
    clear HT HD HWT HWD HM HN1 HN2
    have hsub : IntKind.i64.wrap (sT - sD) = sT - sD := IntWalk.i64_in _ (by omega)
    go_upto_region 4 with (fail)
    have Bd := (Below.refl w1.heap.size w1).drew
    go_region_held3 (fun w' => w'.cell? ⟨w.heap.size, 0, none⟩ = some (.int .i64 f.kind) ∧ w'.cell? ⟨w.heap.size, 1, none⟩ = some (.string f.place) ∧ w'.cell? ⟨w.heap.size, 2, none⟩ = some (.string f.val_) ∧ w'.cell? ⟨w.heap.size, 3, none⟩ = some (.int .i64 f.year))
      (first | exact ⟨k0, k1, k2, k3⟩ | (go_keep; done) | ((try dsimp only); (repeat' apply And.intro) <;> (go_keep; done)))
      (first | (go_at_call 54; refine (HT2.out _ (B1.out.trans (Bd.mono B1.out.size))).mono ?_; rintro e wn ⟨vt, rfl, ot, bn⟩; (obtain ⟨At, ct, rfl, _⟩ := own_shape ot); (have OT := Lib.hid (own_mono ot Bd.size)); (have Bd := Bd.trans (bn.mono Bd.size)); (try have OD := Lib.hid (own_below OD.out bn)); have k0 := (Bd.cell (p := ⟨w.heap.size, 0, none⟩) SL.out).trans y0; have k1 := (Bd.cell (p := ⟨w.heap.size, 1, none⟩) SL.out).trans y1; have k2 := (Bd.cell (p := ⟨w.heap.size, 2, none⟩) SL.out).trans y2; have k3 := (Bd.cell (p := ⟨w.heap.size, 3, none⟩) SL.out).trans y3; clear ot bn) | (go_at_call 56; refine (HD2.out _ (B1.out.trans (Bd.mono B1.out.size))).mono ?_; rintro e wn ⟨vt, rfl, ot, bn⟩; (obtain ⟨Ad, cd, rfl, _⟩ := own_shape ot); (have OD := Lib.hid (own_mono ot Bd.size)); (have Bd := Bd.trans (bn.mono Bd.size)); (try have OT := Lib.hid (own_below OT.out bn)); have k0 := (Bd.cell (p := ⟨w.heap.size, 0, none⟩) SL.out).trans y0; have k1 := (Bd.cell (p := ⟨w.heap.size, 1, none⟩) SL.out).trans y1; have k2 := (Bd.cell (p := ⟨w.heap.size, 2, none⟩) SL.out).trans y2; have k3 := (Bd.cell (p := ⟨w.heap.size, 3, none⟩) SL.out).trans y3; clear ot bn) | (go_at_call 58; ((with_reducible refine (HWT2.out At ct _ (B1.out.trans (Bd.mono B1.out.size)) (Reads.of_own OT.out)).mono ?_); rintro e wn ⟨rfl, rfl⟩)) | (go_at_call 58; ((with_reducible refine (HWD2.out Ad cd _ (B1.out.trans (Bd.mono B1.out.size)) (Reads.of_own OD.out)).mono ?_); rintro e wn ⟨rfl, rfl⟩)) | fail)
    all_goals
      go_wp2_with fail
      go_ret2
      exact ⟨ret_int2 HR.out.symm rfl, B1.out.trans (Bd.mono B1.out.size)⟩
  · rw [if_neg (by omega)] at HR
    go_wp2_with fail
    go_ret2
    exact ⟨ret_int2 HR.out.symm rfl, B1.out⟩
set_option maxRecDepth 100000 in
set_option maxHeartbeats 2000000 in
theorem implBal_any (xs : List Clm) (f : Fct) (hs : ∀ b ∈ xs, b.src.size ≤ 1048576 ∧ b.place.size ≤ 1048576 ∧ b.val_.size ≤ 1048576) (hf : f.place.size ≤ 1048576 ∧ f.val_.size ≤ 1048576) (A : Option Addr) (c : Nat) (w : World) (h : HasClm w xs A) :
    Calls Tryz.prog 16 #[.slice A xs.length c, f.val] w fun e w' => e = .returned (.tuple #[.int .i64 (balF xs f), .int .i64 (codeF xs f)]) ∧ Below w.heap.size w w' := by
  have HC := Lib.hid (fun W (hB : Below w.heap.size w W) => implCode_any xs f hs hf A c W (h.below hB))
  have HT := Lib.hid (fun (hm : xs.length ≤ 1048576) W (hB : Below w.heap.size w W) => implTelL_any xs f hm A c W (h.below hB))
  have HD := Lib.hid (fun (hm : xs.length ≤ 1048576) W (hB : Below w.heap.size w W) => implDenL_any xs f hm A c W (h.below hB))
  have HWT := Lib.hid (fun (hz : codeF xs f = 0) A' c' W (hB : Below w.heap.size w W) (hr : Reads W W.heap.size 1 A' (whichC xs (fun c => telB c f)).length (inC (whichC xs (fun c => telB c f)))) => implWt_any xs (codeF_len hz).1 _ (which_in xs _) (by have := wC_len xs (fun c => telB c f) xs.length; have := (codeF_len hz).2.1; unfold whichC; omega) (by have := (codeF_len hz).2.1; omega) A A' c c' W ((h.1.below hB).more hB.size) hr)
  have HWD := Lib.hid (fun (hz : codeF xs f = 0) A' c' W (hB : Below w.heap.size w W) (hr : Reads W W.heap.size 1 A' (whichC xs (denB f)).length (inC (whichC xs (denB f)))) => implWt_any xs (codeF_len hz).1 _ (which_in xs _) (by have := wC_len xs (denB f) xs.length; have := (codeF_len hz).2.1; unfold whichC; omega) (by have := (codeF_len hz).2.1; omega) A A' c c' W ((h.1.below hB).more hB.size) hr)
  clear h
  have KN := Lib.hid (blks_one w 26 #[.int .i64 f.kind, .string f.place, .string f.val_, .int .i64 f.year])
  have HM := Lib.hid (fun h : codeF xs f = 0 => (codeF_len h).2.1)
  have HN1 := Lib.hid (fun h : codeF xs f = 0 => And.intro (wtS_bd (codeF_len h).1 (whichC xs (fun c => telB c f)) (whichC xs (fun c => telB c f)).length) (wC_len xs (fun c => telB c f) xs.length))
  have HN2 := Lib.hid (fun h : codeF xs f = 0 => And.intro (wtS_bd (codeF_len h).1 (whichC xs (denB f)) (whichC xs (denB f)).length) (wC_len xs (denB f) xs.length))
  have HR := Lib.hid (show balF xs f = if codeF xs f = 0 then wtS xs (whichC xs (fun c => telB c f)) (whichC xs (fun c => telB c f)).length - wtS xs (whichC xs (denB f)) (whichC xs (denB f)).length else 0 from rfl)
  have h01 := codeF_01 xs f
  unfold whichC at HN1 HN2 HR HWT HWD
  unfold Fct.val at HC HT HD ⊢
  unfold whichC at HT HD
  generalize wC xs (fun c => telB c f) xs.length = LT at *
  generalize wC xs (denB f) xs.length = LD at *
  generalize wtS xs LT LT.length = sT at *
  generalize wtS xs LD LD.length = sD at *
  generalize balF xs f = bal at HR ⊢
  generalize codeF xs f = code at *
  go_enter Tryz.func16, Tryz.ntmps16
  go_upto_region 1 with (fail)
  generalize hW : w.alloc (.cells #[.int .i64 f.kind, .string f.place, .string f.val_, .int .i64 f.year] 26) = W
  obtain ⟨bk, bw, _⟩ := KN.out W hW.symm
  clear hW
  have KB := Lib.hid bk; have B0 := Lib.hid bw
  obtain ⟨x0, x1, x2, x3⟩ := cells_4 bk
  clear bk bw
  go_wp2_with fail
  refine (HC.out W B0.out).mono ?_; rintro e w1 ⟨rfl, b1⟩
  have B1 := Lib.hid (B0.out.trans (b1.mono B0.out.size))
  have K1 := Lib.hid (KB.out.below b1 KB.out.lt)
  have SL := Lib.hid (show w.heap.size < w1.heap.size from K1.out.lt)
  obtain ⟨y0, y1, y2, y3⟩ := cells_4 K1.out
  clear b1 x0 x1 x2 x3
  rcases h01 with rfl | rfl
  · rw [if_pos rfl] at HR
    have hm := HM.out rfl
    obtain ⟨⟨n1, n2⟩, n3⟩ := HN1.out rfl
    obtain ⟨⟨n4, n5⟩, n6⟩ := HN2.out rfl
    have HT2 := Lib.hid (HT.out (by omega)); have HD2 := Lib.hid (HD.out (by omega)); have HWT2 := Lib.hid (HWT.out rfl); have HWD2 := Lib.hid (HWD.out rfl)
    clear HT HD HWT HWD HM HN1 HN2
    have hsub : IntKind.i64.wrap (sT - sD) = sT - sD := IntWalk.i64_in _ (by omega)
    go_upto_region 4 with (fail)
    have Bd := (Below.refl w1.heap.size w1).drew
    go_region_held3 (fun w' => w'.cell? ⟨w.heap.size, 0, none⟩ = some (.int .i64 f.kind) ∧ w'.cell? ⟨w.heap.size, 1, none⟩ = some (.string f.place) ∧ w'.cell? ⟨w.heap.size, 2, none⟩ = some (.string f.val_) ∧ w'.cell? ⟨w.heap.size, 3, none⟩ = some (.int .i64 f.year))
      (first | exact ⟨k0, k1, k2, k3⟩ | (go_keep; done) | ((try dsimp only); (repeat' apply And.intro) <;> (go_keep; done)))
      (first | (go_at_call 53; refine (HT2.out _ (B1.out.trans (Bd.mono B1.out.size))).mono ?_; rintro e wn ⟨vt, rfl, ot, bn⟩; (obtain ⟨At, ct, rfl, _⟩ := own_shape ot); (have OT := Lib.hid (own_mono ot Bd.size)); (have Bd := Bd.trans (bn.mono Bd.size)); (try have OD := Lib.hid (own_below OD.out bn)); have k0 := (Bd.cell (p := ⟨w.heap.size, 0, none⟩) SL.out).trans y0; have k1 := (Bd.cell (p := ⟨w.heap.size, 1, none⟩) SL.out).trans y1; have k2 := (Bd.cell (p := ⟨w.heap.size, 2, none⟩) SL.out).trans y2; have k3 := (Bd.cell (p := ⟨w.heap.size, 3, none⟩) SL.out).trans y3; clear ot bn) | (go_at_call 55; refine (HD2.out _ (B1.out.trans (Bd.mono B1.out.size))).mono ?_; rintro e wn ⟨vt, rfl, ot, bn⟩; (obtain ⟨Ad, cd, rfl, _⟩ := own_shape ot); (have OD := Lib.hid (own_mono ot Bd.size)); (have Bd := Bd.trans (bn.mono Bd.size)); (try have OT := Lib.hid (own_below OT.out bn)); have k0 := (Bd.cell (p := ⟨w.heap.size, 0, none⟩) SL.out).trans y0; have k1 := (Bd.cell (p := ⟨w.heap.size, 1, none⟩) SL.out).trans y1; have k2 := (Bd.cell (p := ⟨w.heap.size, 2, none⟩) SL.out).trans y2; have k3 := (Bd.cell (p := ⟨w.heap.size, 3, none⟩) SL.out).trans y3; clear ot bn) | (go_at_call 57; ((with_reducible refine (HWT2.out At ct _ (B1.out.trans (Bd.mono B1.out.size)) (Reads.of_own OT.out)).mono ?_); rintro e wn ⟨rfl, rfl⟩)) | (go_at_call 57; ((with_reducible refine (HWD2.out Ad cd _ (B1.out.trans (Bd.mono B1.out.size)) (Reads.of_own OD.out)).mono ?_); rintro e wn ⟨rfl, rfl⟩)) | fail)
    all_goals
      go_wp2_with fail
      go_ret2
      exact ⟨ret_int2 HR.out.symm rfl, B1.out.trans (Bd.mono B1.out.size)⟩
  · rw [if_neg (by omega)] at HR
    go_wp2_with fail
    go_ret2
    exact ⟨ret_int2 HR.out.symm rfl, B1.out⟩
end Go.Proofs.YtihhpmhigmegjaaGreatDoor
