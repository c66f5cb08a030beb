/- Whether a point satisfies a description: DoesSatisfy of the program. -/
import Derived.Test.YtphkfnhmpngjpaaDoorRows
import Derived.Test.YtphkfnhmpngjpaaDoorL0
import Derived.Test.YtphkfnhmpngjpaaDoorM0
import Derived.WalkKit
import Derived.ProofKit
import Derived.OpenShut
import Derived.BigQuiet
import Derived.Outline
import Derived.WalkSpells
import Derived.WalkLawsBesides
import Derived.Deep.DeepCutAuto
import Derived.Test.YtphkfnhmpngjpaaDoorHD
namespace Go.Proofs.YtphkfnhmpngjpaaDoor
open Go.ChangeShapes Go.WideShapes Go.ChangeAt Go.RowKit Go.Sort

set_option maxRecDepth 100000 in
set_option maxHeartbeats 4000000 in
theorem implDoes_any (xs : List Sit) (d : Dsc) (hd : d.Ok) (px py : Int) (A : Option Addr) (c : Nat) (w : World) (h : HasSit w xs A) (hdir : Dirs w) :
    Calls Tryd.prog 49 #[.slice A xs.length c, d.val, .agg #[.int .i64 px, .int .i64 py]] w fun e w' => e = .returned (.tuple #[.bool (doesT xs d px py).1, .int .i64 (doesT xs d px py).2]) ∧ Below w.heap.size w w' := by
  have HP := Lib.hid (implPt_any px py)
  have HC := Lib.hid (fun W (hb : Below w.heap.size w W) (B : Option Addr) e (h2 : HasDsc W [d] B) => implCodeS_any xs [d] (ptB px py) A B c e W (h.below hb) h2 (hdir.below hb))
  have HX := Lib.hid (show doesT xs d px py = if codeS xs [d] (ptB px py) = 0 then (satV xs d px py, 0) else (false, codeS xs [d] (ptB px py)) from rfl)
  have HZ := Lib.hid (fun (hz : codeS xs [d] (ptB px py) = 0) W (hb : Below w.heap.size w W) => implSat_any xs (codeS_zero hz).1 d hd ((codeS_zero hz).2.2.1 d (by simp)).1 px py (ptB_co (codeS_zero hz).2.1).1 (ptB_co (codeS_zero hz).2.1).2 A c W (h.below hb))
  have HN := Lib.hid (fun W => new_dsc W d hd 26)
  have KN := Lib.hid (blks_two w 26 64 #[.int .i64 d.kind, .int .i64 d.count, .string d.unit, .int .i64 d.dir, .string d.a, .string d.b] #[.int .i64 px, .int .i64 py])
  generalize doesT xs d px py = r at HX ⊢
  clear h
  have HC2 := Lib.hid (show ∀ W, Below w.heap.size w W → ∀ (B : Option Addr) e, HasDsc W [d] B → Calls Tryd.prog 79 #[.slice A xs.length c, .slice B 1 e, .bool (ptB px py)] W fun e w' => e = .returned (.int .i64 (codeS xs [d] (ptB px py))) ∧ Below W.heap.size W w' from HC.out)
  clear HC
  generalize codeS xs [d] (ptB px py) = cz at *
  generalize ptB px py = pk at *
  generalize satV xs d px py = sv at *
  unfold Dsc.val at HZ ⊢
  go_enter Tryd.func49, Tryd.ntmps49
  go_upto_region 1 with (fail)
  generalize hW : (w.alloc (.cells #[.int .i64 d.kind, .int .i64 d.count, .string d.unit, .int .i64 d.dir, .string d.a, .string d.b] 26)).alloc (.cells #[.int .i64 px, .int .i64 py] 64) = W
  obtain ⟨kd, kp, bw, hsz⟩ := KN.out W hW.symm
  clear hW hsz
  have KD := Lib.hid kd; have KP := Lib.hid kp; have BW := Lib.hid bw; clear kd kp bw
  obtain ⟨x0, x1, x2, x3, x4, x5⟩ := cells_6 KD.out
  obtain ⟨y0, y1⟩ := cells_2 KP.out
  have zd := KD.out.lt
  have zp := KP.out.lt
  have BA := (Below.refl W.heap.size W).alloc (Nat.le_refl _) (.cells #[.int .i64 d.kind, .int .i64 d.count, .string d.unit, .int .i64 d.dir, .string d.a, .string d.b] 26)
  go_cut [8] (fun va wx => va = .int .i64 cz ∧ Below W.heap.size W wx)
  case first =>
    go_region_held3 (fun w' => w'.cell? ⟨w.heap.size, 0, none⟩ = some (.int .i64 d.kind) ∧ w'.cell? ⟨w.heap.size, 1, none⟩ = some (.int .i64 d.count) ∧ w'.cell? ⟨w.heap.size, 2, none⟩ = some (.string d.unit) ∧ w'.cell? ⟨w.heap.size, 3, none⟩ = some (.int .i64 d.dir) ∧ w'.cell? ⟨w.heap.size, 4, none⟩ = some (.string d.a) ∧ w'.cell? ⟨w.heap.size, 5, none⟩ = some (.string d.b) ∧ w'.cell? ⟨w.heap.size + 1, 0, none⟩ = some (.int .i64 px) ∧ w'.cell? ⟨w.heap.size + 1, 1, none⟩ = some (.int .i64 py))
      (first | exact ⟨k0, k1, k2, k3, k4, k5, k6, k7⟩ | (go_keep; done) | ((try dsimp only); (repeat' apply And.intro) <;> (go_keep; done)))
      (first | (go_at_call 66; refine (HP.out (W.alloc (.cells #[.int .i64 d.kind, .int .i64 d.count, .string d.unit, .int .i64 d.dir, .string d.a, .string d.b] 26)).drew).mono ?_; rintro e wn ⟨rfl, bn⟩; (have Bd := BA.drew.trans (bn.mono BA.size)); (have Rd := (show HasDsc (W.alloc (.cells #[.int .i64 d.kind, .int .i64 d.count, .string d.unit, .int .i64 d.dir, .string d.a, .string d.b] 26)).drew [d] (some ⟨W.heap.size, 0, none⟩) from HN.out W).below bn); (have Bf := Bd); have k0 := (Bd.cell (p := ⟨w.heap.size, 0, none⟩) zd).trans x0; have k1 := (Bd.cell (p := ⟨w.heap.size, 1, none⟩) zd).trans x1; have k2 := (Bd.cell (p := ⟨w.heap.size, 2, none⟩) zd).trans x2; have k3 := (Bd.cell (p := ⟨w.heap.size, 3, none⟩) zd).trans x3; have k4 := (Bd.cell (p := ⟨w.heap.size, 4, none⟩) zd).trans x4; have k5 := (Bd.cell (p := ⟨w.heap.size, 5, none⟩) zd).trans x5; have k6 := (Bd.cell (p := ⟨w.heap.size + 1, 0, none⟩) zp).trans y0; have k7 := (Bd.cell (p := ⟨w.heap.size + 1, 1, none⟩) zp).trans y1) | (go_at_call 66; refine (HP.out W.drew).mono ?_; rintro e wn ⟨rfl, bn⟩; (have Bd := (Below.refl W.heap.size W).drew.trans bn); (have Rd := HN.out wn); (have Bf := Bd.alloc Bd.size (.cells #[.int .i64 d.kind, .int .i64 d.count, .string d.unit, .int .i64 d.dir, .string d.a, .string d.b] 26)); have k0 := (Bd.cell (p := ⟨w.heap.size, 0, none⟩) zd).trans x0; have k1 := (Bd.cell (p := ⟨w.heap.size, 1, none⟩) zd).trans x1; have k2 := (Bd.cell (p := ⟨w.heap.size, 2, none⟩) zd).trans x2; have k3 := (Bd.cell (p := ⟨w.heap.size, 3, none⟩) zd).trans x3; have k4 := (Bd.cell (p := ⟨w.heap.size, 4, none⟩) zd).trans x4; have k5 := (Bd.cell (p := ⟨w.heap.size, 5, none⟩) zd).trans x5; have k6 := (Bd.cell (p := ⟨w.heap.size + 1, 0, none⟩) zp).trans y0; have k7 := (Bd.cell (p := ⟨w.heap.size + 1, 1, none⟩) zp).trans y1) | (go_at_call 79; refine (HC2.out _ (BW.out.trans (Bf.mono BW.out.size)) _ 1 Rd).mono ?_; rintro e wn ⟨rfl, bn⟩; (have Bd := Bf.trans (bn.mono Bf.size)); have k0 := (Bd.cell (p := ⟨w.heap.size, 0, none⟩) zd).trans x0; have k1 := (Bd.cell (p := ⟨w.heap.size, 1, none⟩) zd).trans x1; have k2 := (Bd.cell (p := ⟨w.heap.size, 2, none⟩) zd).trans x2; have k3 := (Bd.cell (p := ⟨w.heap.size, 3, none⟩) zd).trans x3; have k4 := (Bd.cell (p := ⟨w.heap.size, 4, none⟩) zd).trans x4; have k5 := (Bd.cell (p := ⟨w.heap.size, 5, none⟩) zd).trans x5; have k6 := (Bd.cell (p := ⟨w.heap.size + 1, 0, none⟩) zp).trans y0; have k7 := (Bd.cell (p := ⟨w.heap.size + 1, 1, none⟩) zp).trans y1) | fail)
    all_goals
      go_wp2_with fail
      go_meet
      exact ⟨rfl, Bd⟩
  case rest =>
    obtain ⟨rfl, b2⟩ := hcut
    generalize wc = w2 at *
    clear wc
    have KD2 := Lib.hid (KD.out.below b2 zd); have KP2 := Lib.hid (KP.out.below b2 zp); have B2 := Lib.hid (BW.out.trans (b2.mono BW.out.size))
    clear x0 x1 x2 x3 x4 x5 y0 y1 b2 BA
    obtain ⟨x0, x1, x2, x3, x4, x5⟩ := cells_6 KD2.out
    obtain ⟨y0, y1⟩ := cells_2 KP2.out
    by_cases hz : cz = 0
    · have HX2 := Lib.hid (show r = (sv, 0) by rw [HX.out, if_pos hz])
      have HZ3 := Lib.hid (HZ.out hz)
      subst hz
      clear HX HZ
      go_wp2_with fail
      refine (HZ3.out w2 B2.out).mono ?_; rintro e w3 ⟨rfl, b3⟩
      go_wp2_with fail
      go_ret2
      exact ⟨by rw [HX2.out]; first | done | rfl, B2.out.trans (b3.mono B2.out.size)⟩
    · have HX2 := Lib.hid (show r = (false, cz) by rw [HX.out, if_neg hz])
      have hne : (cz != 0) = true := by rw [bne_iff_ne]; exact hz
      clear hz HX HZ
      go_wp2_with fail
      go_ret2
      exact ⟨by rw [HX2.out]; first | done | rfl, B2.out⟩
end Go.Proofs.YtphkfnhmpngjpaaDoor
