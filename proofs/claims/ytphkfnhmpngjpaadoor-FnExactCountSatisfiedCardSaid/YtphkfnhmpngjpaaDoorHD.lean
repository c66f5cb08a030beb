/- Whether a point satisfies a description: DoesSatisfy of both. -/
import Derived.Test.YtphkfnhmpngjpaaDoorRows
import Derived.Test.YtphkfnhmpngjpaaDoorL0
import Derived.Test.YtphkfnhmpngjpaaDoorM0
import Derived.WalkKit
import Derived.ProofKit
import Derived.OpenShut
import Derived.BigQuiet
import Derived.Outline
import Derived.WalkSpells
import Derived.WalkLawsBesides
import Derived.Deep.DeepCutAuto
import Derived.Test.YtphkfnhmpngjpaaDoorHC
import Derived.Deep.RegionHeld3
import Derived.Deep.AppendLies
namespace Go.Proofs.YtphkfnhmpngjpaaDoor
open Go.ChangeShapes Go.WideShapes Go.ChangeAt Go.RowKit Go.Sort

theorem szSiTo_le (xs : List Sit) : ∀ left, -1 ≤ left → szSiTo left xs ≤ left := by
  induction xs with
  | nil => intro left _; exact Int.le_refl _
  | cons b r ih =>
    intro left h
    rw [szSiTo]
    split
    · exact h
    · have := ih (left - b.name.size) (by omega)
      omega
theorem szSi_all {xs : List Sit} (h : 0 ≤ szSi xs) : xs.length ≤ 1048576 ∧ (∀ b ∈ xs, b.name.size ≤ 1048576) ∧ szSi xs ≤ 1048576 := by
  obtain ⟨h1, h2⟩ := szSi_pos h
  refine ⟨h1, h2, ?_⟩
  unfold szSi at h ⊢
  split
  · omega
  · have := szSiTo_le xs (1048576 - xs.length) (by omega)
    omega
theorem codeS_zero {xs : List Sit} {ds : List Dsc} {ok : Bool} (h : codeS xs ds ok = 0) : areS xs = true ∧ ok = true ∧ (∀ d ∈ ds, isD d = true ∧ 0 ≤ sitIx d.a xs ∧ (d.kind = 3 → 0 ≤ sitIx d.b xs)) ∧ ds.length ≤ 8 := by
  unfold codeS at h
  split at h
  · rename_i h1
    split at h
    · cases h
    · rename_i h2
      split at h
      · cases h
      · rename_i h3
        simp only [Bool.and_eq_true, List.all_eq_true] at h1
        refine ⟨h1.1, h1.2.1, fun d hd => ?_, by omega⟩
        have hi := h1.2.2 d hd
        have hm : missD xs d = false := by
          cases hq : missD xs d with
          | false => rfl
          | true => exact absurd (List.any_eq_true.2 ⟨d, hd, hq⟩) h2
        simp only [missD, Bool.or_eq_false_iff, decide_eq_false_iff_not] at hm
        refine ⟨hi, by omega, fun hk => ?_⟩
        have hb := isD_b3 hi hk
        have h5 := hm.2
        rw [decide_eq_false hb] at h5
        simp only [Bool.not_false, Bool.true_and, decide_eq_false_iff_not] at h5
        omega
  · cases h
theorem new_dsc (W : World) (d : Dsc) (hd : d.Ok) (t : TypeId) : HasDsc (W.alloc (.cells #[.int .i64 d.kind, .int .i64 d.count, .string d.unit, .int .i64 d.dir, .string d.a, .string d.b] t)) [d] (some ⟨W.heap.size, 0, none⟩) :=
  ⟨⟨rfl, fun _ => ⟨W.heap.size, 0, rfl, by simp, fun j u hu => by
    rw [Nat.zero_add, (Blk.new W t #[.int .i64 d.kind, .int .i64 d.count, .string d.unit, .int .i64 d.dir, .string d.a, .string d.b]).cell]
    simpa [dsC, Dsc.cells] using hu⟩⟩, by simp, fun b hb => by simp at hb; subst hb; exact hd⟩
/-- What DoesSatisfy returns. -/
def doesT (xs : List Sit) (d : Dsc) (px py : Int) : Bool × Int := if codeS xs [d] (ptB px py) = 0 then (satV xs d px py, 0) else (false, codeS xs [d] (ptB px py))
theorem ptB_co {x y : Int} (h : ptB x y = true) : Co x ∧ Co y := by
  simp only [ptB, inB, Bool.and_eq_true, decide_eq_true_eq] at h
  exact ⟨by unfold Co; omega, by unfold Co; omega⟩
set_option maxRecDepth 100000 in
set_option maxHeartbeats 4000000 in
theorem specDoes_any (xs : List Sit) (d : Dsc) (hd : d.Ok) (px py : Int) (A : Option Addr) (c : Nat) (w : World) (h : HasSit w xs A) :
    Calls Tryd.prog 47 #[.slice A xs.length c, d.val, .agg #[.int .i64 px, .int .i64 py]] w fun e w' => e = .returned (.tuple #[.bool (doesT xs d px py).1, .int .i64 (doesT xs d px py).2]) ∧ Below w.heap.size w w' := by
  have HP := Lib.hid (specPt_any px py)
  have HC := Lib.hid (fun W (hb : Below w.heap.size w W) (B : Option Addr) e (h2 : HasDsc W [d] B) => specCodeS_any xs [d] A B c e W (h.below hb) h2)
  have HX := Lib.hid (show doesT xs d px py = if codeS xs [d] (ptB px py) = 0 then (satV xs d px py, 0) else (false, codeS xs [d] (ptB px py)) from rfl)
  have HZ := Lib.hid (fun (hz : codeS xs [d] true = 0) (hp : ptB px py = true) W (hb : Below w.heap.size w W) => specSat_any xs (codeS_zero hz).1 d hd ((codeS_zero hz).2.2.1 d (by simp)).1 ((codeS_zero hz).2.2.1 d (by simp)).2.1 ((codeS_zero hz).2.2.1 d (by simp)).2.2 px py (ptB_co hp).1 (ptB_co hp).2 A c W (h.below hb))
  have HN := Lib.hid (fun W => new_dsc W d hd 26)
  have HF := Lib.hid (show codeS xs [d] false = 1 by unfold codeS; simp)
  have KN := Lib.hid (blks_two w 26 64 #[.int .i64 d.kind, .int .i64 d.count, .string d.unit, .int .i64 d.dir, .string d.a, .string d.b] #[.int .i64 px, .int .i64 py])
  generalize doesT xs d px py = r at HX ⊢
  clear h
  have HC2 := Lib.hid (show ∀ W, Below w.heap.size w W → ∀ (B : Option Addr) e, HasDsc W [d] B → Calls Tryd.prog 77 #[.slice A xs.length c, .slice B 1 e] W fun e w' => e = .returned (.int .i64 (codeS xs [d] true)) ∧ Below W.heap.size W w' from HC.out)
  clear HC
  cases hp : ptB px py
  · rw [hp, HF.out] at HX
    rw [hp] at HP
    have HX2 := Lib.hid (show r = (false, 1) by rw [HX.out]; rfl)
    clear hp HX HZ HC2
    unfold Dsc.val
    go_enter Tryd.func47, Tryd.ntmps47
    go_wp2_with fail
    generalize hW : (w.alloc (.cells #[.int .i64 d.kind, .int .i64 d.count, .string d.unit, .int .i64 d.dir, .string d.a, .string d.b] 26)).alloc (.cells #[.int .i64 px, .int .i64 py] 64) = W
    obtain ⟨kd, kp, bw, hsz⟩ := KN.out W hW.symm
    clear hW hsz
    refine (HP.out W).mono ?_; rintro e w1 ⟨rfl, b1⟩
    go_wp2_with fail
    go_ret2
    exact ⟨by rw [HX2.out]; first | done | rfl, bw.trans (b1.mono bw.size)⟩
  · rw [hp] at HX HP
    have HZ2 := Lib.hid (fun hz => HZ.out hz hp)
    clear HZ hp
    generalize codeS xs [d] true = cz at *
    generalize satV xs d px py = sv at *
    unfold Dsc.val at HZ2 ⊢
    by_cases hz : cz = 0
    · subst hz
      have HX2 := Lib.hid (show r = (sv, 0) by rw [HX.out]; rfl)
      have HZ3 := Lib.hid (HZ2.out rfl)
      clear HX HZ2
      go_enter Tryd.func47, Tryd.ntmps47
      go_wp2_with fail
      generalize hW : (w.alloc (.cells #[.int .i64 d.kind, .int .i64 d.count, .string d.unit, .int .i64 d.dir, .string d.a, .string d.b] 26)).alloc (.cells #[.int .i64 px, .int .i64 py] 64) = W
      obtain ⟨kd, kp, bw, hsz⟩ := KN.out W hW.symm
      clear hW hsz
      refine (HP.out W).mono ?_; rintro e w1 ⟨rfl, b1⟩
      have KD := Lib.hid (kd.below b1 kd.lt); have KP := Lib.hid (kp.below b1 kp.lt); have B1 := Lib.hid (bw.trans (b1.mono bw.size)); clear kd kp bw b1
      obtain ⟨x0, x1, x2, x3, x4, x5⟩ := cells_6 KD.out
      have NA := HN.out w1
      have BA := (Below.refl w1.heap.size w1).alloc (Nat.le_refl _) (.cells #[.int .i64 d.kind, .int .i64 d.count, .string d.unit, .int .i64 d.dir, .string d.a, .string d.b] 26)
      have B2 := Lib.hid (B1.out.trans (BA.mono B1.out.size)); have KD2 := Lib.hid (KD.out.below BA KD.out.lt); have KP2 := Lib.hid (KP.out.below BA KP.out.lt)
      have HCx := Lib.hid (HC2.out _ B2.out _ 1 NA)
      clear NA BA
      go_wp2_with fail
      refine HCx.out.mono ?_; rintro e w2 ⟨rfl, b2⟩
      obtain ⟨x0, x1, x2, x3, x4, x5⟩ := cells_6 (KD2.out.below b2 KD2.out.lt)
      obtain ⟨y0, y1⟩ := cells_2 (KP2.out.below b2 KP2.out.lt)
      have B3 := Lib.hid (B2.out.trans (b2.mono B2.out.size)); clear b2
      go_wp2_with fail
      refine (HZ3.out w2 B3.out).mono ?_; rintro e w3 ⟨rfl, b3⟩
      go_wp2_with fail
      go_ret2
      exact ⟨by rw [HX2.out]; first | done | rfl, B3.out.trans (b3.mono B3.out.size)⟩
    · have HX2 := Lib.hid (show r = (false, cz) by rw [HX.out, if_neg hz])
      have hne : (cz != 0) = true := by rw [bne_iff_ne]; exact hz
      clear hz HX HZ2
      go_enter Tryd.func47, Tryd.ntmps47
      go_wp2_with fail
      generalize hW : (w.alloc (.cells #[.int .i64 d.kind, .int .i64 d.count, .string d.unit, .int .i64 d.dir, .string d.a, .string d.b] 26)).alloc (.cells #[.int .i64 px, .int .i64 py] 64) = W
      obtain ⟨kd, kp, bw, hsz⟩ := KN.out W hW.symm
      clear hW hsz
      refine (HP.out W).mono ?_; rintro e w1 ⟨rfl, b1⟩
      have KD := Lib.hid (kd.below b1 kd.lt); have B1 := Lib.hid (bw.trans (b1.mono bw.size)); clear kd kp bw b1
      obtain ⟨x0, x1, x2, x3, x4, x5⟩ := cells_6 KD.out
      have NA := HN.out w1
      have BA := (Below.refl w1.heap.size w1).alloc (Nat.le_refl _) (.cells #[.int .i64 d.kind, .int .i64 d.count, .string d.unit, .int .i64 d.dir, .string d.a, .string d.b] 26)
      have B2 := Lib.hid (B1.out.trans (BA.mono B1.out.size))
      have HCx := Lib.hid (HC2.out _ B2.out _ 1 NA)
      clear NA BA
      go_wp2_with fail
      refine HCx.out.mono ?_; rintro e w2 ⟨rfl, b2⟩
      go_wp2_with fail
      go_ret2
      exact ⟨by rw [HX2.out]; first | done | rfl, B2.out.trans (b2.mono B2.out.size)⟩
end Go.Proofs.YtphkfnhmpngjpaaDoor
