/- QualifiedText of the program. -/
import Derived.Test.YthaampckdcimmaaDoorRows
import Derived.Test.YthaampckdcimmaaDoorL0
import Derived.Test.YthaampckdcimmaaDoorM0
import Derived.WalkKit
import Derived.ProofKit
import Derived.OpenShut
import Derived.BigQuiet
import Derived.Outline
import Derived.WalkSpells
import Derived.WalkLawsBesides
import Derived.Deep.DeepCutAuto
import Derived.Test.YthaampckdcimmaaDoorGN
import Derived.Test.YthaampckdcimmaaDoorQ2
namespace Go.Proofs.YthaampckdcimmaaDoor
open Go.ChangeShapes Go.WideShapes Go.ChangeAt Go.RowKit Go.Sort

theorem dirs_cell {W : World} (h : Dirs W) {k : Nat} (hk : k < 8) : W.cell? ⟨0, k, none⟩ = some (.string (dirsL[k]'(by rw [dirs_len]; exact hk))) := by
  obtain ⟨b, o, he, _, hc⟩ := h.2 (by decide)
  obtain ⟨rfl, rfl⟩ : 0 = b ∧ 0 = o := by
    have := Option.some.inj he
    injection this with h1 h2
    exact ⟨h1, h2⟩
  have := hc k _ (txC_get _ _ (by rw [dirs_len]; exact hk))
  rwa [Nat.zero_add] at this
set_option maxRecDepth 100000 in
set_option maxHeartbeats 2000000 in
theorem implQt_any (xs : List Ent) (b : Ent) (dist : Int) (hs : ∀ b ∈ xs, b.text.size ≤ 1048576) (hb : b.text.size ≤ 1048576) (A : Option Addr) (c : Nat) (w : World) (h : HasEnt w xs A) (hdir : Dirs w) :
    Calls Tryd.prog 36 #[.slice A xs.length c, b.val, .int .i64 dist] w fun e w' => e = .returned (.tuple #[.string (qtV xs b dist).1, .int .i64 (qtV xs b dist).2]) ∧ Below w.heap.size w w' := by
  have HI := Lib.hid (implEnt_any b hb)
  have HDs := Lib.hid hdir; clear hdir
  have HC0 := Lib.hid (fun W (hb' : Below w.heap.size w W) => implCodeE_any xs (entB b) dist A c W (h.below hb') hs)
  have KN := Lib.hid (blks_one w 30 #[.string b.text, .int .i64 b.x, .int .i64 b.y, .int .i64 b.since])
  by_cases hz : codeE xs (entB b) dist = 0
  · obtain ⟨hx, hm, hb1, hd⟩ := codeE_zero hz
    have HW := Lib.hid (fun W (hb' : Below w.heap.size w W) => barring_any xs b dist hx hb1 hd A c W (h.below hb') hm)
    rw [hz] at HC0
    have hb2 := hb1
    rw [hb2] at HC0 HI
    clear hb2
    cases hL : whichE xs (pBar b dist) with
    | nil =>
      have HR := Lib.hid (qtV_none hz hL)
      rw [hL] at HW
      generalize qtV xs b dist = r at HR ⊢
      clear hL hz hx hb1 hd hs h
      unfold Ent.val at HW HI ⊢
      go_enter Tryd.func36, Tryd.ntmps36
      go_wp2_with fail
      generalize hW : w.alloc (.cells #[.string b.text, .int .i64 b.x, .int .i64 b.y, .int .i64 b.since] 30) = W
      obtain ⟨kb, bw, hsz⟩ := KN.out W hW.symm
      clear hW hsz
      refine (HI.out W).mono ?_; rintro e w0 ⟨rfl, b0⟩
      have kb := kb.below b0 kb.lt
      have bw := bw.trans (b0.mono bw.size)
      clear b0
      go_wp2_with fail
      refine (HC0.out w0 bw).mono ?_; rintro e w1 ⟨rfl, b1⟩
      have KB1 := Lib.hid (kb.below b1 kb.lt)
      obtain ⟨x0, x1, x2, x3⟩ := cells_4 KB1.out
      have B1 := Lib.hid (bw.trans (b1.mono bw.size)); clear kb bw b1
      go_wp2_with fail
      refine (HW.out w1 B1.out).mono ?_; rintro e w2 ⟨v, rfl, own2, b2⟩
      obtain ⟨A2, c2, rfl, _⟩ := own_shape own2
      obtain ⟨x0, x1, x2, x3⟩ := cells_4 (KB1.out.below b2 KB1.out.lt)
      have B2 := Lib.hid b2; clear own2 b2
      go_wp2_with fail
      go_ret2
      exact ⟨by rw [HR.out]; (first | done | rfl), B1.out.trans (B2.out.mono B1.out.size)⟩
    | cons i T =>
      obtain ⟨k, hk, rfl, hq⟩ := qtV_some hz hL
      have HR := Lib.hid hq; clear hq
      rw [hL] at HW
      have HC := Lib.hid (enC_get xs k hk)
      have HH := Lib.hid h
      obtain ⟨f, hf⟩ : ∃ f, xs[k] = f := ⟨_, rfl⟩
      rw [hf] at HC HR
      have hfB : entB f = true := hx f (hf ▸ List.getElem_mem hk)
      obtain ⟨cf1, cf2⟩ := in_co hfB
      obtain ⟨cb1, cb2⟩ := in_co hb1
      have HDir := Lib.hid (implDir_any f.x f.y b.x b.y cf1 cf2 cb1 cb2)
      have HO := Lib.hid (show outQ f b = (wordQ f b ++ ⟨#[32]⟩) ++ b.text from rfl)
      have HWq := Lib.hid (show wordQ f b = if f.x = b.x ∧ f.y = b.y then ⟨#[110, 101, 119]⟩ else dirsL.getD (dirV (b.x - f.x) (b.y - f.y)).toNat ⟨#[]⟩ from rfl)
      obtain ⟨dv0, dv1⟩ := dirV_bd (b.x - f.x) (b.y - f.y)
      obtain ⟨j, hj⟩ : ∃ j : Nat, dirV (b.x - f.x) (b.y - f.y) = (j : Int) := ⟨(dirV (b.x - f.x) (b.y - f.y)).toNat, by omega⟩
      have hj8 : j < 8 := by omega
      rw [hj] at HDir HWq
      rw [Int.toNat_natCast, dirs_at hj8] at HWq
      have HWd := Lib.hid (fun W (hb' : Below w.heap.size w W) => dirs_cell (HDs.out.below hb') hj8)
      have hsz := dirs_size hj8
      generalize dirsL[j] = u at HWq HWd hsz
      generalize qtV xs b dist = r at HR ⊢
      clear hj dv0 dv1 cf1 cf2 cb1 cb2 hfB hf hL hz hx hb1 hd hs h
      unfold Ent.val at HW HI ⊢
      go_enter Tryd.func36, Tryd.ntmps36
      go_wp2_with fail
      generalize hW : w.alloc (.cells #[.string b.text, .int .i64 b.x, .int .i64 b.y, .int .i64 b.since] 30) = W
      obtain ⟨kb, bw, hszW⟩ := KN.out W hW.symm
      clear hW hszW
      refine (HI.out W).mono ?_; rintro e w0 ⟨rfl, b0⟩
      have kb := kb.below b0 kb.lt
      have bw := bw.trans (b0.mono bw.size)
      clear b0
      go_wp2_with fail
      refine (HC0.out w0 bw).mono ?_; rintro e w1 ⟨rfl, b1⟩
      have KB1 := Lib.hid (kb.below b1 kb.lt)
      obtain ⟨x0, x1, x2, x3⟩ := cells_4 KB1.out
      have B1 := Lib.hid (bw.trans (b1.mono bw.size)); clear kb bw b1
      go_wp2_with fail
      refine (HW.out w1 B1.out).mono ?_; rintro e w2 ⟨v, rfl, own2, b2⟩
      obtain ⟨A2, c2, rfl, _⟩ := own_shape own2
      have KB2 := Lib.hid (KB1.out.below b2 KB1.out.lt)
      obtain ⟨x0, x1, x2, x3⟩ := cells_4 KB2.out
      have B2 := Lib.hid (B1.out.trans (b2.mono B1.out.size))
      obtain ⟨a2, o2, rfl, hao2, hc2⟩ := (Reads.of_own own2).2 (by simp)
      have y0 : w2.cell? ⟨a2, o2, none⟩ = some (.int .i64 k) := hc2 0 (.int .i64 k) rfl
      obtain ⟨ab, ao, rfl, hadb, hcell⟩ := (HH.out.below B2.out).1.2 (by omega)
      obtain ⟨e0, e1, e2, e3⟩ := HC.out
      have z0 := hcell _ _ e0
      have z1 := hcell _ _ e1
      have z2 := hcell _ _ e2
      have z3 := hcell _ _ e3
      rw [← Nat.add_assoc] at z1 z2 z3
      have z2' : w2.cell? ⟨ab, ao + k * 4 + 1 + 1, none⟩ = some (.int .i64 f.y) := z2
      have hn : (((T.length : Int) + 1) == 0) = false := by rw [beq_eq_false_iff_ne]; omega
      clear own2 b2 hc2
      go_upto_region 9 with (fail)
      have KP := Lib.hid (blks_one w2 28 #[.int .i64 f.x, .int .i64 f.y])
      clear z0 z1 z2 z2' z3 y0 hcell
      generalize hW : w2.alloc (.cells #[.int .i64 f.x, .int .i64 f.y] 28) = W3
      obtain ⟨kp, bw3, hszW⟩ := KP.out W3 hW.symm
      clear hW hszW
      have KB3 := Lib.hid (KB2.out.below bw3 KB2.out.lt)
      obtain ⟨x0, x1, x2, x3⟩ := cells_4 KB3.out
      obtain ⟨p0, p1⟩ := cells_2 kp
      have B3 := Lib.hid (B2.out.trans (bw3.mono B2.out.size))
      clear bw3
      by_cases hxy : f.x = b.x ∧ f.y = b.y
      · rw [if_pos hxy] at HWq
        obtain ⟨h1, h2⟩ := hxy
        rw [HWq.out] at HO
        have HPh := Lib.hid (implPhr_any ((⟨#[110, 101, 119]⟩ ++ ⟨#[32]⟩) ++ b.text) (by rw [ByteArray.size_append, ByteArray.size_append]; have s1 : (⟨#[110, 101, 119]⟩ : ByteArray).size = 3 := rfl; have s2 : (⟨#[32]⟩ : ByteArray).size = 1 := rfl; omega))
        rw [← HO.out] at HPh
        generalize outQ f b = o at HO HR HPh
        rw [resQ] at HR
        go_wp2_with fail
        rw [← HO.out]
        refine (HPh.out W3).mono ?_; rintro e w4 ⟨rfl, b4⟩
        have B4 := Lib.hid (B3.out.trans (b4.mono B3.out.size))
        clear b4
        cases hp : phrB o <;> rw [hp] at HR
        all_goals
          go_wp2_with fail
          go_ret2
          exact ⟨by rw [HR.out]; (first | done | rfl), B4.out⟩
      · rw [if_neg hxy] at HWq
        rw [HWq.out] at HO
        have HPh := Lib.hid (implPhr_any ((u ++ ⟨#[32]⟩) ++ b.text) (by rw [ByteArray.size_append, ByteArray.size_append]; have s2 : (⟨#[32]⟩ : ByteArray).size = 1 := rfl; omega))
        rw [← HO.out] at HPh
        generalize outQ f b = o at HO HR HPh
        rw [resQ] at HR
        by_cases hX : f.x = b.x
        · have hY : ¬ f.y = b.y := fun h => hxy ⟨hX, h⟩
          rw [hX] at HDir hxy
          go_wp2_with fail
          with_reducible refine (HDir.out hxy W3).mono ?_
          rintro e w4 ⟨rfl, b4⟩
          have KB4 := Lib.hid (KB3.out.below b4 KB3.out.lt)
          have B4 := Lib.hid (B3.out.trans (b4.mono B3.out.size))
          clear b4
          obtain ⟨x0, x1, x2, x3⟩ := cells_4 KB4.out
          have d0 := HWd.out w4 B4.out
          go_wp2_with fail
          rw [← HO.out]
          refine (HPh.out w4).mono ?_; rintro e w6 ⟨rfl, b6⟩
          have B6 := Lib.hid (B4.out.trans (b6.mono B4.out.size))
          clear b6
          cases hp : phrB o <;> rw [hp] at HR
          all_goals
            go_wp2_with fail
            go_ret2
            exact ⟨by rw [HR.out]; (first | done | rfl), B6.out⟩
        · go_wp2_with fail
          with_reducible refine (HDir.out hxy W3).mono ?_
          rintro e w4 ⟨rfl, b4⟩
          have KB4 := Lib.hid (KB3.out.below b4 KB3.out.lt)
          have B4 := Lib.hid (B3.out.trans (b4.mono B3.out.size))
          clear b4
          obtain ⟨x0, x1, x2, x3⟩ := cells_4 KB4.out
          have d0 := HWd.out w4 B4.out
          go_wp2_with fail
          rw [← HO.out]
          refine (HPh.out w4).mono ?_; rintro e w6 ⟨rfl, b6⟩
          have B6 := Lib.hid (B4.out.trans (b6.mono B4.out.size))
          clear b6
          cases hp : phrB o <;> rw [hp] at HR
          all_goals
            go_wp2_with fail
            go_ret2
            exact ⟨by rw [HR.out]; (first | done | rfl), B6.out⟩
  · have HR := Lib.hid (qtV_bad hz)
    generalize qtV xs b dist = r at HR ⊢
    generalize codeE xs (entB b) dist = cz at HC0 hz HR
    have hne : (cz != 0) = true := by rw [bne_iff_ne]; exact hz
    clear hz hs h hb
    unfold Ent.val at HI ⊢
    go_enter Tryd.func36, Tryd.ntmps36
    go_wp2_with fail
    generalize hW : w.alloc (.cells #[.string b.text, .int .i64 b.x, .int .i64 b.y, .int .i64 b.since] 30) = W
    obtain ⟨kb, bw, hsz⟩ := KN.out W hW.symm
    clear hW hsz
    refine (HI.out W).mono ?_; rintro e w0 ⟨rfl, b0⟩
    have kb := kb.below b0 kb.lt
    have bw := bw.trans (b0.mono bw.size)
    clear b0
    go_wp2_with fail
    refine (HC0.out w0 bw).mono ?_; rintro e w1 ⟨rfl, b1⟩
    go_wp2_with fail
    go_ret2
    exact ⟨by rw [HR.out]; (first | done | rfl), bw.trans (b1.mono bw.size)⟩
end Go.Proofs.YthaampckdcimmaaDoor
