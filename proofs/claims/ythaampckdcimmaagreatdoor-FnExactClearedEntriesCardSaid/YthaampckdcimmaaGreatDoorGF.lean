/- The homonyms of an entry in a list, by the program: those that bar it. -/
import Derived.Test.YthaampckdcimmaaGreatDoorRows
import Derived.Test.YthaampckdcimmaaGreatDoorL0
import Derived.Test.YthaampckdcimmaaGreatDoorM0
import Derived.WalkKit
import Derived.ProofKit
import Derived.OpenShut
import Derived.BigQuiet
import Derived.Outline
import Derived.WalkSpells
import Derived.WalkLawsBesides
import Derived.Deep.DeepCutAuto
import Derived.Test.YthaampckdcimmaaGreatDoorGC
namespace Go.Proofs.YthaampckdcimmaaGreatDoor
open Go.ChangeShapes Go.WideShapes Go.ChangeAt Go.RowKit
set_option maxRecDepth 100000 in
set_option maxHeartbeats 2000000 in
theorem homBar_any (p : Ent → Bool) (xs : List Ent) (b : Ent) (dist : Int) (hx : ∀ f ∈ xs, entB f = true) (hb : entB b = true) (hd : 0 ≤ dist ∧ dist ≤ 4000) (g : Nat) (A : Option Addr) (c : Nat) (w : World) (h : HasEnt w xs A) (hm : xs.length ≤ 12)
    (hcl : ∀ f ∈ xs, ∀ W, Below w.heap.size w W → Calls Tryz.prog 79 #[f.val, .pointer (some ⟨g, 0, none⟩)] W fun e w' => e = .returned (.bool (p f)) ∧ Below W.heap.size W w') :
    Calls Tryz.prog 42 #[.slice A xs.length c, b.val, .int .i64 dist, .func (.func 79) #[] #[.pointer (some ⟨g, 0, none⟩)]] w fun e w' => ∃ v, e = .returned v ∧ w'.ownsRow w.heap.size 2 1 v (whichE xs (fun f => homB b f dist && p f)).length (inC (whichE xs (fun f => homB b f dist && p f))) ∧ Below w.heap.size w w' := by
  obtain ⟨i0, hi0, hz0, hz1, hz2⟩ := info_parts infoInt
  have H := Lib.hid h; clear h
  have HX := Lib.hid hx; clear hx
  have HCl := Lib.hid hcl; clear hcl
  have HB := Lib.hid hb; clear hb
  have KN := Lib.hid (blks_one w 28 #[.string b.text, .int .i64 b.x, .int .i64 b.y, .int .i64 b.since])
  have HHm := Lib.hid (fun f hf => implHom_any b f HB.out hf dist hd)
  have HL := Lib.hid (show whichE xs (fun f => homB b f dist && p f) = wTo xs (fun f => homB b f dist && p f) xs.length from rfl)
  generalize whichE xs (fun f => homB b f dist && p f) = LL at HL ⊢
  unfold Ent.val at HHm HCl ⊢
  go_enter Tryz.func42, Tryz.ntmps42
  go_upto_region 2 with (fail)
  generalize hW : w.alloc (.cells #[.string b.text, .int .i64 b.x, .int .i64 b.y, .int .i64 b.since] 28) = W
  obtain ⟨kb, bw, hsz⟩ := KN.out W hW.symm
  clear hW hsz
  have KB := Lib.hid kb; have BW0 := Lib.hid bw; have LB := Lib.hid kb.lt; clear kb bw
  go_wp2_with fail
  go_loopw [9, 14] (fun v9 v14 wr => ∃ (k n : Nat) (B : Option Addr) (d : Nat), k ≤ xs.length ∧ n ≤ k ∧ Hid ((wTo xs (fun f => homB b f dist && p f) k).length = n) ∧ v9 = .slice B n d ∧ Hid (wr.ownsRow W.heap.size 2 1 (.slice B n d) n (inC (wTo xs (fun f => homB b f dist && p f) k))) ∧ Hid (Below W.heap.size W wr) ∧ v14 = .int .i64 k) (fun _ i _ => xs.length - (intOf i).toNat)
  case atStart => exact ⟨0, 0, none, 0, by omega, by omega, rfl, rfl, World.ownsRow_nil _ _ _ _, Below.refl _ _, rfl⟩
  case round =>
    obtain ⟨k, n, B, d, hk, hnk, HN, rfl, HO, BW, rfl⟩ := hrel
    by_cases hlt : k < xs.length
    · obtain ⟨ab, ao, rfl, hadb, hcell⟩ := (H.out.below (BW0.out.trans (BW.out.mono BW0.out.size))).1.2 (by omega)
      obtain ⟨e0, e1, e2, e3⟩ := enC_get xs k hlt
      have c0 := hcell _ _ e0
      have c1 := hcell _ _ e1
      have c2 := hcell _ _ e2
      have c3 := hcell _ _ e3
      rw [← Nat.add_assoc] at c1 c2 c3
      clear hcell e0 e1 e2 e3
      have HW1 := Lib.hid (wTo_at (xs := xs) (p := fun f => homB b f dist && p f) hlt)
      have HH1 := Lib.hid (HHm.out xs[k] (HX.out _ (List.getElem_mem hlt)))
      have HC1 := Lib.hid (HCl.out xs[k] (List.getElem_mem hlt))
      have T3 := Lib.hid (blks_one wr 28 #[.string xs[k].text, .int .i64 xs[k].x, .int .i64 xs[k].y, .int .i64 xs[k].since])
      generalize xs[k] = f at c0 c1 c2 c3 HW1 HH1 HC1 T3
      obtain ⟨x0, x1, x2, x3⟩ := cells_4 (KB.out.below BW.out LB.out)
      go_upto_region 5 with (fail)
      generalize hW2 : wr.alloc (.cells #[.string f.text, .int .i64 f.x, .int .i64 f.y, .int .i64 f.since] 28) = W2
      obtain ⟨kf, bf, hsz⟩ := T3.out W2 hW2.symm
      clear hW2 hsz c0 c1 c2 c3 x0 x1 x2 x3
      have BF := Lib.hid (BW.out.trans (bf.mono BW.out.size))
      have OF := Lib.hid (own_below HO.out bf)
      obtain ⟨x0, x1, x2, x3⟩ := cells_4 (KB.out.below BF.out LB.out)
      obtain ⟨y0, y1, y2, y3⟩ := cells_4 kf
      have KF := Lib.hid kf; clear kf bf
      cases q1 : homB b f dist
      · have HL1 := Lib.hid (show wTo xs (fun f => homB b f dist && p f) (k + 1) = wTo xs (fun f => homB b f dist && p f) k by rw [HW1.out, q1]; rfl)
        rw [q1] at HH1
        clear q1
        go_wp2_with fail
        refine (HH1.out _).mono ?_; rintro e w1 ⟨rfl, b1⟩
        go_wp2_with fail
        go_roundw
        case rel => exact ⟨k + 1, n, B, d, by omega, by omega, by rw [HL1.out]; exact HN.out, rfl, by rw [HL1.out]; exact own_below OF.out b1, BF.out.trans (b1.mono BF.out.size), by go_num⟩
        case measure => simp [intOf]; omega
      · cases q2 : p f
        · have HL1 := Lib.hid (show wTo xs (fun f => homB b f dist && p f) (k + 1) = wTo xs (fun f => homB b f dist && p f) k by rw [HW1.out, q1, q2]; rfl)
          rw [q1] at HH1
          rw [q2] at HC1
          clear q1 q2
          go_wp2_with fail
          refine (HH1.out _).mono ?_; rintro e w1 ⟨rfl, b1⟩
          have B1 := Lib.hid (BF.out.trans (b1.mono BF.out.size)); have O1 := Lib.hid (own_below OF.out b1)
          obtain ⟨y0, y1, y2, y3⟩ := cells_4 (KF.out.below b1 KF.out.lt)
          clear b1
          go_wp2_with fail
          refine (HC1.out w1 (BW0.out.trans (B1.out.mono BW0.out.size))).mono ?_; rintro e w2 ⟨rfl, b2⟩
          go_wp2_with fail
          go_roundw
          case rel => exact ⟨k + 1, n, B, d, by omega, by omega, by rw [HL1.out]; exact HN.out, rfl, by rw [HL1.out]; exact own_below O1.out b2, B1.out.trans (b2.mono B1.out.size), by go_num⟩
          case measure => simp [intOf]; omega
        · have HL1 := Lib.hid (show wTo xs (fun f => homB b f dist && p f) (k + 1) = wTo xs (fun f => homB b f dist && p f) k ++ [(k : Int)] by rw [HW1.out, q1, q2]; rfl)
          rw [q1] at HH1
          rw [q2] at HC1
          clear q1 q2
          go_wp2_with fail
          refine (HH1.out _).mono ?_; rintro e w1 ⟨rfl, b1⟩
          have B1 := Lib.hid (BF.out.trans (b1.mono BF.out.size)); have O1 := Lib.hid (own_below OF.out b1)
          obtain ⟨y0, y1, y2, y3⟩ := cells_4 (KF.out.below b1 KF.out.lt)
          clear b1
          go_wp2_with fail
          refine (HC1.out w1 (BW0.out.trans (B1.out.mono BW0.out.size))).mono ?_; rintro e w2 ⟨rfl, b2⟩
          have B2 := Lib.hid (B1.out.trans (b2.mono B1.out.size)); have O2 := Lib.hid (own_below O1.out b2)
          clear b2
          go_wp2_with (at_builtin; refine wpList_append_any _ rfl (.tmp 28) (.tmp 30) _ rfl W.heap.size 2 i0 _ 1 8 Tryz.underlying31 hi0 hz0 hz1 hz2 rfl (by omega) (.slice B n d) n (inC (wTo xs (fun f => homB b f dist && p f) k)) rfl (O2.out.alloc _) _ (some ⟨w2.heap.size, 0, none⟩) 1 1 [.int .i64 k] rfl (new_in1 _ _ _) (by simp [Value.oneCell']) (by simp only [maxLen]; omega) (by omega) (by have := B2.out.size; simp; omega) ?_; intro v4 w4 hown4 hg4 hat4; obtain ⟨B4, d4, rfl, _⟩ := own_shape hown4)
          go_roundw
          case rel => exact ⟨k + 1, n + 1, B4, d4, by omega, by omega, by have := HN.out; rw [HL1.out]; simp [Hid, this], rfl, by rw [HL1.out, inC_snoc]; exact hown4, below_own (B2.out.alloc B2.out.size _) (O2.out.alloc _) hg4 (Nat.le_refl _) (by have := B2.out.size; simp; omega), by go_num⟩
          case measure => simp [intOf]; omega
    · obtain rfl : k = xs.length := by omega
      have HN' := HN.out
      go_wp2_with fail
      go_ret
      exact ⟨_, rfl, by rw [HL.out, HN']; exact own_mono HO.out BW0.out.size, BW0.out.trans (BW.out.mono BW0.out.size)⟩
end Go.Proofs.YthaampckdcimmaaGreatDoor
