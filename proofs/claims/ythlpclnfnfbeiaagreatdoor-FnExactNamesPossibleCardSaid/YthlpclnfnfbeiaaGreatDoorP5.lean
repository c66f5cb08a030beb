/- NamesPossible of the reference. -/
import Derived.Test.YthlpclnfnfbeiaaGreatDoorRows
import Derived.Test.YthlpclnfnfbeiaaGreatDoorL0
import Derived.Test.YthlpclnfnfbeiaaGreatDoorM0
import Derived.WalkKit
import Derived.ProofKit
import Derived.OpenShut
import Derived.BigQuiet
import Derived.Outline
import Derived.WalkSpells
import Derived.WalkLawsBesides
import Derived.Deep.DeepCutAuto
import Derived.Test.YthlpclnfnfbeiaaGreatDoorP2
import Derived.Test.YthlpclnfnfbeiaaGreatDoorP4
import Derived.Test.YthlpclnfnfbeiaaGreatDoorPB
import Derived.Lib.QuietBelow
import Derived.Deep.QuietTactic
namespace Go.Proofs.YthlpclnfnfbeiaaGreatDoor
open Go.ChangeShapes Go.WideShapes Go.ChangeAt Go.RowKit Go.Sort

def nmF (p : ByteArray) (y : Int) (c : Clm) : Fct := ⟨0, p, c.val_, y⟩
def nmB (xs : List Clm) (p : ByteArray) (y : Int) (c : Clm) : Bool := telB c (nmF p y c) && (allD xs xs.length 0 []).any (told xs (nmF p y c))
def nmV (xs : List Clm) (p : ByteArray) (y : Int) (k : Nat) : List (List UInt8) := ((xs.take k).filter (nmB xs p y)).map fun c => c.val_.toList
def nmL (xs : List Clm) (p : ByteArray) (y : Int) : List (List UInt8) := if codeN xs p y = 0 then (nmV xs p y xs.length).foldl insS [] else []
theorem nmV_at {xs : List Clm} {p : ByteArray} {y : Int} {k : Nat} (h : k < xs.length) : nmV xs p y (k + 1) = if nmB xs p y xs[k] = true then nmV xs p y k ++ [xs[k].val_.toList] else nmV xs p y k := by
  unfold nmV
  rw [List.take_succ_eq_append_getElem h, List.filter_append, List.map_append]
  cases hq : nmB xs p y xs[k] <;> simp [hq]
theorem nmV_len (xs : List Clm) (p : ByteArray) (y : Int) (k : Nat) : (nmV xs p y k).length ≤ k := by
  unfold nmV
  rw [List.length_map]
  have h1 := List.length_filter_le (nmB xs p y) (xs.take k)
  rw [List.length_take] at h1
  omega
theorem insS_len (s : List UInt8) : ∀ L, 0 < (insS L s).length ∧ (insS L s).length ≤ L.length + 1
  | [] => by simp [insS]
  | a :: r => by
    rw [insS]
    have ih := insS_len s r
    split
    · simp; omega
    · split <;> simp
theorem fine_ofN {xs : List Clm} {p : ByteArray} {y : Int} (h : codeN xs p y = 0) (hn : ∀ b ∈ xs, b.Ok) : Fine xs ∧ xs.length ≤ 12 := by
  have h2 := codeN_fine h
  unfold areC at h2
  rw [Bool.and_eq_true, List.all_eq_true, decide_eq_true_eq] at h2
  exact ⟨⟨h2.1, by omega, hn⟩, by omega⟩
set_option maxRecDepth 100000 in
set_option maxHeartbeats 4000000 in
theorem specNm_any (xs : List Clm) (p : ByteArray) (y : Int) (hs : ∀ b ∈ xs, b.src.size ≤ 1048576 ∧ b.place.size ≤ 1048576 ∧ b.val_.size ≤ 1048576) (hp : p.size ≤ 1048576) (A : Option Addr) (c : Nat) (w : World) (h : HasClm w xs A) :
    Calls Tryz.prog 30 #[.slice A xs.length c, .string p, .int .i64 y] w fun e w' => ∃ v, e = .returned (.tuple #[v, .int .i64 (codeN xs p y)]) ∧ w'.ownsRow w.heap.size 9 1 v (nmL xs p y).length ((nmL xs p y).map encStr) ∧ Below w.heap.size w w' := by
  have HC := Lib.hid (fun W (hB : Below w.heap.size w W) => specCodeN_any xs p y hs hp A c W (h.below hB))
  have H := Lib.hid h; clear h hs hp
  rcases codeN_012 xs p y with hc | hc
  rotate_left
  · rcases hc with hc | hc
    all_goals
      have HLn := Lib.hid (show nmL xs p y = [] by unfold nmL; rw [hc]; rfl)
      rw [hc] at HC ⊢
      clear hc
      rw [HLn.out]
      go_enter Tryz.func30, Tryz.ntmps30
      go_wp2_with fail
      refine (HC.out w (Below.refl _ _)).mono ?_; rintro e w1 ⟨rfl, b1⟩
      go_wp2_with fail
      go_ret2
      first | exact ⟨World.ownsRow_nil _ _ _ _, b1⟩ | exact ⟨_, World.ownsRow_nil _ _ _ _, b1⟩ | exact ⟨_, rfl, World.ownsRow_nil _ _ _ _, b1⟩
  · obtain ⟨hf, h12⟩ := fine_ofN hc H.out.2.2
    have HLn := Lib.hid (show nmL xs p y = (nmV xs p y xs.length).foldl insS [] by unfold nmL; rw [if_pos hc])
    have HCn := Lib.hid (fun f W (hB : Below w.heap.size w W) => specCnt_any xs hf h12 f A c W (H.out.below hB))
    have HCb := Lib.hid (fun f => And.intro (Nat.le_trans (List.length_filter_le (told xs f) (allD xs xs.length 0 [])) (allD_count h12)) (count_any (allD xs xs.length 0 []) (told xs f)))
    have HT := Lib.hid (fun (a : Clm) => specTel_any a (nmF p y a))
    unfold Clm.val Fct.val nmF at HT
    rw [hc] at HC ⊢
    clear hc hf
    generalize nmL xs p y = LR at HLn ⊢
    go_enter Tryz.func30, Tryz.ntmps30
    go_wp2_with fail
    refine (HC.out w (Below.refl _ _)).mono ?_; rintro e w1 ⟨rfl, b1⟩
    have B1 := Lib.hid b1; clear b1 HC
    have OW := Lib.hid (made_a w1 9)
    have BW1 := Lib.hid (B1.out.alloc B1.out.size (.cells #[] 9))
    go_wp2_with fail
    go_loopw [9, 10] (fun v9 v10 wr => ∃ (k n g d : Nat), k ≤ xs.length ∧ n ≤ k ∧ Hid (((nmV xs p y k).foldl insS []).length = n) ∧ v9 = .slice (some ⟨g, 0, none⟩) n d ∧ Hid (wr.ownsRow w.heap.size 9 1 (.slice (some ⟨g, 0, none⟩) n d) n (((nmV xs p y k).foldl insS []).map encStr)) ∧ Hid (Below w.heap.size w wr) ∧ v10 = .int .i64 k) (fun _ i _ => xs.length - (intOf i).toNat)
    case atStart => exact ⟨0, 0, _, 0, by omega, by omega, rfl, rfl, own_mono OW.out B1.out.size, BW1.out, rfl⟩
    case round =>
      clear OW BW1 B1
      obtain ⟨k, n, g, d, hk, hnk, HN, rfl, HO, BW, rfl⟩ := hrel
      by_cases hlt : k < xs.length
      · skip
        obtain ⟨ab, ao, rfl, hadb, hcell⟩ := (H.out.below BW.out).1.2 (by omega)
        obtain ⟨e0, e1, e2, e3, e4, e5, e6⟩ := clC_get xs k hlt
        have c0 := hcell _ _ e0
        have c1 := hcell _ _ e1
        have c2 := hcell _ _ e2
        have c3 := hcell _ _ e3
        have c4 := hcell _ _ e4
        have c5 := hcell _ _ e5
        have c6 := hcell _ _ e6
        rw [← Nat.add_assoc] at c1 c2 c3 c4 c5 c6
        clear hcell e0 e1 e2 e3 e4 e5 e6
        have HSt := Lib.hid (nmV_at (xs := xs) (p := p) (y := y) hlt)
        have HT1 := Lib.hid (HT.out xs[k])
        have HCn1 := Lib.hid (fun W hB => HCn.out (nmF p y xs[k]) W hB)
        have HNb := Lib.hid (show nmB xs p y xs[k] = (telB xs[k] (nmF p y xs[k]) && (allD xs xs.length 0 []).any (told xs (nmF p y xs[k]))) from rfl)
        generalize xs[k] = b at c0 c1 c2 c3 c4 c5 c6 HSt HT1 HCn1 HNb
        have HIn := Lib.hid (fun hl g d base W => insert_any ((nmV xs p y k).foldl insS []) b.val_ hl g d base W)
        have HIl := Lib.hid (insS_len b.val_.toList ((nmV xs p y k).foldl insS []))
        have HFo := Lib.hid (show (nmV xs p y k ++ [b.val_.toList]).foldl insS [] = insS ((nmV xs p y k).foldl insS []) b.val_.toList by rw [List.foldl_append]; rfl)
        have HNx := Lib.hid (show nmB xs p y b = false → (nmV xs p y (k + 1)).foldl insS [] = (nmV xs p y k).foldl insS [] from fun e => by rw [HSt.out, e]; rfl)
        have HNy := Lib.hid (show nmB xs p y b = true → (nmV xs p y (k + 1)).foldl insS [] = insS ((nmV xs p y k).foldl insS []) b.val_.toList from fun e => by rw [HSt.out, e, if_pos rfl, HFo.out])
        have HCb1 := HCb.out (nmF p y b)
        have HN' := HN.out
        generalize hS2 : (nmV xs p y (k + 1)).foldl insS [] = S2 at HNx HNy
        have HE2 := Lib.hid hS2; clear hS2
        generalize (nmV xs p y k).foldl insS [] = S1 at *
        rw [HN'] at HIn HIl
        clear HN' HSt HFo
        obtain ⟨hcb1, hcb2⟩ := HCb1
        rw [← hcb2] at HNb
        clear hcb2
        generalize (List.filter (told xs (nmF p y b)) (allD xs xs.length 0 [])).length = cnt at *
        generalize (allD xs xs.length 0 []).length = tot at *
        generalize nmB xs p y b = qn at *
        have hnm : telB b (nmF p y b) = telB b ⟨0, p, b.val_, y⟩ := rfl
        have KN := Lib.hid (blks_one wr 31 #[.int .i64 0, .string p, .string b.val_, .int .i64 y])
        go_upto_region 9 with (fail)
        generalize hW : wr.alloc (.cells #[.int .i64 0, .string p, .string b.val_, .int .i64 y] 31) = W
        obtain ⟨kf, bw, _⟩ := KN.out W hW.symm
        clear hW
        have k0 := cell_regrown ((bw.cell (p := ⟨ab, ao + k * 7, none⟩) hadb).trans c0)
        have k1 := cell_regrown ((bw.cell (p := ⟨ab, ao + k * 7 + 1, none⟩) hadb).trans c1)
        have k2 := cell_regrown ((bw.cell (p := ⟨ab, ao + k * 7 + 2, none⟩) hadb).trans c2)
        have k3 := cell_regrown ((bw.cell (p := ⟨ab, ao + k * 7 + 3, none⟩) hadb).trans c3)
        have k4 := cell_regrown ((bw.cell (p := ⟨ab, ao + k * 7 + 4, none⟩) hadb).trans c4)
        have k5 := cell_regrown ((bw.cell (p := ⟨ab, ao + k * 7 + 5, none⟩) hadb).trans c5)
        have k6 := cell_regrown ((bw.cell (p := ⟨ab, ao + k * 7 + 6, none⟩) hadb).trans c6)
        obtain ⟨x0, x1, x2, x3⟩ := seven_regrown kf
        have c3w := (bw.cell (p := ⟨ab, ao + k * 7 + 3, none⟩) hadb).trans c3
        have HC3 := Lib.hid c3w
        have KF := Lib.hid kf; have BF := Lib.hid bw
        have O1 := Lib.hid (own_below HO.out bw)
        have hab2 : ab < W.heap.size := by have := bw.size; omega
        clear c0 c1 c2 c3 c3w kf bw c4 c5 c6
        have r1 : ∀ d os, Calls Tryz.prog 65 #[.agg #[.string b.src, .int .i64 b.kind, .string b.place, .string b.val_, .int .i64 b.lo, .int .i64 b.hi, .int .i64 b.weight], .agg #[.int .i64 0, .string p, .string b.val_, .int .i64 y]] (grow (redrawn W d) os) (fun e w'' => e = .returned (.bool (telB b (nmF p y b))) ∧ ∃ p : Regrown, w'' = grow (redrawn W p.d) p.os) := fun d os => Calls.regrown_of (HT1.out _)
        cases q1 : telB b (nmF p y b)
        all_goals rw [q1] at r1 HNb
        · have HS := Lib.hid (HNx.out (by rw [HNb.out]; rfl))
          clear q1
          refine wp_region_quiet_below (by kernel_rfl) (by kernel_rfl) ?_; (repeat (first | go_big_quiet_step ((first | with_reducible exact r1 _ _)))); refine wpQuiet_nil ?_; intro _ hw'; obtain ⟨⟨dq, osq⟩, rfl⟩ := hw'
          have O2 := Lib.hid (own_below O1.out (below_regrown W dq osq))
          have B2 := Lib.hid (BW.out.trans ((BF.out.trans ((below_regrown W dq osq).mono BF.out.size)).mono BW.out.size))
          generalize grow (redrawn W dq) osq = w2 at O2 B2 ⊢
          clear r1 k0 k1 k2 k3 k4 k5 k6 x0 x1 x2 x3
          go_wp2_with fail
          go_roundw
          case rel => exact ⟨k + 1, n, g, d, by omega, by omega, by rw [HE2.out, HS.out]; exact HN.out, rfl, by rw [HE2.out, HS.out]; exact O2.out, B2.out, by go_num⟩
          case measure => simp [intOf]; omega
        · clear q1
          refine wp_region_quiet_below (by kernel_rfl) (by kernel_rfl) ?_; (repeat (first | go_big_quiet_step ((first | with_reducible exact r1 _ _)))); refine wpQuiet_nil ?_; intro _ hw'; obtain ⟨⟨dq, osq⟩, rfl⟩ := hw'
          have O2 := Lib.hid (own_below O1.out (below_regrown W dq osq))
          have BW2 := Lib.hid (BF.out.trans ((below_regrown W dq osq).mono BF.out.size))
          have B2 := Lib.hid (BW.out.trans (BW2.out.mono BW.out.size))
          have KF2 := Lib.hid (KF.out.below (below_regrown W dq osq) KF.out.lt)
          have c3b := ((below_regrown W dq osq).cell (p := ⟨ab, ao + k * 7 + 3, none⟩) hab2).trans HC3.out
          have hab3 : ab < (grow (redrawn W dq) osq).heap.size := by have := (below_regrown W dq osq).size; omega
          generalize grow (redrawn W dq) osq = w2 at O2 B2 BW2 KF2 c3b hab3 ⊢
          clear r1 k0 k1 k2 k3 k4 k5 k6 x0 x1 x2 x3
          obtain ⟨z0, z1, z2, z3⟩ := cells_4 KF2.out
          have HCx := Lib.hid (HCn1.out w2 B2.out)
          unfold Fct.val nmF at HCx
          have HC3 := Lib.hid c3b; clear c3b
          go_wp2_with fail
          refine HCx.out.mono ?_; rintro e w3 ⟨rfl, b3⟩
          have B3 := Lib.hid (B2.out.trans (b3.mono B2.out.size))
          have O3 := Lib.hid (own_below O2.out b3)
          have c3d := (b3.cell (p := ⟨ab, ao + k * 7 + 3, none⟩) hab3).trans HC3.out
          clear b3 z0 z1 z2 z3
          by_cases hpos : 0 < cnt
          · have HS := Lib.hid (HNy.out (by rw [HNb.out]; simp [hpos]))
            have hpi : (0 : Int) < (cnt : Int) := by omega
            have HIx := Lib.hid (HIn.out (by omega) g d w.heap.size w3 B3.out.size O3.out)
            go_wp2_with fail
            refine HIx.out.mono ?_; rintro e w4 ⟨v4, rfl, o4, b4⟩
            have B4 := Lib.hid (B3.out.trans (b4.mono B3.out.size))
            have hil := HIl.out
            obtain ⟨g4, d4, hv4, _, _⟩ := o4.form hil.1
            subst hv4
            rw [← HS.out] at o4 hil
            obtain ⟨n4, hn4⟩ : ∃ n4, S2.length = n4 := ⟨_, rfl⟩
            rw [← HS.out, hn4]
            rw [hn4] at o4 hil
            have O4 := Lib.hid o4; have HN4 := Lib.hid hn4
            clear b4 o4 hn4
            go_wp2_with fail
            go_roundw
            case rel => exact ⟨k + 1, n4, g4, d4, by omega, by omega, by rw [HE2.out]; exact HN4.out, rfl, by rw [HE2.out]; exact O4.out, B4.out, by go_num⟩
            case measure => simp [intOf]; omega
          · have HS := Lib.hid (HNx.out (by rw [HNb.out]; simp; omega))
            have hpi : ¬ (0 : Int) < (cnt : Int) := by omega
            go_wp2_with fail
            go_roundw
            case rel => exact ⟨k + 1, n, g, d, by omega, by omega, by rw [HE2.out, HS.out]; exact HN.out, rfl, by rw [HE2.out, HS.out]; exact O3.out, B3.out, by go_num⟩
            case measure => simp [intOf]; omega
      · obtain rfl : k = xs.length := by omega
        have HN' := HN.out
        have HR := Lib.hid (show LR.length = n by rw [HLn.out]; exact HN')
        have HO2 := Lib.hid (show wr.ownsRow w.heap.size 9 1 (.slice (some ⟨g, 0, none⟩) n d) n (LR.map encStr) by rw [HLn.out]; exact HO.out)
        clear HN' HO HN HLn
        go_wp2_with fail
        go_ret2
        have HO3 : wr.ownsRow w.heap.size 9 1 (.slice (some ⟨g, 0, none⟩) n d) LR.length (LR.map encStr) := by rw [HR.out]; exact HO2.out
        first | exact ⟨_, rfl, HO3, BW.out⟩ | exact ⟨HO3, BW.out⟩
end Go.Proofs.YthlpclnfnfbeiaaGreatDoor
