/- NamesPossible of the program. -/
import Derived.Test.YthlpclnfnfbeiaaGreatDoorRows
import Derived.Test.YthlpclnfnfbeiaaGreatDoorL0
import Derived.Test.YthlpclnfnfbeiaaGreatDoorM0
import Derived.WalkKit
import Derived.ProofKit
import Derived.OpenShut
import Derived.BigQuiet
import Derived.Outline
import Derived.WalkSpells
import Derived.WalkLawsBesides
import Derived.Deep.DeepCutAuto
import Derived.Test.YthlpclnfnfbeiaaGreatDoorP3
import Derived.Test.YthlpclnfnfbeiaaGreatDoorP5
import Derived.Test.YthlpclnfnfbeiaaGreatDoorPC
import Derived.Test.YthlpclnfnfbeiaaGreatDoorT0
namespace Go.Proofs.YthlpclnfnfbeiaaGreatDoor
open Go.ChangeShapes Go.WideShapes Go.ChangeAt Go.RowKit Go.Sort

set_option maxRecDepth 100000 in
set_option maxHeartbeats 4000000 in
theorem implNm_any (xs : List Clm) (p : ByteArray) (y : Int) (hs : ∀ b ∈ xs, b.src.size ≤ 1048576 ∧ b.place.size ≤ 1048576 ∧ b.val_.size ≤ 1048576) (hp : p.size ≤ 1048576) (A : Option Addr) (c : Nat) (w : World) (h : HasClm w xs A) :
    Calls Tryz.prog 31 #[.slice A xs.length c, .string p, .int .i64 y] w fun e w' => ∃ v, e = .returned (.tuple #[v, .int .i64 (codeN xs p y)]) ∧ w'.ownsRow w.heap.size 9 1 v (nmL xs p y).length ((nmL xs p y).map encStr) ∧ Below w.heap.size w w' := by
  obtain ⟨i0, hi0, hz0, hz1, hz2⟩ := info_parts infoTx
  have HC := Lib.hid (fun W (hB : Below w.heap.size w W) => implCodeN_any xs p y hs hp A c W (h.below hB))
  have H := Lib.hid h; clear h hs hp
  rcases codeN_012 xs p y with hc | hc
  rotate_left
  · rcases hc with hc | hc
    all_goals
      have HLn := Lib.hid (show nmL xs p y = [] by unfold nmL; rw [hc]; rfl)
      rw [hc] at HC ⊢
      clear hc
      rw [HLn.out]
      go_enter Tryz.func31, Tryz.ntmps31
      go_wp2_with fail
      refine (HC.out w (Below.refl _ _)).mono ?_; rintro e w1 ⟨rfl, b1⟩
      go_wp2_with fail
      go_ret2
      first | exact ⟨World.ownsRow_nil _ _ _ _, b1⟩ | exact ⟨_, World.ownsRow_nil _ _ _ _, b1⟩ | exact ⟨_, rfl, World.ownsRow_nil _ _ _ _, b1⟩
  · obtain ⟨hf, h12⟩ := fine_ofN hc H.out.2.2
    have HLn := Lib.hid (show nmL xs p y = (nmV xs p y xs.length).foldl insS [] by unfold nmL; rw [if_pos hc])
    have HVl := Lib.hid (nmV_len xs p y xs.length)
    have HCn := Lib.hid (fun f W (hB : Below w.heap.size w W) => isPossible_any xs hf h12 f A c W (H.out.below hB))
    have HT := Lib.hid (fun (a : Clm) => implTel_any a (nmF p y a))
    unfold Clm.val Fct.val nmF at HT
    rw [hc] at HC ⊢
    clear hc hf
    generalize nmL xs p y = LR at HLn ⊢
    go_enter Tryz.func31, Tryz.ntmps31
    go_wp2_with fail
    refine (HC.out w (Below.refl _ _)).mono ?_; rintro e w1 ⟨rfl, b1⟩
    have B1 := Lib.hid b1; clear b1 HC
    go_wp2_with fail
    go_loopw [9, 22] (fun v9 v22 wr => ∃ (k n : Nat) (B : Option Addr) (d : Nat), k ≤ xs.length ∧ n ≤ k ∧ Hid ((nmV xs p y k).length = n) ∧ v9 = .slice B n d ∧ Hid (wr.ownsRow w.heap.size 9 1 (.slice B n d) n ((nmV xs p y k).map encStr)) ∧ Hid (Below w.heap.size w wr) ∧ v22 = .int .i64 k) (fun _ i _ => xs.length - (intOf i).toNat)
    case atStart => exact ⟨0, 0, none, 0, by omega, by omega, rfl, rfl, World.ownsRow_nil _ _ _ _, B1.out, rfl⟩
    case round =>
      clear B1
      obtain ⟨k, n, B, d, hk, hnk, HN, rfl, HO, BW, rfl⟩ := hrel
      by_cases hlt : k < xs.length
      · skip
        obtain ⟨ab, ao, rfl, hadb, hcell⟩ := (H.out.below BW.out).1.2 (by omega)
        obtain ⟨e0, e1, e2, e3, e4, e5, e6⟩ := clC_get xs k hlt
        have c0 := hcell _ _ e0
        have c1 := hcell _ _ e1
        have c2 := hcell _ _ e2
        have c3 := hcell _ _ e3
        have c4 := hcell _ _ e4
        have c5 := hcell _ _ e5
        have c6 := hcell _ _ e6
        rw [← Nat.add_assoc] at c1 c2 c3 c4 c5 c6
        clear hcell e0 e1 e2 e3 e4 e5 e6
        have HSt := Lib.hid (nmV_at (xs := xs) (p := p) (y := y) hlt)
        have HT1 := Lib.hid (HT.out xs[k])
        have HCn1 := Lib.hid (fun W hB => HCn.out (nmF p y xs[k]) W hB)
        have HNb := Lib.hid (show nmB xs p y xs[k] = (telB xs[k] (nmF p y xs[k]) && (allD xs xs.length 0 []).any (told xs (nmF p y xs[k]))) from rfl)
        generalize xs[k] = b at c0 c1 c2 c3 c4 c5 c6 HSt HT1 HCn1 HNb
        have HNx := Lib.hid (show nmB xs p y b = false → nmV xs p y (k + 1) = nmV xs p y k from fun e => by rw [HSt.out, e]; rfl)
        have HNy := Lib.hid (show nmB xs p y b = true → nmV xs p y (k + 1) = nmV xs p y k ++ [b.val_.toList] from fun e => by rw [HSt.out, e, if_pos rfl])
        generalize hV2 : nmV xs p y (k + 1) = V2 at HNx HNy
        have HE2 := Lib.hid hV2; clear hV2
        generalize nmV xs p y k = V1 at *
        clear HSt
        unfold Fct.val at HCn1
        generalize (allD xs xs.length 0 []).any (told xs (nmF p y b)) = q2 at *
        generalize nmB xs p y b = qn at *
        unfold nmF at HCn1
        have KN := Lib.hid (blks_two wr 66 31 #[.string b.src, .int .i64 b.kind, .string b.place, .string b.val_, .int .i64 b.lo, .int .i64 b.hi, .int .i64 b.weight] #[.int .i64 0, .string p, .string b.val_, .int .i64 y])
        go_upto_region 9 with (fail)
        generalize hW : (wr.alloc (.cells #[.string b.src, .int .i64 b.kind, .string b.place, .string b.val_, .int .i64 b.lo, .int .i64 b.hi, .int .i64 b.weight] 66)).alloc (.cells #[.int .i64 0, .string p, .string b.val_, .int .i64 y] 31) = W
        obtain ⟨kc, kf, bw, _⟩ := KN.out W hW.symm
        clear hW c0 c1 c2 c3 c4 c5 c6 KN
        have x0 : W.cell? ⟨wr.heap.size, 0, none⟩ = some (.string b.src) := by rw [kc.cell]; rfl
        have x1 : W.cell? ⟨wr.heap.size, 1, none⟩ = some (.int .i64 b.kind) := by rw [kc.cell]; rfl
        have x2 : W.cell? ⟨wr.heap.size, 2, none⟩ = some (.string b.place) := by rw [kc.cell]; rfl
        have x3 : W.cell? ⟨wr.heap.size, 3, none⟩ = some (.string b.val_) := by rw [kc.cell]; rfl
        have x4 : W.cell? ⟨wr.heap.size, 4, none⟩ = some (.int .i64 b.lo) := by rw [kc.cell]; rfl
        have x5 : W.cell? ⟨wr.heap.size, 5, none⟩ = some (.int .i64 b.hi) := by rw [kc.cell]; rfl
        have x6 : W.cell? ⟨wr.heap.size, 6, none⟩ = some (.int .i64 b.weight) := by rw [kc.cell]; rfl
        obtain ⟨z0, z1, z2, z3⟩ := cells_4 kf
        have KC := Lib.hid kc; have KF := Lib.hid kf; have BF := Lib.hid bw
        have O1 := Lib.hid (own_below HO.out bw)
        clear kc kf bw
        go_wp2_with fail
        refine (HT1.out _).mono ?_; rintro e w2 ⟨rfl, b2⟩
        have B2 := Lib.hid (BW.out.trans ((BF.out.trans (b2.mono BF.out.size)).mono BW.out.size))
        have O2 := Lib.hid (own_below O1.out b2)
        have KC2 := Lib.hid (KC.out.below b2 KC.out.lt); have KF2 := Lib.hid (KF.out.below b2 KF.out.lt)
        clear b2 x0 x1 x2 x3 x4 x5 x6 z0 z1 z2 z3
        obtain ⟨z0, z1, z2, z3⟩ := cells_4 KF2.out
        have HCx := Lib.hid (HCn1.out w2 B2.out)
        rw [show telB b ⟨0, p, b.val_, y⟩ = telB b (nmF p y b) from rfl]
        generalize telB b (nmF p y b) = q1 at *
        cases q1
        · have HS := Lib.hid (HNx.out (by rw [HNb.out]; rfl))
          go_wp2_with fail
          go_roundw
          case rel => exact ⟨k + 1, n, B, d, by omega, by omega, by rw [HE2.out, HS.out]; exact HN.out, rfl, by rw [HE2.out, HS.out]; exact O2.out, B2.out, by go_num⟩
          case measure => simp [intOf]; omega
        · go_wp2_with fail
          refine HCx.out.mono ?_; rintro e w3 ⟨rfl, b3⟩
          have B3 := Lib.hid (B2.out.trans (b3.mono B2.out.size))
          have O3 := Lib.hid (own_below O2.out b3)
          have KC3 := Lib.hid (KC2.out.below b3 KC2.out.lt)
          have x3 : w3.cell? ⟨wr.heap.size, 3, none⟩ = some (.string b.val_) := by rw [KC3.out.cell]; rfl
          clear b3 z0 z1 z2 z3 HCx
          cases q2
          · have HS := Lib.hid (HNx.out (by rw [HNb.out]; rfl))
            go_wp2_with fail
            go_roundw
            case rel => exact ⟨k + 1, n, B, d, by omega, by omega, by rw [HE2.out, HS.out]; exact HN.out, rfl, by rw [HE2.out, HS.out]; exact O3.out, B3.out, by go_num⟩
            case measure => simp [intOf]; omega
          · have HS := Lib.hid (HNy.out (by rw [HNb.out]; rfl))
            have HE := Lib.hid (enc_bytes b.val_)
            go_wp2_with (at_builtin; refine wpList_append_any _ rfl (.tmp 39) (.tmp 42) _ rfl w.heap.size 9 i0 _ 1 16 Tryz.underlying49 hi0 hz0 hz1 hz2 rfl (by omega) (.slice B n d) n (V1.map encStr) rfl (O3.out.alloc _) _ (some ⟨w3.heap.size, 0, none⟩) 1 1 [.string b.val_] rfl (new_one _ _ _) (by simp [Value.oneCell']) (by simp only [maxLen]; omega) (by omega) (by have := B3.out.size; simp; omega) ?_; intro v4 w4 hown4 hg4 hat4; obtain ⟨B4, d4, rfl, _⟩ := own_shape hown4)
            have B4w := Lib.hid (below_own (B3.out.alloc B3.out.size _) (O3.out.alloc _) hg4 (Nat.le_refl _) (by have := B3.out.size; simp; omega))
            have O4 := Lib.hid (show w4.ownsRow w.heap.size 9 1 (.slice B4 (n + 1) d4) (n + 1) (V2.map encStr) by
              rw [HS.out, List.map_append, List.map_cons, List.map_nil, HE.out]; exact hown4)
            clear hown4 hg4 hat4
            go_roundw
            case rel => exact ⟨k + 1, n + 1, B4, d4, by omega, by omega, by have := HN.out; rw [HE2.out, HS.out]; simp [Hid, this], rfl, by rw [HE2.out]; exact O4.out, B4w.out, by go_num⟩
            case measure => simp [intOf]; omega
      · obtain rfl : k = xs.length := by omega
        have HSo := Lib.hid (fun hl hO => sorted_any (nmV xs p y xs.length) w.heap.size B d wr hl hO)
        rw [← HLn.out, HN.out] at HSo
        have hvl := HVl.out
        have HS2 := Lib.hid (HSo.out (by omega) HO.out)
        clear HSo hvl
        go_wp2_with fail
        refine HS2.out.mono ?_; rintro e w9 ⟨v9, rfl, o9, g9⟩
        have O9 := Lib.hid o9
        have B9 := Lib.hid (BW.out.grown g9 BW.out.size (fun j hj => (own_lt HO.out j hj).1))
        clear o9 g9
        go_wp2_with fail
        go_ret2
        first | exact ⟨_, rfl, O9.out, B9.out⟩ | exact ⟨O9.out, B9.out⟩
def nmT (xs : List Clm) (p : ByteArray) (y : Int) : List ByteArray := (nmL xs p y).map fun l => ⟨l.toArray⟩
theorem txC_bytes (L : List (List UInt8)) : txC (L.map fun l => (⟨l.toArray⟩ : ByteArray)) = L.map encStr := by
  unfold txC
  rw [List.map_map]
  rfl
theorem fold_len (V : List (List UInt8)) : ∀ L, (V.foldl insS L).length ≤ L.length + V.length := by
  induction V with
  | nil => intro L; simp
  | cons a r ih =>
    intro L
    have h1 := ih (insS L a)
    have h2 := (insS_len a L).2
    rw [List.foldl_cons, List.length_cons]
    omega
theorem nmT_len (xs : List Clm) (p : ByteArray) (y : Int) : (nmT xs p y).length ≤ xs.length := by
  unfold nmT
  rw [List.length_map]
  unfold nmL
  split
  · have h1 := fold_len (nmV xs p y xs.length) []
    have h2 := nmV_len xs p y xs.length
    simp only [List.length_nil] at h1
    omega
  · exact Nat.zero_le _
theorem specNmT_any (xs : List Clm) (p : ByteArray) (y : Int) (hs : ∀ b ∈ xs, b.src.size ≤ 1048576 ∧ b.place.size ≤ 1048576 ∧ b.val_.size ≤ 1048576) (hp : p.size ≤ 1048576) (A : Option Addr) (c : Nat) (w : World) (h : HasClm w xs A) :
    Calls Tryz.prog 30 #[.slice A xs.length c, .string p, .int .i64 y] w fun e w' => ∃ v, e = .returned (.tuple #[v, .int .i64 (codeN xs p y)]) ∧ w'.ownsRow w.heap.size 9 1 v (nmT xs p y).length (txC (nmT xs p y)) ∧ Below w.heap.size w w' := by
  unfold nmT
  rw [txC_bytes, List.length_map]
  exact specNm_any xs p y hs hp A c w h
theorem implNmT_any (xs : List Clm) (p : ByteArray) (y : Int) (hs : ∀ b ∈ xs, b.src.size ≤ 1048576 ∧ b.place.size ≤ 1048576 ∧ b.val_.size ≤ 1048576) (hp : p.size ≤ 1048576) (A : Option Addr) (c : Nat) (w : World) (h : HasClm w xs A) :
    Calls Tryz.prog 31 #[.slice A xs.length c, .string p, .int .i64 y] w fun e w' => ∃ v, e = .returned (.tuple #[v, .int .i64 (codeN xs p y)]) ∧ w'.ownsRow w.heap.size 9 1 v (nmT xs p y).length (txC (nmT xs p y)) ∧ Below w.heap.size w w' := by
  unfold nmT
  rw [txC_bytes, List.length_map]
  exact implNm_any xs p y hs hp A c w h
end Go.Proofs.YthlpclnfnfbeiaaGreatDoor
