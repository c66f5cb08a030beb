/- The text of a procedure: ProcedureText of the program. -/
import Derived.Test.YteeonojcihcfiaaDoorRows
import Derived.Test.YteeonojcihcfiaaDoorK9GA
import Derived.WalkKit
import Derived.ProofKit
import Derived.OpenShut
import Derived.BigQuiet
import Derived.Outline
import Derived.WalkSpells
import Derived.WalkLawsBesides
import Derived.Deep.DeepCutAuto
import Derived.Test.YteeonojcihcfiaaDoorK9DP1
import Derived.Test.YteeonojcihcfiaaDoorK9DNJ
import Derived.Test.YteeonojcihcfiaaDoorK9DN7
import Derived.Test.YteeonojcihcfiaaDoorK9D1
import Derived.Deep.AppendLies
namespace Go.Proofs.YteeonojcihcfiaaDoor
open Go.ChangeShapes Go.WideShapes Go.ChangeAt Go.RowKit

theorem own_cap {w : World} {base : Nat} {e : TypeId} {size n d : Nat} {A : Option Addr} {xs : List Value} (h : w.ownsRow base e size (.slice A n d) n xs) : n ≤ d := by
  rcases h.2 with ⟨h1, _⟩ | ⟨g, cap, cur, h1, _, _, h2, _⟩
  · injection h1; omega
  · injection h1 with _ _ h3; omega
theorem implDecI_any (i : Int) (h0 : 0 ≤ i) (h1 : i ≤ 9223372036854775807) (w : World) (ht : Tab w) :
    Calls Tryd.prog 23 #[.int .i64 i] w fun e w' => e = .returned (.string (decN i.toNat)) ∧ Below w.heap.size w w' := by
  have h := implDecN_any i (by omega) h1 w ht
  rwa [show itoN i = decN i.toNat by rw [← itoN_nat, show ((i.toNat : Nat) : Int) = i by omega]] at h
set_option maxRecDepth 100000 in
set_option maxHeartbeats 2000000 in
theorem implPT_any (xs : List Stp) (hm : xs.length ≤ 9223372036854775807) (A : Option Addr) (c : Nat) (w : World) (hr : Reads w w.heap.size 2 A xs.length (stC xs)) (ht : Tab w) :
    Calls Tryd.prog 9 #[.slice A xs.length c] w fun e w' => e = .returned (.tuple #[.string (ptV xs).1, .int .i64 (ptV xs).2]) ∧ Below w.heap.size w w' := by
  have mixed : Tryd.prog.follows Departure.mixedOrders = true := by kernel_rfl
  obtain ⟨i0, hi0, hz0, hz1, hz2⟩ := info_parts infoTx1
  have HR := Lib.hid hr; clear hr
  have HTab := Lib.hid ht; clear ht
  have HV := Lib.hid (show ptV xs = if isProc xs = true then (textP xs, 0) else (⟨#[]⟩, 1) from rfl)
  have CI := Lib.hid (implIs_law xs A c w HR.out hm)
  have HP := Lib.hid (fun (h : isProc xs = true) => (⟨isProc_12 h, isProc_in h⟩ : xs.length ≤ 12 ∧ ∀ x ∈ xs, InR x))
  have HT0 := Lib.hid (show textP xs = if xs = [] then ⟨#[45]⟩ else joinB (xs.map stepT) from rfl)
  generalize ptV xs = r at HV ⊢
  generalize isProc xs = ci at CI HV HP
  generalize textP xs = tx at HV HT0
  cases ci
  · go_enter Tryd.func9, Tryd.ntmps9
    go_wp2_with fail
    refine CI.out.mono ?_; rintro e w1 ⟨rfl, b1⟩
    have B1 := Lib.hid b1; clear b1
    go_wp2_with fail
    go_ret2
    exact ⟨by rw [HV.out]; rfl, B1.out⟩
  obtain ⟨h12, hin0⟩ := HP.out (by first | trivial | rfl)
  have HIn := Lib.hid hin0; clear hin0 HP
  by_cases hx : xs = []
  · have hb : ((xs.length : Int) == 0) = true := by rw [hx]; rfl
    have HT1 := Lib.hid (HT0.out.trans (if_pos hx))
    clear hx
    go_enter Tryd.func9, Tryd.ntmps9
    go_wp2_with fail
    refine CI.out.mono ?_; rintro e w1 ⟨rfl, b1⟩
    have B1 := Lib.hid b1; clear b1
    go_wp2_with fail
    go_ret2
    exact ⟨by rw [HV.out, HT1.out]; rfl, B1.out⟩
  have hl0 : 0 < xs.length := List.length_pos_iff.2 hx
  have hb : ((xs.length : Int) == 0) = false := by rw [beq_eq_false_iff_ne]; omega
  have HT1 := Lib.hid (HT0.out.trans (if_neg hx))
  clear hx HT0
  go_enter Tryd.func9, Tryd.ntmps9
  go_wp2_with fail
  refine CI.out.mono ?_; rintro e w1 ⟨rfl, b1⟩
  have B1 := Lib.hid b1; clear b1
  go_wp2_with fail
  go_loopw [4, 15] (fun v4 v15 wr => ∃ (k : Nat) (Bq : Option Addr) (dq : Nat), k ≤ xs.length ∧ v4 = .slice Bq k dq ∧ Hid (wr.ownsRow w1.heap.size 9 1 (.slice Bq k dq) k (txC ((xs.take k).map stepT))) ∧ Hid (Below w1.heap.size w1 wr) ∧ v15 = .int .i64 (k : Int)) (fun _ i _ => xs.length - (intOf i).toNat)
  case atStart => exact ⟨0, none, 0, by omega, rfl, World.ownsRow_nil _ _ _ _, Below.refl _ _, rfl⟩
  case round =>
    obtain ⟨k, Bq, dq, hk, rfl, HO, BW, rfl⟩ := hrel
    have BB := Lib.hid (B1.out.trans (BW.out.mono B1.out.size))
    by_cases hlt : k < xs.length
    · obtain ⟨ab, ao, rfl, hadb, hcell⟩ := (HR.out.below BB.out).2 (by omega)
      obtain ⟨e0, e1⟩ := stC_get xs k hlt
      have c0 := hcell _ _ e0
      have c1 := hcell _ _ e1
      rw [← Nat.add_assoc] at c1
      clear hcell e0 e1
      have HTk := Lib.hid (List.take_succ_eq_append_getElem hlt)
      have hin := HIn.out xs[k] (List.getElem_mem hlt)
      generalize xs[k] = x at c0 c1 HTk hin
      obtain ⟨x1, x2, x3, x4⟩ := hin
      have HD := Lib.hid (implDecI_any x.1 x1 (by omega))
      have HK := Lib.hid (implDecI_any x.2 x3 (by omega))
      have sD := (decN_le (i := x.1.toNat) (by omega)).2
      have sK := (decN_le (i := x.2.toNat) (by omega)).2
      have HST' := Lib.hid (show stepT x = decN x.2.toNat ++ ⟨#[64]⟩ ++ decN x.1.toNat from rfl)
      obtain ⟨day, kind⟩ := x
      dsimp only at c0 c1 HD HK sD sK HST' x1 x2 x3 x4
      generalize decN day.toNat = D at HD sD HST'
      generalize decN kind.toNat = K0 at HK sK HST'
      have z1 : ¬ 9223372036854775807 < K0.size + 1 := by omega
      have z2 : ¬ 9223372036854775807 < K0.size + 1 + D.size := by omega
      have k0 : (0 : Int) ≤ (k : Int) := by omega
      have k1 : (k : Int) < (xs.length : Int) := by omega
      have KN := Lib.hid (blks_one wr 41 #[.int .i64 day, .int .i64 kind])
      go_upto_region 9 with (fail)
      generalize hW : wr.alloc (.cells #[.int .i64 day, .int .i64 kind] 41) = W
      obtain ⟨kb, bw, hsz⟩ := KN.out W hW.symm
      clear hW hsz c0 c1
      have KB := Lib.hid kb
      have HO1 := Lib.hid (own_below HO.out bw)
      have BW1 := Lib.hid (BW.out.trans (bw.mono BW.out.size))
      have TW := Lib.hid (HTab.out.below (BB.out.trans (bw.mono BB.out.size)))
      clear kb bw
      refine' wp_region_keep (OverW W) KeepW [isV (.slice Bq k dq), isV (.pointer (some ⟨wr.heap.size, 1, none⟩)), isV (.int .i64 kind), isV (.string K0), isV (.string (K0 ++ ⟨#[64]⟩)), isV (.pointer (some ⟨wr.heap.size, 0, none⟩)), isV (.int .i64 day), isV (.string D), isV (.string (K0 ++ ⟨#[64]⟩ ++ D)), isNewRow W 9 #[.string (K0 ++ ⟨#[64]⟩ ++ D)]] mixed (by kernel_rfl) (OverW.drew (Below.refl _ _)) ?_ _ _ _ ?_ ?_ ?_
      · exact AllStable.cons (keep_V _) (AllStable.cons (keep_V _) (AllStable.cons (keep_V _) (AllStable.cons (keep_V _) (AllStable.cons (keep_V _) (AllStable.cons (keep_V _) (AllStable.cons (keep_V _) (AllStable.cons (keep_V _) (AllStable.cons (keep_V _) (AllStable.cons (keep_row _ _ _) (AllStable.nil))))))))))
      rotate_left 3
      · intro f; simp only [List.length_cons, List.length_nil, Nat.reduceAdd, List.take_succ_cons, List.take_zero, lay, List.setIfInBounds_toArray, List.set_cons_succ, List.set_cons_zero, Nat.reduceAdd]; exact rfl
      · refine AllUpto.of 10 ?_ ?_ (by kernel_rfl) (by kernel_rfl)
        rotate_left
        · simp only [List.drop_succ_cons, List.drop_zero]; exact rfl
        simp only [List.take_succ_cons, List.take_zero]
        refine AllSteps.cons ?_ ?_
        · intro f v hS hT K hK
          simp only [Act.put, List.setIfInBounds_toArray, List.set_cons_succ, List.set_cons_zero] at hK
          go_simp
          exact hK.out _ _ rfl hS (keep_refl _)
        refine AllSteps.cons ?_ ?_
        · intro f v hS hT K hK
          simp only [Act.put, List.setIfInBounds_toArray, List.set_cons_succ, List.set_cons_zero] at hK
          go_simp
          exact hK.out _ _ rfl hS (keep_refl _)
        refine AllSteps.cons ?_ ?_
        · intro f v hS hT K hK
          have e1 := hT 1 _ rfl rfl
          dsimp only [isV] at e1
          have hc : v.cell? ⟨wr.heap.size, 1, none⟩ = some (.int .i64 kind) := by rw [(KB.out.below hS KB.out.lt).cell]; rfl
          simp only [Act.put, List.setIfInBounds_toArray, List.set_cons_succ, List.set_cons_zero, e1] at hK
          go_simp
          exact hK.out _ _ rfl hS (keep_refl _)
        refine AllSteps.cons ?_ ?_
        · intro f v hS hT K hK
          have e2 := hT 2 _ rfl rfl
          dsimp only [isV] at e2
          simp only [Act.put, List.setIfInBounds_toArray, List.set_cons_succ, List.set_cons_zero, e2] at hK
          go_simp
          refine (HK.out v (TW.out.below hS)).mono ?_
          rintro e w1 ⟨rfl, b1⟩
          exact hK.out _ _ rfl (hS.go b1) b1
        refine AllSteps.cons ?_ ?_
        · intro f v hS hT K hK
          have e3 := hT 3 _ rfl rfl
          dsimp only [isV] at e3
          simp only [Act.put, List.setIfInBounds_toArray, List.set_cons_succ, List.set_cons_zero, e3] at hK
          go_simp
          exact hK.out _ _ rfl hS (keep_refl _)
        refine AllSteps.cons ?_ ?_
        · intro f v hS hT K hK
          simp only [Act.put, List.setIfInBounds_toArray, List.set_cons_succ, List.set_cons_zero] at hK
          go_simp
          exact hK.out _ _ rfl hS (keep_refl _)
        refine AllSteps.cons ?_ ?_
        · intro f v hS hT K hK
          have e5 := hT 5 _ rfl rfl
          dsimp only [isV] at e5
          have hc : v.cell? ⟨wr.heap.size, 0, none⟩ = some (.int .i64 day) := by rw [(KB.out.below hS KB.out.lt).cell]; rfl
          simp only [Act.put, List.setIfInBounds_toArray, List.set_cons_succ, List.set_cons_zero, e5] at hK
          go_simp
          exact hK.out _ _ rfl hS (keep_refl _)
        refine AllSteps.cons ?_ ?_
        · intro f v hS hT K hK
          have e6 := hT 6 _ rfl rfl
          dsimp only [isV] at e6
          simp only [Act.put, List.setIfInBounds_toArray, List.set_cons_succ, List.set_cons_zero, e6] at hK
          go_simp
          refine (HD.out v (TW.out.below hS)).mono ?_
          rintro e w1 ⟨rfl, b1⟩
          exact hK.out _ _ rfl (hS.go b1) b1
        refine AllSteps.cons ?_ ?_
        · intro f v hS hT K hK
          have e4 := hT 4 _ rfl rfl
          dsimp only [isV] at e4
          have e7 := hT 7 _ rfl rfl
          dsimp only [isV] at e7
          simp only [Act.put, List.setIfInBounds_toArray, List.set_cons_succ, List.set_cons_zero, e4, e7] at hK
          go_simp
          exact hK.out _ _ rfl hS (keep_refl _)
        refine AllSteps.cons ?_ ?_
        · intro f v hS hT K hK
          have e8 := hT 8 _ rfl rfl
          dsimp only [isV] at e8
          simp only [Act.put, List.setIfInBounds_toArray, List.set_cons_succ, List.set_cons_zero, e8] at hK
          go_simp
          exact hK.out _ _ ⟨v.heap.size, rfl, hS.size, Blk.new _ _ _⟩ (hS.new _) (keep_new _ _)
        exact AllSteps.nil
      · intro f v hS hT
        have e12 := hT 0 _ rfl
        obtain ⟨rb, e27, hrb, hkb⟩ := hT 9 _ rfl
        dsimp only [isV] at e12
        rw [e12, e27]
        clear e12 e27 hT
        have O2 := Lib.hid (own_below HO1.out hS)
        have B2 := Lib.hid (BW1.out.trans (hS.mono BW1.out.size))
        have hrl := hkb.lt
        have hwz := BW1.out.size
        go_wp2_with (at_builtin; refine wpList_append_any _ rfl (.tmp 19) (.tmp 28) _ rfl w1.heap.size 9 i0 _ 1 16 Tryd.underlying44 hi0 hz0 hz1 hz2 rfl (by omega) (.slice Bq k dq) k (txC ((xs.take k).map stepT)) rfl O2.out _ (some ⟨rb, 0, none⟩) 1 1 [.string (K0 ++ ⟨#[64]⟩ ++ D)] rfl (blk_rd (n := 1) (size := 1) hkb rfl) (by simp [Value.oneCell']) (by simp only [maxLen]; omega) (by omega) (by have := hS.size; have := BW1.out.size; (try simp); omega) ?_; intro v9 w9 hown9 hg9 hat9; obtain ⟨B9, d9, rfl, _⟩ := own_shape hown9)
        have B9' := Lib.hid (below_own B2.out O2.out hg9 (Nat.le_refl _) (by have := B2.out.size; omega))
        have O9 := Lib.hid (show w9.ownsRow w1.heap.size 9 1 (.slice B9 (k + 1) d9) (k + 1) (txC ((xs.take (k + 1)).map stepT)) by rw [HTk.out, List.map_append, List.map_cons, List.map_nil, txs_snoc]; rw [show stepT (day, kind) = K0 ++ ⟨#[64]⟩ ++ D from HST'.out]; simpa using hown9)
        clear hown9 hg9 hat9
        go_roundw
        case rel => exact ⟨k + 1, B9, d9, by omega, rfl, O9.out, B9'.out, by go_num⟩
        case measure => simp [intOf]; omega
    · obtain rfl : k = xs.length := by omega
      have HO2 := HO.out
      rw [List.take_length] at HO2
      obtain ⟨ab, ao, hA, _, _⟩ := (Reads.of_own HO2).2 (by omega)
      subst hA
      have hcap := own_cap HO2
      have HW := Lib.hid (join_any (xs.map stepT) (fun s hs => by
        rw [List.mem_map] at hs
        obtain ⟨p, hp, rfl⟩ := hs
        exact stepT_size (HIn.out p hp)) (by rw [List.length_map]; omega) ab ao dq (by rw [List.length_map]; exact hcap) (by intro e; have h1 := congrArg List.length e; rw [List.length_map] at h1; have h2 : xs.length = 0 := h1; omega) wr (by rw [List.length_map]; exact Reads.of_own HO2))
      rw [List.length_map] at HW
      clear HO HO2
      go_wp2_with fail
      refine HW.out.mono ?_; rintro e w2 ⟨rfl, b2⟩
      go_wp2_with fail
      go_ret2
      exact ⟨by rw [HV.out, HT1.out]; rfl, BB.out.trans (b2.mono BB.out.size)⟩
end Go.Proofs.YteeonojcihcfiaaDoor
