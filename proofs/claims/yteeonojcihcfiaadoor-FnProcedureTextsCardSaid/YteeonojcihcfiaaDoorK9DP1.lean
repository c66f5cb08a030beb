/- The text of a procedure: l25Text, ProcedureText of the reference. -/
import Derived.Test.YteeonojcihcfiaaDoorRows
import Derived.Test.YteeonojcihcfiaaDoorK9GA
import Derived.WalkKit
import Derived.ProofKit
import Derived.OpenShut
import Derived.BigQuiet
import Derived.Outline
import Derived.WalkSpells
import Derived.WalkLawsBesides
import Derived.Deep.DeepCutAuto
import Derived.Test.YteeonojcihcfiaaDoorK9GB
import Derived.Test.YteeonojcihcfiaaDoorK9RW
import Derived.Test.YteeonojcihcfiaaDoorK9DNW
import Derived.Test.YteeonojcihcfiaaDoorK9DN5
import Derived.Test.YteeonojcihcfiaaDoorK9C2
import Derived.Test.YteeonojcihcfiaaDoorK9MA
import Derived.Test.YteeonojcihcfiaaDoorK9MB
import Derived.Deep.AppendLies
namespace Go.Proofs.YteeonojcihcfiaaDoor
open Go.ChangeShapes Go.WideShapes Go.ChangeAt Go.RowKit

theorem stepT_size {x : Stp} (h : InR x) : (stepT x).size ≤ 300 := by
  obtain ⟨h1, h2, h3, h4⟩ := h
  have a := (decN_le (i := x.2.toNat) (by omega)).2
  have b := (decN_le (i := x.1.toNat) (by omega)).2
  rw [stepT, ByteArray.size_append, ByteArray.size_append, show (ByteArray.mk #[64]).size = 1 from rfl]
  omega
theorem isProc_12 {xs : List Stp} (h : isProc xs = true) : xs.length ≤ 12 := by
  simp only [isProc, Bool.and_eq_true, decide_eq_true_eq] at h
  omega
theorem infoTx1 : (Tryd.prog.info? 9).map (fun i => (i.zero, i.size, i.bytes)) = some (some (.string ByteArray.empty), 1, 16) := by kernel_rfl
theorem txs_snoc (L : List ByteArray) (s : ByteArray) : txC (L ++ [s]) = txC L ++ [.string s] := by simp [txC]
theorem specDecI_any (i : Int) (h0 : 0 ≤ i) (h1 : i ≤ 9223372036854775807) (w : World) :
    Calls Tryd.prog 38 #[.int .i64 i] w fun e w' => e = .returned (.string (decN i.toNat)) ∧ Below w.heap.size w w' := by
  obtain ⟨k, rfl⟩ : ∃ k : Nat, i = k := ⟨i.toNat, by omega⟩
  exact specDec_any k (by omega) w
set_option maxRecDepth 100000 in
set_option maxHeartbeats 2000000 in
theorem specPText_any (xs : List Stp) (hp : isProc xs = true) (A : Option Addr) (c : Nat) (w : World) (hr : Reads w w.heap.size 2 A xs.length (stC xs)) :
    Calls Tryd.prog 21 #[.slice A xs.length c] w fun e w' => e = .returned (.string (textP xs)) ∧ Below w.heap.size w w' := by
  have mixed : Tryd.prog.follows Departure.mixedOrders = true := by kernel_rfl
  obtain ⟨i0, hi0, hz0, hz1, hz2⟩ := info_parts infoTx1
  have h12 := isProc_12 hp
  have HIn := Lib.hid (isProc_in hp); clear hp
  have HR := Lib.hid hr; clear hr
  have OW := Lib.hid (World.ownsRow_made (e := 9) (base := w.heap.size) (size := 1) w #[] 0 (Nat.le_refl _) (by decide) rfl)
  have HT0 := Lib.hid (show textP xs = if xs = [] then ⟨#[45]⟩ else joinB (xs.map stepT) from rfl)
  generalize textP xs = r at HT0 ⊢
  go_enter Tryd.func21, Tryd.ntmps21
  go_wp2_with fail
  go_loopw [3, 4] (fun v3 v4 wr => ∃ (k : Nat) (Bq : Option Addr) (dq : Nat), k ≤ xs.length ∧ v3 = .slice Bq k dq ∧ Hid (wr.ownsRow w.heap.size 9 1 (.slice Bq k dq) k (txC ((xs.take k).map stepT))) ∧ Hid (Below w.heap.size w wr) ∧ v4 = .int .i64 (k : Int)) (fun _ i _ => xs.length - (intOf i).toNat)
  case atStart => exact ⟨0, _, 0, by omega, rfl, OW.out, (Below.refl _ _).alloc (Nat.le_refl _) _, rfl⟩
  case round =>
    clear OW
    obtain ⟨k, Bq, dq, hk, rfl, HO, BW, rfl⟩ := hrel
    by_cases hlt : k < xs.length
    · obtain ⟨ab, ao, rfl, hadb, hcell⟩ := (HR.out.below BW.out).2 (by omega)
      have hadw : ab < wr.heap.size := Nat.lt_of_lt_of_le hadb BW.out.size
      obtain ⟨e0, e1⟩ := stC_get xs k hlt
      have c0 := hcell _ _ e0
      have c1 := hcell _ _ e1
      rw [← Nat.add_assoc] at c1
      clear hcell e0 e1
      have HTk := Lib.hid (List.take_succ_eq_append_getElem hlt)
      have hin := HIn.out xs[k] (List.getElem_mem hlt)
      generalize xs[k] = x at c0 c1 HTk hin
      have hz0' := stepT_size hin
      obtain ⟨x1, x2, x3, x4⟩ := hin
      have HD := Lib.hid (specDecI_any x.1 x1 (by omega))
      have HK := Lib.hid (specDecI_any x.2 x3 (by omega))
      have sD := (decN_le (i := x.1.toNat) (by omega)).2
      have sK := (decN_le (i := x.2.toNat) (by omega)).2
      have HST' := Lib.hid (show stepT x = decN x.2.toNat ++ ⟨#[64]⟩ ++ decN x.1.toNat from rfl)
      obtain ⟨day, kind⟩ := x
      dsimp only at c0 c1 HD HK sD sK HST' x1 x2 x3 x4
      generalize decN day.toNat = D at HD sD HST'
      generalize decN kind.toNat = K0 at HK sK HST'
      have z1 : ¬ 9223372036854775807 < K0.size + 1 := by omega
      have z2 : ¬ 9223372036854775807 < K0.size + 1 + D.size := by omega
      have k0 : (0 : Int) ≤ (k : Int) := by omega
      have k1 : (k : Int) < (xs.length : Int) := by omega
      go_upto_region 5 with (fail)
      refine' wp_region_keep (OverW wr) KeepW [isV (.slice Bq k dq), isV (.slice (some ⟨ab, ao, none⟩) xs.length c), isV (.int .i64 (k : Int)), isV (.pointer (some ⟨ab, ao + k * 2, none⟩)), isV (.pointer (some ⟨ab, ao + k * 2 + 1, none⟩)), isV (.int .i64 kind), isV (.string K0), isV (.string (K0 ++ ⟨#[64]⟩)), isV (.slice (some ⟨ab, ao, none⟩) xs.length c), isV (.int .i64 (k : Int)), isV (.pointer (some ⟨ab, ao + k * 2, none⟩)), isV (.pointer (some ⟨ab, ao + k * 2, none⟩)), isV (.int .i64 day), isV (.string D), isV (.string (K0 ++ ⟨#[64]⟩ ++ D)), isNewRow wr 9 #[.string (K0 ++ ⟨#[64]⟩ ++ D)]] mixed (by kernel_rfl) (OverW.drew (Below.refl _ _)) ?_ _ _ _ ?_ ?_ ?_
      · exact AllStable.cons (keep_V _) (AllStable.cons (keep_V _) (AllStable.cons (keep_V _) (AllStable.cons (keep_V _) (AllStable.cons (keep_V _) (AllStable.cons (keep_V _) (AllStable.cons (keep_V _) (AllStable.cons (keep_V _) (AllStable.cons (keep_V _) (AllStable.cons (keep_V _) (AllStable.cons (keep_V _) (AllStable.cons (keep_V _) (AllStable.cons (keep_V _) (AllStable.cons (keep_V _) (AllStable.cons (keep_V _) (AllStable.cons (keep_row _ _ _) (AllStable.nil))))))))))))))))
      rotate_left 3
      · intro f; simp only [List.length_cons, List.length_nil, Nat.reduceAdd, List.take_succ_cons, List.take_zero, lay, List.setIfInBounds_toArray, List.set_cons_succ, List.set_cons_zero, Nat.reduceAdd]; exact rfl
      · refine AllUpto.of 16 ?_ ?_ (by kernel_rfl) (by kernel_rfl)
        rotate_left
        · simp only [List.drop_succ_cons, List.drop_zero]; exact rfl
        simp only [List.take_succ_cons, List.take_zero]
        refine AllSteps.cons ?_ ?_
        · intro f v hS hT K hK
          simp only [Act.put, List.setIfInBounds_toArray, List.set_cons_succ, List.set_cons_zero] at hK
          go_simp
          exact hK.out _ _ rfl hS (keep_refl _)
        refine AllSteps.cons ?_ ?_
        · intro f v hS hT K hK
          simp only [Act.put, List.setIfInBounds_toArray, List.set_cons_succ, List.set_cons_zero] at hK
          go_simp
          exact hK.out _ _ rfl hS (keep_refl _)
        refine AllSteps.cons ?_ ?_
        · intro f v hS hT K hK
          simp only [Act.put, List.setIfInBounds_toArray, List.set_cons_succ, List.set_cons_zero] at hK
          go_simp
          exact hK.out _ _ rfl hS (keep_refl _)
        refine AllSteps.cons ?_ ?_
        · intro f v hS hT K hK
          have e1 := hT 1 _ rfl rfl
          dsimp only [isV] at e1
          have e2 := hT 2 _ rfl rfl
          dsimp only [isV] at e2
          simp only [Act.put, List.setIfInBounds_toArray, List.set_cons_succ, List.set_cons_zero, e1, e2] at hK
          go_simp
          exact hK.out _ _ rfl hS (keep_refl _)
        refine AllSteps.cons ?_ ?_
        · intro f v hS hT K hK
          have e3 := hT 3 _ rfl rfl
          dsimp only [isV] at e3
          simp only [Act.put, List.setIfInBounds_toArray, List.set_cons_succ, List.set_cons_zero, e3] at hK
          go_simp
          exact hK.out _ _ rfl hS (keep_refl _)
        refine AllSteps.cons ?_ ?_
        · intro f v hS hT K hK
          have e4 := hT 4 _ rfl rfl
          dsimp only [isV] at e4
          have hc := (Below.cell hS (p := ⟨ab, ao + k * 2 + 1, none⟩) hadw).trans c1
          simp only [Act.put, List.setIfInBounds_toArray, List.set_cons_succ, List.set_cons_zero, e4] at hK
          go_simp
          exact hK.out _ _ rfl hS (keep_refl _)
        refine AllSteps.cons ?_ ?_
        · intro f v hS hT K hK
          have e5 := hT 5 _ rfl rfl
          dsimp only [isV] at e5
          simp only [Act.put, List.setIfInBounds_toArray, List.set_cons_succ, List.set_cons_zero, e5] at hK
          go_simp
          refine (HK.out v).mono ?_
          rintro e w1 ⟨rfl, b1⟩
          exact hK.out _ _ rfl (hS.go b1) b1
        refine AllSteps.cons ?_ ?_
        · intro f v hS hT K hK
          have e6 := hT 6 _ rfl rfl
          dsimp only [isV] at e6
          simp only [Act.put, List.setIfInBounds_toArray, List.set_cons_succ, List.set_cons_zero, e6] at hK
          go_simp
          exact hK.out _ _ rfl hS (keep_refl _)
        refine AllSteps.cons ?_ ?_
        · intro f v hS hT K hK
          simp only [Act.put, List.setIfInBounds_toArray, List.set_cons_succ, List.set_cons_zero] at hK
          go_simp
          exact hK.out _ _ rfl hS (keep_refl _)
        refine AllSteps.cons ?_ ?_
        · intro f v hS hT K hK
          simp only [Act.put, List.setIfInBounds_toArray, List.set_cons_succ, List.set_cons_zero] at hK
          go_simp
          exact hK.out _ _ rfl hS (keep_refl _)
        refine AllSteps.cons ?_ ?_
        · intro f v hS hT K hK
          have e8 := hT 8 _ rfl rfl
          dsimp only [isV] at e8
          have e9 := hT 9 _ rfl rfl
          dsimp only [isV] at e9
          simp only [Act.put, List.setIfInBounds_toArray, List.set_cons_succ, List.set_cons_zero, e8, e9] at hK
          go_simp
          exact hK.out _ _ rfl hS (keep_refl _)
        refine AllSteps.cons ?_ ?_
        · intro f v hS hT K hK
          have e10 := hT 10 _ rfl rfl
          dsimp only [isV] at e10
          simp only [Act.put, List.setIfInBounds_toArray, List.set_cons_succ, List.set_cons_zero, e10] at hK
          go_simp
          exact hK.out _ _ rfl hS (keep_refl _)
        refine AllSteps.cons ?_ ?_
        · intro f v hS hT K hK
          have e11 := hT 11 _ rfl rfl
          dsimp only [isV] at e11
          have hc := (Below.cell hS (p := ⟨ab, ao + k * 2, none⟩) hadw).trans c0
          simp only [Act.put, List.setIfInBounds_toArray, List.set_cons_succ, List.set_cons_zero, e11] at hK
          go_simp
          exact hK.out _ _ rfl hS (keep_refl _)
        refine AllSteps.cons ?_ ?_
        · intro f v hS hT K hK
          have e12 := hT 12 _ rfl rfl
          dsimp only [isV] at e12
          simp only [Act.put, List.setIfInBounds_toArray, List.set_cons_succ, List.set_cons_zero, e12] at hK
          go_simp
          refine (HD.out v).mono ?_
          rintro e w1 ⟨rfl, b1⟩
          exact hK.out _ _ rfl (hS.go b1) b1
        refine AllSteps.cons ?_ ?_
        · intro f v hS hT K hK
          have e7 := hT 7 _ rfl rfl
          dsimp only [isV] at e7
          have e13 := hT 13 _ rfl rfl
          dsimp only [isV] at e13
          simp only [Act.put, List.setIfInBounds_toArray, List.set_cons_succ, List.set_cons_zero, e7, e13] at hK
          go_simp
          exact hK.out _ _ rfl hS (keep_refl _)
        refine AllSteps.cons ?_ ?_
        · intro f v hS hT K hK
          have e14 := hT 14 _ rfl rfl
          dsimp only [isV] at e14
          simp only [Act.put, List.setIfInBounds_toArray, List.set_cons_succ, List.set_cons_zero, e14] at hK
          go_simp
          exact hK.out _ _ ⟨v.heap.size, rfl, hS.size, Blk.new _ _ _⟩ (hS.new _) (keep_new _ _)
        exact AllSteps.nil
      · intro f v hS hT
        have e12 := hT 0 _ rfl
        obtain ⟨rb, e27, hrb, hkb⟩ := hT 15 _ rfl
        dsimp only [isV] at e12
        rw [e12, e27]
        clear e12 e27 hT
        have O2 := Lib.hid (own_below HO.out hS)
        have B2 := Lib.hid (BW.out.trans (hS.mono BW.out.size))
        have hrl := hkb.lt
        have hwz := BW.out.size
        go_wp2_with (at_builtin; refine wpList_append_any _ rfl (.tmp 12) (.tmp 27) _ rfl w.heap.size 9 i0 _ 1 16 Tryd.underlying44 hi0 hz0 hz1 hz2 rfl (by omega) (.slice Bq k dq) k (txC ((xs.take k).map stepT)) rfl O2.out _ (some ⟨rb, 0, none⟩) 1 1 [.string (K0 ++ ⟨#[64]⟩ ++ D)] rfl (blk_rd (n := 1) (size := 1) hkb rfl) (by simp [Value.oneCell']) (by simp only [maxLen]; omega) (by omega) (by have := hS.size; have := BW.out.size; (try simp); omega) ?_; intro v9 w9 hown9 hg9 hat9; obtain ⟨B9, d9, rfl, _⟩ := own_shape hown9)
        have B9' := Lib.hid (below_own B2.out O2.out hg9 (Nat.le_refl _) (by have := B2.out.size; omega))
        have O9 := Lib.hid (show w9.ownsRow w.heap.size 9 1 (.slice B9 (k + 1) d9) (k + 1) (txC ((xs.take (k + 1)).map stepT)) by rw [HTk.out, List.map_append, List.map_cons, List.map_nil, txs_snoc]; rw [show stepT (day, kind) = K0 ++ ⟨#[64]⟩ ++ D from HST'.out]; simpa using hown9)
        clear hown9 hg9 hat9
        go_roundw
        case rel => exact ⟨k + 1, B9, d9, by omega, rfl, O9.out, B9'.out, by go_num⟩
        case measure => simp [intOf]; omega
    · obtain rfl : k = xs.length := by omega
      have HO2 := HO.out
      rw [List.take_length] at HO2
      have HO3 := Lib.hid HO2; clear HO2 HO
      by_cases hx : xs = []
      · have hl0 : (xs.length : Int) = 0 := by rw [hx]; rfl
        have HT1 := Lib.hid (HT0.out.trans (if_pos hx))
        have hb : ((xs.length : Int) == 0) = true := by simpa using hl0
        clear hx hl0
        go_wp2_with fail
        all_goals first
          | (go_ret; exact ⟨by rw [HT1.out]; rfl, BW.out⟩)
          | omega
      · have HT1 := Lib.hid (HT0.out.trans (if_neg hx))
        have hl0 : 0 < xs.length := List.length_pos_iff.2 hx
        have hb : ((xs.length : Int) == 0) = false := by rw [beq_eq_false_iff_ne]; omega
        have HW := Lib.hid (specWords_any (xs.map stepT) (fun s hs => by
          rw [List.mem_map] at hs
          obtain ⟨p, hp, rfl⟩ := hs
          exact stepT_size (HIn.out p hp)) (by rw [List.length_map]; omega) Bq dq wr (by rw [List.length_map]; exact Reads.of_own HO3.out))
        rw [List.length_map] at HW
        clear hx hl0
        go_wp2_with fail
        refine HW.out.mono ?_; rintro e w2 ⟨rfl, b2⟩
        go_wp2_with fail
        go_ret
        exact ⟨by rw [HT1.out]; rfl, BW.out.trans (b2.mono BW.out.size)⟩
/-- The text, and the code. -/
def ptV (xs : List Stp) : ByteArray × Int := if isProc xs = true then (textP xs, 0) else (⟨#[]⟩, 1)
set_option maxRecDepth 100000 in
theorem specPT_any (xs : List Stp) (hm : xs.length ≤ 9223372036854775807) (A : Option Addr) (c : Nat) (w : World) (hr : Reads w w.heap.size 2 A xs.length (stC xs)) :
    Calls Tryd.prog 7 #[.slice A xs.length c] w fun e w' => e = .returned (.tuple #[.string (ptV xs).1, .int .i64 (ptV xs).2]) ∧ Below w.heap.size w w' := by
  have HR := Lib.hid hr; clear hr
  have HV := Lib.hid (show ptV xs = if isProc xs = true then (textP xs, 0) else (⟨#[]⟩, 1) from rfl)
  have CI := Lib.hid (specIs_any xs A c w HR.out hm)
  have CT := Lib.hid (fun (h : isProc xs = true) W (hb : Below w.heap.size w W) => specPText_any xs h A c W ((HR.out.below hb).more hb.size))
  generalize ptV xs = r at HV ⊢
  generalize isProc xs = ci at CI CT HV
  generalize textP xs = tx at CT HV
  cases ci
  all_goals
    go_enter Tryd.func7, Tryd.ntmps7
    go_wp2_with fail
    refine CI.out.mono ?_; rintro e w1 ⟨rfl, b1⟩
    have B1 := Lib.hid b1; clear b1
    go_wp2_with fail
  · go_ret2
    exact ⟨by rw [HV.out]; rfl, B1.out⟩
  · refine (CT.out (by first | trivial | rfl) w1 B1.out).mono ?_; rintro e w2 ⟨rfl, b2⟩
    go_wp2_with fail
    go_ret2
    exact ⟨by rw [HV.out]; rfl, B1.out.trans (b2.mono B1.out.size)⟩
end Go.Proofs.YteeonojcihcfiaaDoor
