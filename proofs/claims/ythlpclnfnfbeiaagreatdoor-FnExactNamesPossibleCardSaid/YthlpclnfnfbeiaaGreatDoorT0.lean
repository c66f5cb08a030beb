/- Marks of texts: markText; slices of strings: comparing, marking, asking. -/
import Derived.Test.YthlpclnfnfbeiaaGreatDoorRows
import Derived.Test.YthlpclnfnfbeiaaGreatDoorL0
import Derived.Test.YthlpclnfnfbeiaaGreatDoorM0
import Derived.WalkKit
import Derived.ProofKit
import Derived.OpenShut
import Derived.BigQuiet
import Derived.Outline
import Derived.WalkSpells
import Derived.WalkLawsBesides
import Derived.Deep.DeepCutAuto
import Derived.Test.YthlpclnfnfbeiaaGreatDoorM1
import Derived.Test.YthlpclnfnfbeiaaGreatDoorW0
import Derived.Lib.Hide
import Derived.Lib.QuietBelow
import Derived.Deep.QuietTactic
import Derived.IntWalk
import Derived.Laws.IdiomStrings
namespace Go.Proofs.YthlpclnfnfbeiaaGreatDoor
open Go.ChangeShapes Go.WideShapes Go.ChangeAt Go.RowKit Go.Sort

/-- The last digit. -/
def digB (j : Nat) : UInt8 := UInt8.ofNat (48 + j % 10)
theorem ba_cons (c : UInt8) (l : List UInt8) : (⟨#[c]⟩ : ByteArray) ++ ⟨l.toArray⟩ = ⟨(c :: l).toArray⟩ := by
  apply ByteArray.ext
  rw [ByteArray.data_append]
  simp
/-- The digits of k ahead of l. -/
def mGo : Nat → Nat → List UInt8 → List UInt8
  | 0, _, l => l
  | f + 1, k, l => if k = 0 then l else mGo f (k / 10) (digB k :: l)
def mT (k : Nat) : ByteArray := ⟨(109 :: mGo (k + 1) k []).toArray⟩
theorem mGo_step {f k : Nat} {l : List UInt8} (hk : 0 < k) (hf : k ≤ f) : ∃ f', f = f' + 1 ∧ k / 10 ≤ f' ∧ mGo (f + 1) k l = mGo (f' + 1) (k / 10) (digB k :: l) := by
  obtain ⟨f', rfl⟩ : ∃ f', f = f' + 1 := ⟨f - 1, by omega⟩
  refine ⟨f', rfl, by omega, ?_⟩
  rw [mGo, if_neg (by omega)]
theorem digit_string (w : World) (j : Nat) : (convert 35 9 (.slice (some ⟨w.heap.size, 0, none⟩) 1 1)).run Tryz.prog (w.alloc (.cells #[.int .u8 (48 + (j : Int) % 10)] 5)) = .ok (.string ⟨#[digB j]⟩) (w.alloc (.cells #[.int .u8 (48 + (j : Int) % 10)] 5)) := by
  have h := run_convert_bytes_back (P := Tryz.prog) (w.alloc (.cells #[.int .u8 (48 + (j : Int) % 10)] 5)) 35 9 5 ⟨w.heap.size, 0, none⟩ 1 [digB j] Tryz.underlying35 Tryz.underlying5 Tryz.underlying9 (fun i hi => by
    obtain rfl : i = 0 := by simp at hi; omega
    have hc : (w.alloc (.cells #[.int .u8 (48 + (j : Int) % 10)] 5)).cell? ⟨w.heap.size, 0, none⟩ = some (.int .u8 (48 + (j : Int) % 10)) := by rw [(Blk.new w 5 #[.int .u8 (48 + (j : Int) % 10)]).cell 0]; rfl
    have e : ((digB j).toNat : Int) = 48 + (j : Int) % 10 := by
      rw [digB, UInt8.toNat_ofNat', Nat.mod_eq_of_lt (by omega)]; omega
    simp only [List.getElem_cons_zero, e]
    rw [add_lit0]; exact hc)
  simpa using h
set_option maxRecDepth 100000 in
set_option maxHeartbeats 1000000 in
theorem markText_any (k : Nat) (h1 : 1 ≤ k) (h2 : k ≤ 1099511627776) (w : World) :
    Calls Tryz.prog 70 #[.int .i64 k] w fun e w' => e = .returned (.string (mT k)) ∧ Below w.heap.size w w' := by
  go_enter Tryz.func70, Tryz.ntmps70
  go_wp2_with fail
  go_loopw [0, 3] (fun v0 v3 wr => ∃ (f j : Nat) (l : List UInt8), j ≤ f ∧ j ≤ 1099511627776 ∧ l.length + j ≤ k ∧ Hid (mGo (k + 1) k [] = mGo (f + 1) j l) ∧ v0 = .int .i64 j ∧ v3 = .string ⟨l.toArray⟩ ∧ Hid (Below w.heap.size w wr)) (fun i _ _ => (intOf i).toNat)
  case atStart => exact ⟨k, k, [], by omega, by omega, by simp, rfl, rfl, rfl, Below.refl _ _⟩
  case round =>
    obtain ⟨f, j, l, hf, hj, hlen, HM, rfl, rfl, BW⟩ := hrel
    by_cases hpos : 0 < j
    · obtain ⟨f', _, hf', hs⟩ := mGo_step (l := l) hpos hf
      have HS := Lib.hid (HM.out.trans hs); clear hs
      have e1 : (j : Int).tmod 10 = (j : Int) % 10 := Int.tmod_eq_emod_of_nonneg (by omega)
      have hb := BW.out.size
      have hcv := digit_string wr j
      have hlj : l.length < k := by omega
      have HB := Lib.hid (ba_cons (digB j) l)
      go_wp2_with fail
      go_roundw
      case rel => exact ⟨_, j / 10, digB j :: l, hf', by omega, by simp; omega, HS, by go_num, by rw [HB.out], BW.out.alloc hb _⟩
      case measure => simp [intOf]; omega
    · obtain rfl : j = 0 := by omega
      have HE := Lib.hid (show mT k = ⟨(109 :: l).toArray⟩ by rw [mT, HM.out]; rfl)
      go_wp2_with fail
      go_ret
      exact ⟨by rw [HE.out, ← ba_cons]; rfl, BW.out⟩

theorem grown_of_below {a w : World} (h : Below a.heap.size a w) (row : Option Nat) : a.grownBy w row := ⟨h.os, h.tape, h.output, h.size, fun i hi _ => h.block i hi⟩
/-- Texts as cells. -/
def txC (xs : List ByteArray) : List Value := xs.map Value.string
theorem txC_len (xs : List ByteArray) : (txC xs).length = xs.length * 1 := by simp [txC]
theorem txC_get (xs : List ByteArray) (k : Nat) (h : k < xs.length) : (txC xs)[k]? = some (.string xs[k]) := by simp [txC, h]
theorem txC_one (xs : List ByteArray) : ∀ u ∈ txC xs, u.oneCell' = true := by
  intro u hu
  simp only [txC, List.mem_map] at hu
  obtain ⟨s, _, rfl⟩ := hu
  rfl
theorem txC_set (ys zs : List ByteArray) (x a : ByteArray) : (txC (ys ++ x :: zs)).set ys.length (.string a) = txC (ys ++ a :: zs) := by simp [txC]
/-- The marks from k on. -/
def marksT (k : Nat) : Nat → List ByteArray
  | 0 => []
  | n + 1 => marksT k n ++ [mT (k + n)]
theorem marksT_len (k n : Nat) : (marksT k n).length = n := by
  induction n with
  | zero => rfl
  | succ n ih => simp [marksT, ih]
theorem marksT_get (k n j : Nat) (h : j < n) : (marksT k n)[j]? = some (mT (k + j)) := by
  induction n with
  | zero => omega
  | succ n ih =>
    by_cases hj : j = n
    · subst hj
      rw [marksT, List.getElem?_append_right (by rw [marksT_len]; exact Nat.le_refl _)]
      simp [marksT_len]
    · rw [marksT, List.getElem?_append_left (by rw [marksT_len]; omega)]
      exact ih (by omega)
set_option maxRecDepth 100000 in
theorem eqTx_same (L : List ByteArray) (n : Nat) (hl : L.length = n) (A A' : Option Addr) (c c' : Nat) (w : World) (hr : Reads w w.heap.size 1 A n (txC L)) (hr' : Reads w w.heap.size 1 A' n (txC L)) (hm : n ≤ 9223372036854775807) :
    Calls Tryz.prog 32 #[.slice A n c, .slice A' n c'] w fun e w' => e = .returned (.bool true) ∧ Below w.heap.size w w' := by
  have HL := Lib.hid hl; clear hl
  have HR := Lib.hid hr; clear hr
  have HR' := Lib.hid hr'; clear hr'
  go_enter Tryz.func32, Tryz.ntmps32
  go_wp2_with fail
  go_loopw [5] (fun v5 wr => ∃ k : Nat, k ≤ n ∧ Hid (Below w.heap.size w wr) ∧ v5 = .int .i64 k) (fun i _ => n - (intOf i).toNat)
  case atStart => exact ⟨0, by omega, Below.refl _ _, rfl⟩
  case round =>
    obtain ⟨k, hk, BW, rfl⟩ := hrel
    by_cases hlt : k < n
    · obtain ⟨ab, ao, rfl, hadb, hcell⟩ := (HR.out.below BW.out).2 (by omega)
      obtain ⟨ab', ao', rfl, hadb', hcell'⟩ := (HR'.out.below BW.out).2 (by omega)
      have hkL : k < L.length := by rw [HL.out]; exact hlt
      have c0 := hcell _ _ (txC_get L k hkL)
      have d0 := hcell' _ _ (txC_get L k hkL)
      clear hcell hcell'
      generalize L[k] = s at c0 d0
      have hk0 : (0 : Int) ≤ (k : Int) := by omega
      have hkn : (k : Int) < (n : Int) := by omega
      go_wp2_with fail
      go_quiet (fail)
      go_wp2_with fail
      go_roundw
      case rel => exact ⟨k + 1, by omega, below_drewN' BW.out nq, by go_num⟩
      case measure => simp [intOf]; omega
    · obtain rfl : k = n := by omega
      go_wp2_with fail
      go_ret
      exact ⟨rfl, BW.out⟩

set_option maxRecDepth 100000 in
set_option maxHeartbeats 1000000 in
theorem markTx_any (xs : List ByteArray) (base : Nat) (A : Option Addr) (n c k0 : Nat) (w : World) (hown : w.ownsRow base 9 1 (.slice A n c) n (txC xs)) (hl : xs.length = n) (hn : n ≤ 2097152) (h0 : 1 ≤ k0) (h1 : k0 ≤ 1048576) :
    Calls Tryz.prog 34 #[.slice A n c, .int .i64 k0] w fun e w' => e = .returned (.int .i64 ((k0 + n : Nat) : Int)) ∧ w'.ownsRow base 9 1 (.slice A n c) n (txC (marksT k0 n)) ∧ w.grownBy w' (Value.ownBlock (.slice A n c)) := by
  rcases Nat.eq_zero_or_pos n with hz | hp
  · subst hz
    have hx : xs = [] := List.eq_nil_of_length_eq_zero hl
    subst hx
    have HO := Lib.hid hown; clear hown hl
    go_enter Tryz.func34, Tryz.ntmps34
    go_wp2_with fail
    refine wp_loop_rounds 1 ?_; rw [rounds_succ]
    go_wp2_with fail
    go_ret
    exact ⟨ret_int (by simp), HO.out, World.grownBy.refl w _⟩
  · obtain ⟨g, cap, hv, hbg, hgl⟩ := hown.form hp
    simp only [Value.slice.injEq, true_and] at hv
    obtain ⟨rfl, rfl⟩ := hv
    have HO := Lib.hid hown; clear hown
    have HL := Lib.hid hl; clear hl
    go_enter Tryz.func34, Tryz.ntmps34
    go_wp2_with fail
    go_loopw [1, 5] (fun v1 v5 wr => ∃ k : Nat, k ≤ n ∧ Hid (wr.ownsRow base 9 1 (.slice (some ⟨g, 0, none⟩) n c) n (txC (marksT k0 k ++ xs.drop k))) ∧ Hid (w.grownBy wr (some g)) ∧ v1 = .int .i64 ((k0 + k : Nat) : Int) ∧ v5 = .int .i64 k) (fun _ i _ => n - (intOf i).toNat)
    case atStart => exact ⟨0, Nat.zero_le _, by simpa [marksT] using HO, World.grownBy.refl w _, by simp, rfl⟩
    case round =>
      obtain ⟨k, hk, HW, HG, rfl, rfl⟩ := hrel
      by_cases hlt : k < n
      · have hlx : k < xs.length := by rw [HL.out]; exact hlt
        have hd : xs.drop k = xs[k] :: xs.drop (k + 1) := List.drop_eq_getElem_cons hlx
        have HD := Lib.hid hd; clear hd
        have MT := Lib.hid (markText_any (k0 + k) (by omega) (by omega) wr)
        go_wp2_with fail
        refine MT.out.mono ?_; rintro e w1 ⟨rfl, b1⟩
        have HW1 := Lib.hid (own_below HW.out b1)
        have HG1 := Lib.hid (HG.out.trans (grown_of_below b1 (some g)))
        clear b1 MT
        have hlen : (txC (marksT k0 k ++ xs.drop k)).length = n * 1 := HW1.out.1
        have q0 := HW1.out.cellAt k (by omega)
        rw [List.getElem?_eq_getElem (by omega)] at q0
        have f0 := HW1.out.frozenAt k
        generalize (txC (marksT k0 k ++ xs.drop k))[k]'(by omega) = u0 at q0
        have s1 := HW1.out.stored k (.string (mT (k0 + k)))
        have e := txC_set (marksT k0 k) (xs.drop (k + 1)) xs[k] (mT (k0 + k))
        rw [marksT_len, ← HD.out] at e
        rw [e] at s1
        have HS1 := Lib.hid (HG1.out.trans s1.2); have HS2 := Lib.hid s1.1
        clear s1 e hlen
        go_wp2_with fail
        go_roundw
        case rel => exact ⟨k + 1, by omega, by simpa [marksT, Hid] using HS2.out, HS1, by congr 1, by go_num⟩
        case measure => simp [intOf]; omega
      · obtain rfl : k = n := by omega
        have HX := Lib.hid (show xs.drop k = [] from List.drop_eq_nil_of_le (by rw [HL.out]; omega))
        go_wp2_with fail
        go_ret
        exact ⟨rfl, by have := HW.out; rwa [HX.out, List.append_nil] at this, HG.out⟩
set_option maxRecDepth 100000 in
set_option maxHeartbeats 1000000 in
theorem heldTx_any (B : Nat) (A : Option Addr) (n c k0 : Nat) (w : World) (hr : Reads w w.heap.size 1 A n (txC (marksT k0 n))) (hn : n ≤ 2097152) (h0 : 1 ≤ k0) (h1 : k0 ≤ 1048576) :
    Calls Tryz.prog 35 #[.slice A n c, .int .i64 k0] w fun e w' => e = .returned (.int .i64 ((k0 + n : Nat) : Int)) ∧ Below w.heap.size w w' := by
  have HR := Lib.hid hr; clear hr
  go_enter Tryz.func35, Tryz.ntmps35
  go_wp2_with fail
  go_loopw [1, 5] (fun v1 v5 wr => ∃ k K : Nat, k ≤ n ∧ 1 ≤ K ∧ K ≤ 4194304 ∧ Hid (K = k0 + k) ∧ Hid (Below w.heap.size w wr) ∧ v1 = .int .i64 K ∧ v5 = .int .i64 k) (fun _ i _ => n - (intOf i).toNat)
  case atStart => exact ⟨0, k0, Nat.zero_le _, by omega, by omega, rfl, Below.refl _ _, rfl, rfl⟩
  case round =>
    obtain ⟨k, K, hk, hK1, hK2, HK, BW, rfl, rfl⟩ := hrel
    by_cases hlt : k < n
    · obtain ⟨ab, ao, rfl, hadb, hcell⟩ := (HR.out.below BW.out).2 (by omega)
      have e0 := txC_get (marksT k0 n) k (by rw [marksT_len]; exact hlt)
      have e1 := marksT_get k0 n k hlt
      rw [List.getElem?_eq_getElem (by rw [marksT_len]; exact hlt)] at e1
      injection e1 with e1
      rw [e1, ← HK.out] at e0
      have c0 := cell_regrown (hcell _ _ e0)
      clear hcell e0 e1
      have r1 : ∀ d os, Calls Tryz.prog 70 #[.int .i64 K] (grow (redrawn wr d) os) (fun e w'' => e = .returned (.string (mT K)) ∧ ∃ p : Regrown, w'' = grow (redrawn wr p.d) p.os) := fun d os => Calls.regrown_of (markText_any K hK1 (by omega) _)
      have hk0 : (0 : Int) ≤ (k : Int) := by omega
      have hkn : (k : Int) < (n : Int) := by omega
      go_wp2_with fail
      refine wp_region_quiet_below (by kernel_rfl) (by kernel_rfl) ?_; (repeat (first | go_big_quiet_step ((first | with_reducible exact r1 _ _)))); refine wpQuiet_nil ?_; intro _ hw'; obtain ⟨⟨dq, osq⟩, rfl⟩ := hw'
      go_wp2_with fail
      go_roundw
      case rel => exact ⟨k + 1, K + 1, by omega, by omega, by have := HK.out; omega, by have := HK.out; simp [Hid]; omega, BW.out.trans ((below_regrown wr dq osq).mono BW.out.size), by go_num, by go_num⟩
      case measure => simp [intOf]; omega
    · obtain rfl : k = n := by omega
      go_wp2_with fail
      go_ret
      exact ⟨ret_int (by rw [HK.out]), BW.out⟩
end Go.Proofs.YthlpclnfnfbeiaaGreatDoor
