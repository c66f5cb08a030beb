/- Merged: l01Good of the reference: a drawn word. l01Words, l01GoodPhrase of the reference: a drawn phrase. l21Year of the reference: a drawn year. l02Good of the reference: a drawn span. -/
import Derived.Test.YtihhpmhigmegjaaGreatDoorRows
import Derived.Test.YtihhpmhigmegjaaGreatDoorL0
import Derived.Test.YtihhpmhigmegjaaGreatDoorM0
import Derived.WalkKit
import Derived.ProofKit
import Derived.OpenShut
import Derived.BigQuiet
import Derived.Outline
import Derived.WalkSpells
import Derived.WalkLawsBesides
import Derived.Deep.DeepCutAuto
import Derived.Test.YtihhpmhigmegjaaGreatDoorSA
import Derived.Test.YtihhpmhigmegjaaGreatDoorFA
import Derived.Test.YtihhpmhigmegjaaGreatDoorT0
import Derived.Deep.AppendLies
namespace Go.Proofs.YtihhpmhigmegjaaGreatDoor
open Go.ChangeShapes Go.WideShapes Go.ChangeAt Go.RowKit

/-- A drawn text. -/
def DrawnS (n : Nat) (w : World) (B g : Nat) (e : Ending) (w' : World) : Prop := ∃ s : ByteArray, e = .returned (.string s) ∧ s.size ≤ n ∧ Src w' B g ∧ Only w w' g
theorem str_cell {L : List ByteArray} {n : Nat} (h : ∀ s ∈ L, s.size ≤ n) {W : World} {b : Nat} {t : TypeId} (hb : Blk W b t (txC L).toArray) {k : Nat} (hk : k < L.length) : ∃ s : ByteArray, W.cell? ⟨b, k, none⟩ = some (.string s) ∧ s.size ≤ n := by
  refine ⟨L[k], ?_, h _ (List.getElem_mem hk)⟩
  rw [hb.cell]
  simp [txC, hk]
def wordsL : List ByteArray := [⟨#[97, 115, 104]⟩, ⟨#[102, 111, 114, 100]⟩, ⟨#[116, 111, 110]⟩, ⟨#[98, 121]⟩, ⟨#[107, 105, 114, 107]⟩, ⟨#[104, 97, 114]⟩, ⟨#[119, 105, 99, 107]⟩, ⟨#[101, 108, 121]⟩, ⟨#[111, 115]⟩, ⟨#[108, 111]⟩, ⟨#[98, 114, 105, 103]⟩, ⟨#[109, 97]⟩, ⟨#[114, 105]⟩, ⟨#[110, 97]⟩, ⟨#[115, 116]⟩, ⟨#[97, 101]⟩]
set_option maxRecDepth 100000 in
set_option maxHeartbeats 1000000 in
theorem good_any (B g : Nat) (w : World) (hs : Src w B g) (hB : B ≤ w.heap.size) :
    Calls Tryz.prog 169 #[.pointer (some ⟨g, 0, none⟩)] w (DrawnS 300 w B g) := by
  have hgl := hs.lt
  have HS := Lib.hid hs; clear hs
  have KN := Lib.hid (blks_one w 9 (txC wordsL).toArray)
  have HL := Lib.hid (show ∀ s ∈ wordsL, s.size ≤ 100 by decide)
  have HLl := Lib.hid (show wordsL.length = 16 from rfl)
  rw [show (txC wordsL).toArray = #[.string ⟨#[97, 115, 104]⟩, .string ⟨#[102, 111, 114, 100]⟩, .string ⟨#[116, 111, 110]⟩, .string ⟨#[98, 121]⟩, .string ⟨#[107, 105, 114, 107]⟩, .string ⟨#[104, 97, 114]⟩, .string ⟨#[119, 105, 99, 107]⟩, .string ⟨#[101, 108, 121]⟩, .string ⟨#[111, 115]⟩, .string ⟨#[108, 111]⟩, .string ⟨#[98, 114, 105, 103]⟩, .string ⟨#[109, 97]⟩, .string ⟨#[114, 105]⟩, .string ⟨#[110, 97]⟩, .string ⟨#[115, 116]⟩, .string ⟨#[97, 101]⟩] from rfl] at KN
  go_enter Tryz.func169, Tryz.ntmps169
  go_upto_region 3 with (fail)
  generalize hW : w.alloc (.cells #[.string ⟨#[97, 115, 104]⟩, .string ⟨#[102, 111, 114, 100]⟩, .string ⟨#[116, 111, 110]⟩, .string ⟨#[98, 121]⟩, .string ⟨#[107, 105, 114, 107]⟩, .string ⟨#[104, 97, 114]⟩, .string ⟨#[119, 105, 99, 107]⟩, .string ⟨#[101, 108, 121]⟩, .string ⟨#[111, 115]⟩, .string ⟨#[108, 111]⟩, .string ⟨#[98, 114, 105, 103]⟩, .string ⟨#[109, 97]⟩, .string ⟨#[114, 105]⟩, .string ⟨#[110, 97]⟩, .string ⟨#[115, 116]⟩, .string ⟨#[97, 101]⟩] 9) = W
  obtain ⟨b0, bw, hwz⟩ := KN.out W hW.symm
  clear hW KN
  rw [show #[.string ⟨#[97, 115, 104]⟩, .string ⟨#[102, 111, 114, 100]⟩, .string ⟨#[116, 111, 110]⟩, .string ⟨#[98, 121]⟩, .string ⟨#[107, 105, 114, 107]⟩, .string ⟨#[104, 97, 114]⟩, .string ⟨#[119, 105, 99, 107]⟩, .string ⟨#[101, 108, 121]⟩, .string ⟨#[111, 115]⟩, .string ⟨#[108, 111]⟩, .string ⟨#[98, 114, 105, 103]⟩, .string ⟨#[109, 97]⟩, .string ⟨#[114, 105]⟩, .string ⟨#[110, 97]⟩, .string ⟨#[115, 116]⟩, .string ⟨#[97, 101]⟩] = (txC wordsL).toArray from rfl] at b0
  have K0 := Lib.hid b0
  have OW := Lib.hid (only_of_below bw : Only w W g)
  have S0 := Lib.hid (HS.out.below bw)
  clear b0 bw
  go_wp2_with fail
  refine (draw_any 3 B g W S0.out (by omega)).mono ?_
  rintro e w1 ⟨x, rfl, h0, h1, _, hs1, ho1⟩
  have h1' := h1 (by omega)
  have xw : IntKind.i64.wrap (1 + x) = 1 + x := IntWalk.i64_in _ (by omega)
  have K1 := Lib.hid (K0.out.grown ho1 (by intro e; injection e with e; omega))
  have O1 := Lib.hid (only_trans OW.out ho1)
  have S1 := Lib.hid hs1
  clear hs1 ho1 h1 K0 OW S0
  obtain ⟨m, hm⟩ : ∃ m : Nat, 1 + x = (m : Int) := ⟨(1 + x).toNat, by omega⟩
  have hm3 : m ≤ 3 := by omega
  have hmw : IntKind.i64.wrap ((m : Int)) = (m : Int) := IntWalk.i64_in _ (by omega)
  go_wp2_with fail
  try rw [hm]
  clear hm xw h0 h1'
  go_loopw [4, 5] (fun v4 v5 wr => ∃ (s : ByteArray) (j : Nat), j ≤ 3 ∧ s.size ≤ (3 - j) * 100 ∧ v4 = .string s ∧ Hid (Src wr B g) ∧ Hid (Only w wr g) ∧ Hid (Blk wr w.heap.size 9 (txC wordsL).toArray) ∧ v5 = .int .i64 (j : Int)) (fun _ i _ => (intOf i).toNat)
  case atStart => exact ⟨⟨#[]⟩, m, hm3, Nat.zero_le _, rfl, S1.out, O1.out, K1.out, rfl⟩
  case round =>
    clear S1 O1 K1
    obtain ⟨s, j, hj, hsz, rfl, S1, O1, K1, rfl⟩ := hrel
    have hwB : w.heap.size ≤ wr.heap.size := O1.out.size
    cases j with
    | zero =>
      have hno : ¬ (0 : Int) < ((0 : Nat) : Int) := by omega
      go_wp2_with fail
      go_ret
      exact ⟨s, rfl, by omega, S1.out, O1.out⟩
    | succ j =>
      have hyes : (0 : Int) < ((j + 1 : Nat) : Int) := by omega
      go_wp2_with fail
      refine (draw_any 16 B g wr S1.out (by omega)).mono ?_
      rintro e w2 ⟨y, rfl, y0, y1, _, hs2, ho2⟩
      obtain ⟨k, rfl⟩ : ∃ k : Nat, y = k := ⟨y.toNat, by omega⟩
      have hk : k < 16 := by have := y1 (by omega); omega
      have K2 := Lib.hid (K1.out.grown ho2 (by intro e; injection e with e; omega))
      have O2 := Lib.hid (only_trans O1.out ho2)
      have S2 := Lib.hid hs2
      obtain ⟨t, ht, htz⟩ := str_cell HL.out K2.out (k := k) (by rw [HLl.out]; exact hk)
      clear hs2 ho2 y1
      go_wp2_with fail
      go_roundw
      case rel => exact ⟨_, j, by omega, by first | (rw [ByteArray.size_append]; omega) | (simp [ByteArray.size_append]; omega), rfl, S2.out, O2.out, K2.out, by go_num⟩
      case measure => simp [intOf]
end Go.Proofs.YtihhpmhigmegjaaGreatDoor

namespace Go.Proofs.YtihhpmhigmegjaaGreatDoor
open Go.ChangeShapes Go.WideShapes Go.ChangeAt Go.RowKit

theorem txC_at (L : List ByteArray) (k : Nat) (h : k < L.length) : (txC L)[k]? = some (.string L[k]) := by simp [txC, h]
set_option maxRecDepth 100000 in
theorem words_any (L : List ByteArray) (hL : ∀ s ∈ L, s.size ≤ 300) (hl : L.length ≤ 100) (A : Option Addr) (c : Nat) (w : World) (hr : Reads w w.heap.size 1 A L.length (txC L)) :
    Calls Tryz.prog 198 #[.slice A L.length c] w fun e w' => ∃ s : ByteArray, e = .returned (.string s) ∧ s.size ≤ L.length * 301 ∧ Below w.heap.size w w' := by
  have HR := Lib.hid hr; have HL := Lib.hid hL; clear hr hL
  go_enter Tryz.func198, Tryz.ntmps198
  go_wp2_with fail
  go_loopw [3, 4] (fun v3 v4 wr => ∃ (s : ByteArray) (k : Nat), k ≤ L.length ∧ s.size ≤ k * 301 ∧ v3 = .string s ∧ Hid (Below w.heap.size w wr) ∧ v4 = .int .i64 (k : Int)) (fun _ i _ => L.length - (intOf i).toNat)
  case atStart => exact ⟨⟨#[]⟩, 0, by omega, Nat.le_refl _, rfl, Below.refl _ _, rfl⟩
  case round =>
    obtain ⟨s, k, hk, hsz, rfl, BW, rfl⟩ := hrel
    by_cases hlt : k < L.length
    · obtain ⟨ab, ao, rfl, hadb, hcell⟩ := (HR.out.below BW.out).2 (by omega)
      have c0 := hcell _ _ (txC_at L k hlt)
      have htz := HL.out _ (List.getElem_mem hlt)
      clear hcell
      generalize L[k] = t at c0 htz
      by_cases hpos : 0 < k
      · have hp1 : (0 : Int) < (k : Int) := by omega
        go_wp2_with fail
        go_roundw
        case rel => exact ⟨_, k + 1, by omega, by rw [ByteArray.size_append, ByteArray.size_append, show (ByteArray.mk #[32]).size = 1 from rfl]; omega, rfl, BW.out, by go_num⟩
        case measure => simp [intOf]; omega
      · have hp1 : ¬ (0 : Int) < (k : Int) := by omega
        go_wp2_with fail
        go_roundw
        case rel => exact ⟨_, k + 1, by omega, by rw [ByteArray.size_append]; omega, rfl, BW.out, by go_num⟩
        case measure => simp [intOf]; omega
    · obtain rfl : k = L.length := by omega
      go_wp2_with fail
      go_ret
      exact ⟨s, rfl, hsz, BW.out⟩
theorem only_own {a b c : World} {g : Nat} {row : Option Nat} (h : Only a b g) (k : b.grownBy c row) (hr : ∀ j, row = some j → a.heap.size ≤ j) : Only a c g :=
  ⟨k.os.trans h.os, k.tape.trans h.tape, k.output.trans h.output, Nat.le_trans h.size k.size, fun i hi hn => (k.block i (Nat.lt_of_lt_of_le hi h.size) (fun e => by have := hr i e.symm; omega)).trans (h.block i hi hn)⟩
theorem infoTx_ : (Tryz.prog.info? 9).map (fun i => (i.zero, i.size, i.bytes)) = some (some (.string ByteArray.empty), 1, 16) := by kernel_rfl
theorem new_v1 (w : World) (t : TypeId) (u : Value) : Reads (w.alloc (.cells #[u] t)) (w.alloc (.cells #[u] t)).heap.size 1 (some ⟨w.heap.size, 0, none⟩) 1 [u] :=
  ⟨rfl, fun _ => ⟨w.heap.size, 0, rfl, by simp, fun j v hv => by
    rw [Nat.zero_add, (Blk.new w t #[u]).cell]; simpa using hv⟩⟩
set_option maxRecDepth 100000 in
set_option maxHeartbeats 1000000 in
theorem goodP_any (B g : Nat) (w : World) (hs : Src w B g) (hB : B ≤ w.heap.size) :
    Calls Tryz.prog 164 #[.pointer (some ⟨g, 0, none⟩)] w (DrawnS 1000 w B g) := by
  obtain ⟨i0, hi0, hz0, hz1, hz2⟩ := info_parts infoTx_
  have hgl := hs.lt
  have HS := Lib.hid hs; clear hs
  have OW := Lib.hid (World.ownsRow_made (e := 9) (base := w.heap.size) (size := 1) w #[] 0 (Nat.le_refl _) (by decide) rfl)
  have S0 := Lib.hid (HS.out.alloc (.cells #[] 9))
  have N0 := Lib.hid (only_of_below ((Below.refl w.heap.size w).alloc (Nat.le_refl _) (.cells #[] 9)) : Only w _ g)
  go_enter Tryz.func164, Tryz.ntmps164
  go_wp2_with fail
  refine (draw_any 3 B g _ S0.out (by simp; omega)).mono ?_
  rintro e w1 ⟨x, rfl, h0, h1, _, hs1, ho1⟩
  have h1' := h1 (by omega)
  have xw : IntKind.i64.wrap (1 + x) = 1 + x := IntWalk.i64_in _ (by omega)
  have O1 := Lib.hid (own_only OW.out ho1 hgl)
  have N1 := Lib.hid (only_trans N0.out ho1)
  have S1 := Lib.hid hs1
  clear hs1 ho1 h1 OW N0 S0
  obtain ⟨m, hm⟩ : ∃ m : Nat, 1 + x = (m : Int) := ⟨(1 + x).toNat, by omega⟩
  have hm3 : m ≤ 3 := by omega
  go_wp2_with fail
  try rw [hm]
  clear hm xw h0 h1'
  go_loopw [3, 4] (fun v3 v4 wr => ∃ (L : List ByteArray) (n j : Nat) (Bq : Option Addr) (d : Nat), n + j ≤ 3 ∧ Hid (L.length = n) ∧ Hid (∀ s ∈ L, s.size ≤ 300) ∧ v3 = .slice Bq n d ∧ Hid (wr.ownsRow w.heap.size 9 1 (.slice Bq n d) n (txC L)) ∧ Hid (Src wr B g) ∧ Hid (Only w wr g) ∧ v4 = .int .i64 (j : Int)) (fun _ i _ => (intOf i).toNat)
  case atStart => exact ⟨[], 0, m, _, 0, by omega, rfl, (fun s h => by cases h), rfl, O1.out, S1.out, N1.out, rfl⟩
  case round =>
    clear O1 S1 N1
    obtain ⟨L, n, j, Bq, d, hj, HN, HL, rfl, HO, S1, N1, rfl⟩ := hrel
    have hwB : w.heap.size ≤ wr.heap.size := N1.out.size
    cases j with
    | zero =>
      have hno : ¬ (0 : Int) < ((0 : Nat) : Int) := by omega
      have HW := Lib.hid (fun hl hr => words_any L HL.out hl Bq d wr hr)
      rw [HN.out] at HW
      have HW2 := Lib.hid (HW.out (by omega) (Reads.of_own HO.out))
      go_wp2_with fail
      refine HW2.out.mono ?_; rintro e w2 ⟨s, rfl, hsz, b2⟩
      go_wp2_with fail
      go_ret
      exact ⟨s, rfl, by omega, S1.out.below b2, only_trans N1.out (only_of_below b2)⟩
    | succ j =>
      have hyes : (0 : Int) < ((j + 1 : Nat) : Int) := by omega
      go_wp2_with fail
      refine (good_any B g wr S1.out (by omega)).mono ?_
      rintro e w2 ⟨s, rfl, hsz, hs2, ho2⟩
      have O2 := Lib.hid (own_only HO.out ho2 hgl)
      have N2 := Lib.hid (only_trans N1.out ho2)
      have S2 := Lib.hid hs2
      have hz2' := N2.out.size
      clear hs2 ho2
      go_wp2_with (at_builtin; refine wpList_append_any _ rfl (.tmp 13) (.tmp 16) _ rfl w.heap.size 9 i0 _ 1 16 Tryz.underlying122 hi0 hz0 hz1 hz2 rfl (by omega) (.slice Bq n d) n (txC L) rfl (O2.out.alloc _) _ (some ⟨w2.heap.size, 0, none⟩) 1 1 [.string s] rfl (new_v1 _ _ _) (by simp [Value.oneCell']) (by simp only [maxLen]; omega) (by omega) (by simp; omega) ?_; intro v4 w4 hown4 hg4 hat4; obtain ⟨B4, d4, rfl, _⟩ := own_shape hown4)
      have hlo : ∀ k, (Value.slice Bq n d).ownBlock = some k → w.heap.size ≤ k := fun k hk => (own_lt HO.out k hk).1
      have S4 := Lib.hid ((S2.out.alloc _).grown hg4 (by intro e; have := hlo g e; omega) (fun k hk => by have := hlo k hk; omega))
      have N4 := Lib.hid (only_own (only_trans N2.out (only_of_below ((Below.refl w2.heap.size w2).alloc (Nat.le_refl _) _))) hg4 hlo)
      have O4 := Lib.hid (show w4.ownsRow w.heap.size 9 1 (.slice B4 (n + 1) d4) (n + 1) (txC (L ++ [s])) by simpa [txC] using hown4)
      clear hown4 hg4 hat4 hlo
      go_roundw
      case rel => exact ⟨L ++ [s], n + 1, j, B4, d4, by omega, by have := HN.out; simp [Hid, this], (fun a ha => (List.mem_append.1 ha).elim (HL.out a) (fun h => by rw [List.mem_singleton] at h; rw [h]; exact hsz)), rfl, O4.out, S4.out, N4.out, by go_num⟩
      case measure => simp [intOf]
end Go.Proofs.YtihhpmhigmegjaaGreatDoor

namespace Go.Proofs.YtihhpmhigmegjaaGreatDoor
open Go.ChangeShapes Go.WideShapes Go.ChangeAt Go.RowKit

/-- A drawn number. -/
def DrawnI (lo hi : Int) (w : World) (B g : Nat) (e : Ending) (w' : World) : Prop := ∃ x : Int, e = .returned (.int .i64 x) ∧ lo ≤ x ∧ x ≤ hi ∧ Src w' B g ∧ Only w w' g
set_option maxRecDepth 100000 in
set_option maxHeartbeats 1000000 in
theorem year_any (B g : Nat) (w : World) (hs : Src w B g) (hB : B ≤ w.heap.size) :
    Calls Tryz.prog 122 #[.pointer (some ⟨g, 0, none⟩)] w (DrawnI 1200 3001 w B g) := by
  have hgl := hs.lt
  have HS := Lib.hid hs; clear hs
  go_enter Tryz.func122, Tryz.ntmps122
  go_wp2_with fail
  refine (draw_any 50 B g w HS.out hB).mono ?_
  rintro e w1 ⟨x, rfl, x0, x1, _, hs1, ho1⟩
  have hx := x1 (by omega)
  have xw : IntKind.i64.wrap (1200 + x) = 1200 + x := IntWalk.i64_in _ (by omega)
  have S1 := Lib.hid hs1; have O1 := Lib.hid ho1
  have hz1 := ho1.size
  clear hs1 ho1 x1
  go_wp2_with fail
  refine (draw_any 110 B g w1 S1.out (by omega)).mono ?_
  rintro e w2 ⟨y, rfl, y0, y1, _, hs2, ho2⟩
  have hy := y1 (by omega)
  have yw : IntKind.i64.wrap (1200 + y) = 1200 + y := IntWalk.i64_in _ (by omega)
  have S2 := Lib.hid hs2; have O2 := Lib.hid (only_trans O1.out ho2)
  have hz2 := ho2.size
  clear hs2 ho2 y1
  go_wp2_with fail
  refine (pick_any [1200 + x, 1200 + y, 1215, 3001, 1220, 1230] w2.heap.size 6 B g (w2.alloc (.cells #[.int .i64 (1200 + x), .int .i64 (1200 + y), .int .i64 1215, .int .i64 3001, .int .i64 1220, .int .i64 1230] 2)) (S2.out.alloc _) (by simp; omega) (by simp) (by simp) (Blk.new _ _ _) (by omega)).mono ?_
  rintro e w3 ⟨z, rfl, hz, hs3, ho3⟩
  have S3 := Lib.hid hs3; have O3 := Lib.hid (only_trans (only_trans O2.out (only_of_below ((Below.refl w2.heap.size w2).alloc (Nat.le_refl _) _))) ho3)
  have hzz : 1200 ≤ z ∧ z ≤ 3001 := by
    simp only [List.mem_cons, List.not_mem_nil, or_false] at hz
    omega
  clear hs3 ho3 hz
  go_wp2_with fail
  go_ret
  exact ⟨z, rfl, hzz.1, hzz.2, S3.out, O3.out⟩
end Go.Proofs.YtihhpmhigmegjaaGreatDoor

namespace Go.Proofs.YtihhpmhigmegjaaGreatDoor
open Go.ChangeShapes Go.WideShapes Go.ChangeAt Go.RowKit

/-- A drawn span. -/
def DrawnSp (w : World) (B g : Nat) (e : Ending) (w' : World) : Prop := ∃ a b : Int, e = .returned (.agg #[.int .i64 a, .int .i64 b]) ∧ -4000 ≤ a ∧ a ≤ 4000 ∧ -4000 ≤ b ∧ b ≤ 4000 ∧ Src w' B g ∧ Only w w' g
theorem only_newA {a w : World} {g : Nat} (h : Only a w g) (r i : Nat) (hr : a.heap.size ≤ r) (u : Value) : Only a (w.setCell ⟨r, i, none⟩ u) g :=
  ⟨h.os, h.tape, h.output, by simpa [World.setCell] using h.size, fun j hj hne => (Below.heap_setCell w ⟨r, i, none⟩ u j (by rintro rfl; exact absurd hj (Nat.not_lt.2 hr))).trans (h.block j hj hne)⟩
theorem src_newA {w : World} {B g : Nat} (h : Src w B g) (r i : Nat) (hr : r ≠ g) (hB : B ≤ r) (u : Value) : Src (w.setCell ⟨r, i, none⟩ u) B g :=
  h.grown (only_set (only_refl w r) i u) (by intro e; injection e with e; exact hr e) (by intro k e; injection e with e; omega)
set_option maxRecDepth 100000 in
set_option maxHeartbeats 1000000 in
theorem spanG_any (B g : Nat) (w : World) (hs : Src w B g) (hB : B ≤ w.heap.size) :
    Calls Tryz.prog 215 #[.pointer (some ⟨g, 0, none⟩)] w (DrawnSp w B g) := by
  have hgl := hs.lt
  have HS := Lib.hid hs; clear hs
  have KN := Lib.hid (blks_one w 79 #[.int .i64 0, .int .i64 0])
  go_enter Tryz.func215, Tryz.ntmps215
  go_wp2_with fail
  generalize hW : w.alloc (.cells #[.int .i64 0, .int .i64 0] 79) = W
  obtain ⟨kb, bw, hwz⟩ := KN.out W hW.symm
  clear hW KN
  have K0 := Lib.hid kb; have N0 := Lib.hid (only_of_below bw : Only w W g); have S0 := Lib.hid (HS.out.below bw)
  clear kb bw
  refine (draw_any 1000 B g W S0.out (by omega)).mono ?_
  rintro e w1 ⟨x, rfl, x0, x1, _, hs1, ho1⟩
  have hx := x1 (by omega)
  have xw : IntKind.i64.wrap (1000 + x) = 1000 + x := IntWalk.i64_in _ (by omega)
  have K1 := Lib.hid (K0.out.grown ho1 (by intro e; injection e with e; omega))
  have N1 := Lib.hid (only_trans N0.out ho1); have S1 := Lib.hid hs1
  have hz1 := ho1.size
  clear hs1 ho1 x1
  go_wp2_with fail
  refine (draw_any 20 B g w1 S1.out (by omega)).mono ?_
  rintro e w2 ⟨y, rfl, y0, y1, _, hs2, ho2⟩
  have hy := y1 (by omega)
  have K2 := Lib.hid (K1.out.grown ho2 (by intro e; injection e with e; omega))
  have N2 := Lib.hid (only_trans N1.out ho2); have S2 := Lib.hid hs2
  have hz2 := ho2.size
  clear hs2 ho2 y1
  go_wp2_with fail
  refine (draw_any 300 B g w2 S2.out (by omega)).mono ?_
  rintro e w3 ⟨u, rfl, u0, u1, _, hs3, ho3⟩
  have hu := u1 (by omega)
  have K3 := Lib.hid (K2.out.grown ho3 (by intro e; injection e with e; omega))
  have N3 := Lib.hid (only_trans N2.out ho3); have S3 := Lib.hid hs3
  have hz3 := ho3.size
  clear hs3 ho3 u1
  go_wp2_with fail
  refine (pick_any [0, y, u, 2000] w3.heap.size 4 B g (w3.alloc (.cells #[.int .i64 0, .int .i64 y, .int .i64 u, .int .i64 2000] 2)) (S3.out.alloc _) (by simp; omega) (by simp) (by simp) (Blk.new _ _ _) (by omega)).mono ?_
  rintro e w4 ⟨z, rfl, hz, hs4, ho4⟩
  have hzz : 0 ≤ z ∧ z ≤ 2000 := by
    simp only [List.mem_cons, List.not_mem_nil, or_false] at hz
    omega
  obtain ⟨z0, z1⟩ := hzz
  have K4 := Lib.hid ((K3.out.alloc _).grown ho4 (by intro e; injection e with e; omega))
  have N4 := Lib.hid (only_trans (only_trans N3.out (only_of_below ((Below.refl w3.heap.size w3).alloc (Nat.le_refl _) _))) ho4)
  have S4 := Lib.hid hs4
  clear hs4 ho4 hz
  have zw : IntKind.i64.wrap (1000 + x + z) = 1000 + x + z := IntWalk.i64_in _ (by omega)
  obtain ⟨f0, f1, f2, f3, f4, f5⟩ := facts_2 K4.out
  by_cases hm : 1000 + x + z < 3000
  · have hmn : min (3000 : Int) (1000 + x + z) = 1000 + x + z := by omega
    go_wp2_with fail
    exact bodyPost_ret (v := .agg #[.int .i64 (1000 + x), .int .i64 (1000 + x + z)]) (by simp [results, Tryz.results215, go_sem, f0, f1, f2, f3, f4, f5, hmn]) rfl ⟨_, _, rfl, by omega, by omega, by omega, by omega, src_newA (src_newA S4.out _ _ (by omega) (by omega) _) _ _ (by omega) (by omega) _, only_newA (only_newA N4.out _ _ (by omega) _) _ _ (by omega) _⟩
  · have hmn : min (3000 : Int) (1000 + x + z) = 3000 := by omega
    go_wp2_with fail
    exact bodyPost_ret (v := .agg #[.int .i64 (1000 + x), .int .i64 (3000)]) (by simp [results, Tryz.results215, go_sem, f0, f1, f2, f3, f4, f5, hmn]) rfl ⟨_, _, rfl, by omega, by omega, by omega, by omega, src_newA (src_newA S4.out _ _ (by omega) (by omega) _) _ _ (by omega) (by omega) _, only_newA (only_newA N4.out _ _ (by omega) _) _ _ (by omega) _⟩
end Go.Proofs.YtihhpmhigmegjaaGreatDoor
