/- Merged: The reference's search for circles: l03Find, l21Parent, l21Circle. The program's search for circles: parentClaim, circleIn. The reference's l21Consistent. The program's hasPair, hasCircle, areConsistent. What is kept, chosen, left out, of both; whether that is a repair. The reference's l22Without, l22Minimal, l01Own. -/
import Derived.Test.YtihhpmhigmegjaaGreatDoorRows
import Derived.Test.YtihhpmhigmegjaaGreatDoorL0
import Derived.Test.YtihhpmhigmegjaaGreatDoorM0
import Derived.WalkKit
import Derived.ProofKit
import Derived.OpenShut
import Derived.BigQuiet
import Derived.Outline
import Derived.WalkSpells
import Derived.WalkLawsBesides
import Derived.Deep.DeepCutAuto
import Derived.Test.YtihhpmhigmegjaaGreatDoorO4
import Derived.Test.YtihhpmhigmegjaaGreatDoorI6
import Derived.Test.YtihhpmhigmegjaaGreatDoorI5
import Derived.Test.YtihhpmhigmegjaaGreatDoorO1
import Derived.Test.YtihhpmhigmegjaaGreatDoorI1
import Derived.Test.YtihhpmhigmegjaaGreatDoorMA
import Derived.Deep.RegionHeld3
import Derived.Lib.QuietBelow
import Derived.Deep.QuietTactic
import Derived.StillTailTactics
import Derived.Deep.AppendLies
import Derived.IntWalk
namespace Go.Proofs.YtihhpmhigmegjaaGreatDoor
open Go.ChangeShapes Go.WideShapes Go.ChangeAt Go.RowKit Go.Sort

theorem nxt_cons (c : Clm) (r : List Clm) (y : Int) (p : ByteArray) : nxt (c :: r) y p = if atB p y c = true then some c.val_ else nxt r y p := by
  unfold nxt
  rw [List.find?_cons]
  cases atB p y c <;> simp
theorem nxt_drop {xs : List Clm} {k : Nat} (h : k < xs.length) (y : Int) (p : ByteArray) : nxt (xs.drop k) y p = if atB p y xs[k] = true then some xs[k].val_ else nxt (xs.drop (k + 1)) y p := by
  rw [List.drop_eq_getElem_cons h, nxt_cons]
/-- The circle so far and its last place. -/
def CirS (xs : List Clm) (p : ByteArray) (y : Int) (C : List ByteArray) (a : ByteArray) : Prop :=
  ∃ f, cirB xs p y = cirF xs y p f C a ∧ f + C.length = xs.length + 2 ∧ C.Nodup ∧ p ∈ C ∧ (∀ b ∈ C, b ∈ p :: xs.map (·.val_))
theorem cirS_start (xs : List Clm) (p : ByteArray) (y : Int) : CirS xs p y [p] p :=
  ⟨xs.length + 1, rfl, by simp, by simp, by simp, by simp⟩
theorem cirS_len {xs : List Clm} {p : ByteArray} {y : Int} {C : List ByteArray} {a : ByteArray} (h : CirS xs p y C a) : C.length ≤ xs.length + 1 := by
  obtain ⟨f, _, _, h1, _, h2⟩ := h
  have := nodup_le C (p :: xs.map (·.val_)) h1 h2
  simpa using this
theorem cirS_fuel {xs : List Clm} {p : ByteArray} {y : Int} {C : List ByteArray} {a : ByteArray} (h : CirS xs p y C a) : ∃ f, cirB xs p y = cirF xs y p (f + 1) C a ∧ f + C.length = xs.length + 1 := by
  have hl := cirS_len h
  obtain ⟨f, h0, h1, _⟩ := h
  exact ⟨f - 1, by rw [h0, show f - 1 + 1 = f by omega], by omega⟩
theorem cirS_none {xs : List Clm} {p : ByteArray} {y : Int} {C : List ByteArray} {a : ByteArray} (h : CirS xs p y C a) (hn : nxt xs y a = none) : cirB xs p y = false := by
  obtain ⟨f, h0, _⟩ := cirS_fuel h
  rw [h0, cir_step, hn]
theorem cirS_back {xs : List Clm} {p : ByteArray} {y : Int} {C : List ByteArray} {a : ByteArray} (h : CirS xs p y C a) (hn : nxt xs y a = some p) : cirB xs p y = true := by
  obtain ⟨f, h0, _⟩ := cirS_fuel h
  rw [h0, cir_step, hn]
  simp
theorem cirS_twice {xs : List Clm} {p : ByteArray} {y : Int} {C : List ByteArray} {a v : ByteArray} (h : CirS xs p y C a) (hn : nxt xs y a = some v) (hv : v ≠ p) (hc : v ∈ C) : cirB xs p y = false := by
  obtain ⟨f, h0, _⟩ := cirS_fuel h
  rw [h0, cir_step, hn]
  dsimp only
  rw [if_neg hv, if_pos ((ixS_mem v C).2 hc)]
theorem cirS_on {xs : List Clm} {p : ByteArray} {y : Int} {C : List ByteArray} {a v : ByteArray} (h : CirS xs p y C a) (hn : nxt xs y a = some v) (hv : v ≠ p) (hc : v ∉ C) : CirS xs p y (C ++ [v]) v := by
  obtain ⟨f, h0, h1⟩ := cirS_fuel h
  obtain ⟨_, _, _, h2, h3, h4⟩ := h
  refine ⟨f, ?_, by simp; omega, ?_, by simp [h3], fun b hb => ?_⟩
  · rw [h0, cir_step, hn]
    dsimp only
    rw [if_neg hv, if_neg (fun h => hc ((ixS_mem v C).1 h))]
  · rw [List.nodup_append]
    refine ⟨h2, by simp, fun b hb c hc' => ?_⟩
    rw [List.mem_singleton] at hc'
    rw [hc']
    exact fun e => hc (e ▸ hb)
  · rcases List.mem_append.1 hb with hb | hb
    · exact h4 b hb
    · rw [List.mem_singleton] at hb
      rw [hb]
      exact List.mem_cons_of_mem _ (nxt_mem hn)
/-- The reference's state: what is collected, and the place at hand. -/
def CirR (xs : List Clm) (p : ByteArray) (y : Int) (L : List ByteArray) (a : ByteArray) : Prop :=
  (L = [] ∧ a = p) ∨ ∃ z, CirS xs p y L z ∧ nxt xs y z = some a
theorem cirR_len {xs : List Clm} {p : ByteArray} {y : Int} {L : List ByteArray} {a : ByteArray} (h : CirR xs p y L a) : L.length ≤ xs.length + 1 := by
  rcases h with ⟨rfl, _⟩ | ⟨z, h, _⟩
  · simp
  · exact cirS_len h
theorem cirR_in {xs : List Clm} {p : ByteArray} {y : Int} {L : List ByteArray} {a : ByteArray} (h : CirR xs p y L a) (ha : a ∈ L) : cirB xs p y = decide (a = p) := by
  rcases h with ⟨rfl, _⟩ | ⟨z, h, hn⟩
  · cases ha
  · by_cases e : a = p
    · rw [decide_eq_true e, cirS_back h (by rw [hn, e])]
    · rw [decide_eq_false e, cirS_twice h hn e ha]
theorem cirR_step {xs : List Clm} {p : ByteArray} {y : Int} {L : List ByteArray} {a : ByteArray} (h : CirR xs p y L a) (ha : a ∉ L) : CirS xs p y (L ++ [a]) a := by
  rcases h with ⟨rfl, rfl⟩ | ⟨z, h, hn⟩
  · exact cirS_start xs a y
  · obtain ⟨_, _, _, _, h3, _⟩ := id h
    exact cirS_on h hn (fun e => ha (e ▸ h3)) ha
theorem cirR_none {xs : List Clm} {p : ByteArray} {y : Int} {L : List ByteArray} {a : ByteArray} (h : CirR xs p y L a) (ha : a ∉ L) (hn : nxt xs y a = none) : cirB xs p y = false := cirS_none (cirR_step h ha) hn
theorem cirR_some {xs : List Clm} {p : ByteArray} {y : Int} {L : List ByteArray} {a v : ByteArray} (h : CirR xs p y L a) (ha : a ∉ L) (hn : nxt xs y a = some v) : CirR xs p y (L ++ [a]) v := .inr ⟨a, cirR_step h ha, hn⟩
set_option maxRecDepth 100000 in
theorem specFind_any (L : List ByteArray) (s : ByteArray) (hm : L.length ≤ 9223372036854775807) (A : Option Addr) (c : Nat) (w : World) (hr : Reads w w.heap.size 1 A L.length (txC L)) :
    Calls Tryz.prog 225 #[.slice A L.length c, .string s] w fun e w' => e = .returned (.int .i64 (ixS s L)) ∧ w = w' := by
  have HR := Lib.hid hr; clear hr
  have H0 := Lib.hid (ixT_zero s L)
  go_enter Tryz.func225, Tryz.ntmps225
  go_wp2_with fail
  go_loop [5] (fun v5 => ∃ k : Nat, k ≤ L.length ∧ Hid (ixS s L = ixT s L k) ∧ v5 = .int .i64 k) (fun i => L.length - (intOf i).toNat)
  case atStart => exact ⟨0, by omega, H0.out.symm, rfl⟩
  case round =>
    obtain ⟨k, hk, HK, rfl⟩ := hrel
    by_cases hlt : k < L.length
    · obtain ⟨ab, ao, rfl, hadb, hcell⟩ := HR.out.2 (by omega)
      have c0 := hcell _ _ (txC_get L k hlt)
      clear hcell
      by_cases he : s = L[k]
      · have HX := Lib.hid (HK.out.trans (ixT_hit hlt he))
        have hc : (L[k].toList == s.toList) = true := by rw [str_eq, he]; simp
        clear he
        generalize L[k] = a at c0 hc
        go_wp2_with fail
        go_ret
        exact ⟨ret_int HX.out.symm, rfl⟩
      · have HX := Lib.hid (HK.out.trans (ixT_miss hlt he))
        have hc : (L[k].toList == s.toList) = false := by rw [str_eq, decide_eq_false_iff_not]; exact fun e => he e.symm
        clear he
        generalize L[k] = a at c0 hc
        go_wp2_with fail
        go_round
        case rel => exact ⟨k + 1, by omega, HX.out, by go_num⟩
        case measure => simp [intOf]; omega
    · obtain rfl : k = L.length := by omega
      have HX := Lib.hid (HK.out.trans ixT_end)
      go_wp2_with fail
      go_ret
      exact ⟨ret_int HX.out.symm, rfl⟩
set_option maxRecDepth 100000 in
set_option maxHeartbeats 2000000 in
theorem specPar_any (xs : List Clm) (p : ByteArray) (y : Int) (hm : xs.length ≤ 1048576) (A : Option Addr) (c : Nat) (w : World) (h : HasClm w xs A) :
    Calls Tryz.prog 226 #[.slice A xs.length c, .string p, .int .i64 y] w fun e w' => e = .returned (.string ((nxt xs y p).getD ⟨#[]⟩)) ∧ Below w.heap.size w w' := by
  have H := Lib.hid h; clear h
  have HN := Lib.hid (show nxt xs y p = nxt (xs.drop 0) y p by rw [List.drop_zero])
  generalize nxt xs y p = r at HN ⊢
  go_enter Tryz.func226, Tryz.ntmps226
  go_wp2_with fail
  go_loopw [7] (fun v7 wr => ∃ k : Nat, k ≤ xs.length ∧ Hid (r = nxt (xs.drop k) y p) ∧ Hid (Below w.heap.size w wr) ∧ v7 = .int .i64 k) (fun i _ => xs.length - (intOf i).toNat)
  case atStart => exact ⟨0, by omega, HN.out, Below.refl _ _, rfl⟩
  case round =>
    obtain ⟨k, hk, HK, BW, rfl⟩ := hrel
    by_cases hlt : k < xs.length
    · obtain ⟨ab, ao, rfl, hadb, hcell⟩ := (H.out.below BW.out).1.2 (by omega)
      obtain ⟨e0, e1, e2, e3, e4, e5, e6⟩ := clC_get xs k hlt
      have c0 := hcell _ _ e0
      have c1 := hcell _ _ e1
      have c2 := hcell _ _ e2
      have c3 := hcell _ _ e3
      have c4 := hcell _ _ e4
      have c5 := hcell _ _ e5
      have c6 := hcell _ _ e6
      rw [← Nat.add_assoc] at c1 c2 c3 c4 c5 c6
      clear hcell e0 e1 e2 e3 e4 e5 e6
      have HS := Lib.hid (HK.out.trans (nxt_drop hlt y p))
      have T3 := Lib.hid (fun b : Clm => blks_one wr 81 #[.string b.src, .int .i64 b.kind, .string b.place, .string b.val_, .int .i64 b.lo, .int .i64 b.hi, .int .i64 b.weight])
      generalize xs[k] = b at c0 c1 c2 c3 c4 c5 c6 HS
      have HA := Lib.hid (show atB p y b = (decide (b.kind = 1) && (decide (b.place = p) && inB y b.lo b.hi)) from rfl)
      have HI := Lib.hid (specIn_any y b.lo b.hi)
      have n0 : (b.kind == 1) = decide (b.kind = 1) := rfl
      have n1 := str_eq b.place p
      generalize atB p y b = q at HS HA
      generalize decide (b.kind = 1) = s0 at *
      generalize decide (b.place = p) = s1 at *
      generalize inB y b.lo b.hi = s2 at *
      go_upto_region 5 with (fail)
      generalize hW2 : wr.alloc (.cells #[.string b.src, .int .i64 b.kind, .string b.place, .string b.val_, .int .i64 b.lo, .int .i64 b.hi, .int .i64 b.weight] 81) = W2
      obtain ⟨kf, bf, hsz⟩ := T3.out b W2 hW2.symm
      clear hW2 hsz c0 c1 c2 c3 c4 c5 c6
      have BF := Lib.hid (BW.out.trans (bf.mono BW.out.size))
      obtain ⟨y0, y1, y2, y3, y4, y5, y6⟩ := cells_7 kf
      clear kf bf
      cases s0 <;> cases s1 <;> cases s2
      all_goals
        have HQ := Lib.hid (show r = if _ = true then some b.val_ else nxt (xs.drop (k + 1)) y p from by have := HS.out; rw [HA.out] at this; exact this)
        clear HS HA
        go_wp2_with (first | (go_at_call 93; ((with_reducible refine (HI.out _).mono ?_); rintro e wn ⟨rfl, rfl⟩)) | fail)
        first
          | (go_roundw; (case rel => exact ⟨k + 1, by omega, HQ.out.trans (by simp), BF.out, by go_num⟩); (case measure => simp [intOf]; omega))
          | (go_ret; exact ⟨by rw [HQ.out]; rfl, BF.out⟩)
    · obtain rfl : k = xs.length := by omega
      have HQ := Lib.hid (show r = none by rw [HK.out, List.drop_length]; rfl)
      go_wp2_with fail
      go_ret
      exact ⟨by rw [HQ.out]; rfl, BW.out⟩
set_option maxRecDepth 100000 in
set_option maxHeartbeats 2000000 in
theorem specCir_any (xs : List Clm) (p : ByteArray) (y : Int) (hv : ∀ c ∈ xs, c.kind = 1 → c.val_ ≠ ⟨#[]⟩) (hm : xs.length ≤ 1048576) (A : Option Addr) (c : Nat) (w : World) (h : HasClm w xs A) :
    Calls Tryz.prog 214 #[.slice A xs.length c, .string p, .int .i64 y] w fun e w' => ∃ v, e = .returned (.tuple #[v, .bool (cirB xs p y)]) ∧ Below w.heap.size w w' := by
  obtain ⟨i0, hi0, hz0, hz1, hz2⟩ := info_parts infoTx
  have H := Lib.hid h; clear h
  have HP := Lib.hid (fun a => specPar_any xs a y hm A c)
  have HV := Lib.hid (show ∀ a v, nxt xs y a = some v → v ≠ ⟨#[]⟩ from fun a v hn => by
    unfold nxt at hn
    cases hf : xs.find? (atB a y) with
    | none => rw [hf] at hn; cases hn
    | some d =>
      rw [hf] at hn
      have hd := List.find?_some hf
      unfold atB at hd
      rw [Bool.and_eq_true, decide_eq_true_eq] at hd
      have := hv d (List.mem_of_find?_eq_some hf) hd.1
      rw [Option.map_some] at hn
      injection hn with hn
      rw [← hn]; exact this)
  have OW := Lib.hid (World.ownsRow_made (e := 9) (base := w.heap.size) (size := 1) w #[] 0 (Nat.le_refl _) (by decide) rfl)
  go_enter Tryz.func214, Tryz.ntmps214
  go_wp2_with fail
  go_loopw [8, 9] (fun v8 v9 wr => ∃ (L : List ByteArray) (a : ByteArray) (n : Nat) (B : Option Addr) (d : Nat), n ≤ xs.length + 1 ∧ Hid (L.length = n) ∧ Hid (CirR xs p y L a) ∧ v8 = .slice B n d ∧ v9 = .string a ∧ Hid (wr.ownsRow w.heap.size 9 1 (.slice B n d) n (txC L)) ∧ Hid (Below w.heap.size w wr)) (fun v8 _ _ => match v8 with | .slice _ n _ => xs.length + 2 - n | _ => 0)
  case atStart => exact ⟨[], p, 0, _, 0, by omega, rfl, .inl ⟨rfl, rfl⟩, rfl, rfl, OW.out, (Below.refl _ _).alloc (Nat.le_refl _) _⟩
  case round =>
    obtain ⟨L, a, n, B, d, hn, HL, HC, rfl, rfl, HO, BW⟩ := hrel
    have HF := Lib.hid (by have := specFind_any L a (by have := HL.out; omega) B d wr (by rw [HL.out]; exact Reads.of_own HO.out); rw [HL.out] at this; exact this)
    by_cases hin : 0 ≤ ixS a L
    · have HR := Lib.hid (cirR_in HC.out ((ixS_mem a L).1 hin))
      generalize ixS a L = i at HF hin
      have hni : ¬ i < 0 := by omega
      have n1 := str_eq a p
      generalize decide (a = p) = q at HR n1
      go_wp2_with fail
      refine HF.out.mono ?_; rintro e w1 ⟨rfl, rfl⟩
      go_wp2_with fail
      go_ret2
      exact ⟨_, by rw [HR.out]; rfl, BW.out⟩
    · have hno := Lib.hid (fun h => hin ((ixS_mem a L).2 h))
      generalize ixS a L = i at HF hin
      have hni : i < 0 := by omega
      go_wp2_with fail
      refine HF.out.mono ?_; rintro e w1 ⟨rfl, rfl⟩
      clear HF
      have HS : ∀ W, Below wr.heap.size wr W → HasClm W xs A := fun W hb => (H.out.below BW.out).below hb
      have HS2 := Lib.hid HS; clear HS
      go_wp2_with (at_builtin; refine wpList_append_any _ rfl (.tmp 16) (.tmp 18) _ rfl w.heap.size 9 i0 _ 1 16 Tryz.underlying122 hi0 hz0 hz1 hz2 rfl (by omega) (.slice B n d) n (txC L) rfl (HO.out.alloc _) _ (some ⟨wr.heap.size, 0, none⟩) 1 1 [.string a] rfl (new_txa _ _ _) (by simp [Value.oneCell']) (by simp only [maxLen]; omega) (by omega) (by have := BW.out.size; simp; omega) ?_; intro v4 w4 hown4 hg4 hat4; obtain ⟨B4, d4, rfl, _⟩ := own_shape hown4)
      have B2 := Lib.hid (below_own (BW.out.alloc BW.out.size _) (HO.out.alloc _) hg4 (Nat.le_refl _) (by have := BW.out.size; simp; omega))
      have O2 := Lib.hid hown4
      clear hg4 hat4 hown4
      refine (HP.out a w4 (H.out.below B2.out)).mono ?_; rintro e w5 ⟨rfl, b5⟩
      have B5 := Lib.hid (B2.out.trans (b5.mono B2.out.size)); have O5 := Lib.hid (own_below O2.out b5)
      clear b5
      cases hx : nxt xs y a with
      | none =>
        have HR := Lib.hid (cirR_none HC.out hno.out hx)
        have n2 := (show ((⟨#[]⟩ : ByteArray).toList == []) = true by rw [str_lit]; simp)
        clear hx
        go_wp2_with fail
        go_ret2
        exact ⟨_, by rw [HR.out]; rfl, B5.out⟩
      | some v =>
        have HR := Lib.hid (cirR_some HC.out hno.out hx)
        have hne := HV.out a v hx
        have n2 := str_lit v []
        rw [decide_eq_false hne] at n2
        have hln := cirR_len HR.out
        have hl2 : n + 1 ≤ xs.length + 1 := by have := HL.out; simp at hln; omega
        clear hx hne hln
        go_wp2_with fail
        go_roundw
        case rel => exact ⟨L ++ [a], v, n + 1, B4, d4, by omega, by have := HL.out; simp [Hid, this], HR.out, rfl, rfl, by rw [txC_add]; exact O5.out, B5.out⟩
        case measure => simp; omega
end Go.Proofs.YtihhpmhigmegjaaGreatDoor

namespace Go.Proofs.YtihhpmhigmegjaaGreatDoor
open Go.ChangeShapes Go.WideShapes Go.ChangeAt Go.RowKit Go.Sort

/-- i is the first index as asked, -1 if there is none. -/
def FirstAt (xs : List Clm) (P : Clm → Bool) (i : Int) : Prop := (i = -1 ∧ xs.any P = false) ∨ ∃ k : Nat, i = (k : Int) ∧ (∃ h : k < xs.length, P xs[k] = true) ∧ (xs.take k).any P = false
theorem first_hit {xs : List Clm} {P : Clm → Bool} {k : Nat} (h : k < xs.length) (h1 : P xs[k] = true) (h2 : (xs.take k).any P = false) : FirstAt xs P (k : Int) := .inr ⟨k, rfl, ⟨h, h1⟩, h2⟩
theorem first_none {xs : List Clm} {P : Clm → Bool} (h : xs.any P = false) : FirstAt xs P (-1) := .inl ⟨rfl, h⟩
theorem first_nxt {xs : List Clm} {p : ByteArray} {y : Int} {i : Int} (h : FirstAt xs (atB p y) i) : (i = -1 ∧ nxt xs y p = none) ∨ ∃ k : Nat, i = (k : Int) ∧ ∃ h : k < xs.length, nxt xs y p = some xs[k].val_ := by
  rcases h with ⟨rfl, h⟩ | ⟨k, rfl, ⟨h1, h2⟩, h3⟩
  · left
    refine ⟨rfl, ?_⟩
    unfold nxt
    have : xs.find? (atB p y) = none := by
      rw [List.find?_eq_none]
      intro c hc hh
      have : xs.any (atB p y) = true := List.any_eq_true.2 ⟨c, hc, hh⟩
      rw [h] at this; cases this
    rw [this]; rfl
  · right
    refine ⟨k, rfl, h1, ?_⟩
    have e : nxt xs y p = nxt (xs.drop k) y p := by
      conv => lhs; rw [← List.take_append_drop k xs]
      unfold nxt
      rw [List.find?_append]
      have : (xs.take k).find? (atB p y) = none := by
        rw [List.find?_eq_none]
        intro c hc hh
        have : (xs.take k).any (atB p y) = true := List.any_eq_true.2 ⟨c, hc, hh⟩
        rw [h3] at this; cases this
      rw [this]; rfl
    rw [e, nxt_drop h1, if_pos h2]
set_option maxRecDepth 100000 in
theorem parIdx_any (P : Clm → Bool) (xs : List Clm) (g : Nat) (A : Option Addr) (c : Nat) (w : World) (hr : Reads w w.heap.size 7 A xs.length (clC xs)) (hm : xs.length ≤ 9223372036854775807)
    (hp : ∀ b ∈ xs, ∀ W, Below w.heap.size w W → Calls Tryz.prog 217 #[b.val, .pointer (some ⟨g, 0, none⟩), .pointer (some ⟨g + 1, 0, none⟩)] W fun e w' => e = .returned (.bool (P b)) ∧ Below W.heap.size W w') :
    Calls Tryz.prog 167 #[.slice A xs.length c, .func (.func 217) #[] #[.pointer (some ⟨g, 0, none⟩), .pointer (some ⟨g + 1, 0, none⟩)]] w fun e w' => ∃ i : Int, e = .returned (.int .i64 i) ∧ FirstAt xs P i ∧ Below w.heap.size w w' := by
  have HR := Lib.hid hr; clear hr
  have HP := Lib.hid hp; clear hp
  go_enter Tryz.func167, Tryz.ntmps167
  go_wp2_with fail
  go_loopw [8] (fun v8 wr => ∃ k : Nat, k ≤ xs.length ∧ Hid ((xs.take k).any P = false) ∧ Hid (Below w.heap.size w wr) ∧ v8 = .int .i64 k) (fun i _ => xs.length - (intOf i).toNat)
  case atStart => exact ⟨0, by omega, by simp [Hid], Below.refl _ _, rfl⟩
  case round =>
    obtain ⟨k, hk, HT, BW, rfl⟩ := hrel
    by_cases hlt : k < xs.length
    · obtain ⟨ab, ao, rfl, hadb, hcell⟩ := (HR.out.below BW.out).2 (by omega)
      obtain ⟨e0, e1, e2, e3, e4, e5, e6⟩ := clC_get xs k hlt
      have c0 := hcell _ _ e0
      have c1 := hcell _ _ e1
      have c2 := hcell _ _ e2
      have c3 := hcell _ _ e3
      have c4 := hcell _ _ e4
      have c5 := hcell _ _ e5
      have c6 := hcell _ _ e6
      rw [← Nat.add_assoc] at c1 c2 c3 c4 c5 c6
      clear hcell e0 e1 e2 e3 e4 e5 e6
      have HC := Lib.hid (HP.out xs[k] (List.getElem_mem hlt) wr BW.out)
      have HS := Lib.hid (show (xs.take (k + 1)).any P = ((xs.take k).any P || P xs[k]) by rw [List.take_succ_eq_append_getElem hlt, List.any_append]; simp)
      have HY := Lib.hid (fun (h : P xs[k] = true) => first_hit hlt h HT.out)
      unfold Clm.val at HC
      generalize xs[k] = b at c0 c1 c2 c3 c4 c5 c6 HC HS HY
      cases hb : P b
      · rw [hb] at HC HS
        have HN := Lib.hid (show (xs.take (k + 1)).any P = false by rw [HS.out, HT.out]; rfl)
        clear hb
        go_wp2_with fail
        refine HC.out.mono ?_; rintro e w1 ⟨rfl, b1⟩
        go_wp2_with fail
        go_roundw
        case rel => exact ⟨k + 1, by omega, HN.out, BW.out.trans (b1.mono BW.out.size), by go_num⟩
        case measure => simp [intOf]; omega
      · rw [hb] at HC
        have HN := Lib.hid (HY.out hb)
        clear hb
        go_wp2_with fail
        refine HC.out.mono ?_; rintro e w1 ⟨rfl, b1⟩
        go_wp2_with fail
        go_ret
        exact ⟨k, rfl, HN.out, BW.out.trans (b1.mono BW.out.size)⟩
    · obtain rfl : k = xs.length := by omega
      have HN := Lib.hid (show xs.any P = false by have := HT.out; rwa [List.take_length] at this)
      go_wp2_with fail
      go_ret
      exact ⟨-1, rfl, first_none HN.out, BW.out⟩
set_option maxRecDepth 100000 in
theorem par1_any (b : Clm) (p : ByteArray) (y : Int) (g : Nat) (w : World) (hp : Blk w g 9 #[.string p]) (hy : Blk w (g + 1) 2 #[.int .i64 y]) :
    Calls Tryz.prog 217 #[b.val, .pointer (some ⟨g, 0, none⟩), .pointer (some ⟨g + 1, 0, none⟩)] w fun e w' => e = .returned (.bool (atB p y b)) ∧ Below w.heap.size w w' := by
  have HA := Lib.hid (show atB p y b = (decide (b.kind = 1) && (decide (b.place = p) && inB y b.lo b.hi)) from rfl)
  have HI := Lib.hid (implHas_any b.lo b.hi y)
  have n0 : (b.kind == 1) = decide (b.kind = 1) := rfl
  have n1 := str_eq b.place p
  have KN := Lib.hid (blks_one w 81 #[.string b.src, .int .i64 b.kind, .string b.place, .string b.val_, .int .i64 b.lo, .int .i64 b.hi, .int .i64 b.weight])
  have HP := Lib.hid hp; have HY := Lib.hid hy; clear hp hy
  unfold Clm.val
  generalize atB p y b = q at HA ⊢
  generalize decide (b.kind = 1) = s0 at *
  generalize decide (b.place = p) = s1 at *
  generalize inB y b.lo b.hi = s2 at *
  cases s0 <;> cases s1
  all_goals
    go_enter Tryz.func217, Tryz.ntmps217
    go_upto_region 1 with (fail)
    generalize hW : w.alloc (.cells #[.string b.src, .int .i64 b.kind, .string b.place, .string b.val_, .int .i64 b.lo, .int .i64 b.hi, .int .i64 b.weight] 81) = W
    obtain ⟨bk, bw, _⟩ := KN.out W hW.symm
    clear hW
    have B1 := Lib.hid bw
    have x0 := (HP.out.below bw HP.out.lt).cell 0
    have x1 := (HY.out.below bw HY.out.lt).cell 0
    simp only [List.getElem?_toArray, List.getElem?_cons_zero] at x0 x1
    obtain ⟨c0, c1, c2, c3, c4, c5, c6⟩ := cells_7 bk
    clear bk bw
    go_wp2_with (first | (go_at_call 158; ((with_reducible refine (HI.out _).mono ?_); rintro e wn ⟨rfl, bn⟩; (have B1 := Lib.hid (B1.out.trans (bn.mono B1.out.size))); clear bn)) | fail)
    go_ret
    exact ⟨ret_bool (by rw [HA.out]; simp), B1.out⟩
set_option maxRecDepth 100000 in
theorem implPar_any (xs : List Clm) (p : ByteArray) (y : Int) (hm : xs.length ≤ 1048576) (A : Option Addr) (c : Nat) (w : World) (h : HasClm w xs A) :
    Calls Tryz.prog 200 #[.slice A xs.length c, .string p, .int .i64 y] w fun e w' => e = .returned (.tuple #[.string ((nxt xs y p).getD ⟨#[]⟩), .bool (nxt xs y p).isSome]) ∧ Below w.heap.size w w' := by
  have H := Lib.hid h; clear h
  have KN := Lib.hid (blks_two w 9 2 #[.string p] #[.int .i64 y])
  have HIx := Lib.hid (fun W (hB : Below w.heap.size w W) (h1 : Blk W w.heap.size 9 #[.string p]) (h2 : Blk W (w.heap.size + 1) 2 #[.int .i64 y]) => parIdx_any (atB p y) xs w.heap.size A c W (H.out.below hB).1 (by omega) (fun b _ W' hB' => par1_any b p y w.heap.size W' (h1.below hB' h1.lt) (h2.below hB' h2.lt)))
  have HFn := Lib.hid (fun i (h : FirstAt xs (atB p y) i) => first_nxt h)
  generalize nxt xs y p = r at HFn ⊢
  generalize hP : atB p y = P at HIx HFn
  clear hP
  go_enter Tryz.func200, Tryz.ntmps200
  go_upto_region 1 with (fail)
  generalize hW : (w.alloc (.cells #[.string p] 9)).alloc (.cells #[.int .i64 y] 2) = W
  obtain ⟨k1, k2, bw, hsz⟩ := KN.out W hW.symm
  clear hW
  have HI2 := Lib.hid (HIx.out W bw k1 k2); have B1 := Lib.hid bw
  clear HIx k1 k2 bw hsz
  go_wp2_with fail
  refine HI2.out.mono ?_; rintro e w2 ⟨i, rfl, hi, b2⟩
  have B2 := Lib.hid (B1.out.trans (b2.mono B1.out.size)); clear b2
  rcases HFn.out i hi with ⟨rfl, hr⟩ | ⟨k, rfl, hk, hr⟩
  · subst hr
    clear hi
    go_wp2_with fail
    go_ret2
    exact ⟨rfl, B2.out⟩
  · subst hr
    clear hi
    obtain ⟨ab, ao, rfl, hadb, hcell⟩ := (H.out.below B2.out).1.2 (by omega)
    obtain ⟨_, _, _, e3, _, _, _⟩ := clC_get xs k hk
    have c3 := hcell _ _ e3
    rw [← Nat.add_assoc] at c3
    clear hcell e3
    generalize hs : xs[k].val_ = v at c3
    have HV := Lib.hid hs; clear hs
    go_wp2_with fail
    go_ret2
    exact ⟨by rw [HV.out]; rfl, B2.out⟩
set_option maxRecDepth 100000 in
set_option maxHeartbeats 2000000 in
theorem implCir_any (xs : List Clm) (p : ByteArray) (y : Int) (hm : xs.length ≤ 1048576) (A : Option Addr) (c : Nat) (w : World) (h : HasClm w xs A) :
    Calls Tryz.prog 168 #[.slice A xs.length c, .string p, .int .i64 y] w fun e w' => ∃ v, e = .returned (.tuple #[v, .bool (cirB xs p y)]) ∧ Below w.heap.size w w' := by
  obtain ⟨i0, hi0, hz0, hz1, hz2⟩ := info_parts infoTx
  have H := Lib.hid h; clear h
  have HP := Lib.hid (fun a => implPar_any xs a y hm A c)
  have OW := Lib.hid (World.ownsRow_lit (e := 9) (base := w.heap.size) (size := 1) w #[.string p] 1 (Nat.le_refl _) (by decide) rfl)
  go_enter Tryz.func168, Tryz.ntmps168
  go_wp2_with fail
  go_loopw [8] (fun v8 wr => ∃ (L : List ByteArray) (a : ByteArray) (n : Nat) (B : Option Addr) (d : Nat), n ≤ xs.length ∧ Hid (L.length = n) ∧ Hid (CirS xs p y (L ++ [a]) a) ∧ v8 = .slice B (n + 1) d ∧ Hid (wr.ownsRow w.heap.size 9 1 (.slice B (n + 1) d) (n + 1) (txC (L ++ [a]))) ∧ Hid (Below w.heap.size w wr)) (fun v8 _ => match v8 with | .slice _ n _ => xs.length + 2 - n | _ => 0)
  case atStart => exact ⟨[], p, 0, _, 1, by omega, rfl, cirS_start xs p y, rfl, OW.out, (Below.refl _ _).alloc (Nat.le_refl _) _⟩
  case round =>
    obtain ⟨L, a, n, B, d, hn, HL, HC, rfl, HO, BW⟩ := hrel
    obtain ⟨ab, ao, rfl, hadb, hcell⟩ := (Reads.of_own HO.out).2 (by omega)
    have c0 := hcell n (.string a) (by rw [txC_add, List.getElem?_append_right (by rw [txC_len, HL.out]; omega)]; rw [txC_len, HL.out]; simp)
    clear hcell
    have hn1 : ((n : Int) + 1 - 1).toNat = n := by omega
    go_wp2_with fail
    refine (HP.out a wr (H.out.below BW.out)).mono ?_; rintro e w5 ⟨rfl, b5⟩
    have B5 := Lib.hid (BW.out.trans (b5.mono BW.out.size)); have O5 := Lib.hid (own_below HO.out b5)
    clear b5 c0
    cases hx : nxt xs y a with
    | none =>
      have HR := Lib.hid (cirS_none HC.out hx)
      clear hx
      go_wp2_with fail
      go_ret2
      exact ⟨_, by rw [HR.out]; rfl, B5.out⟩
    | some v =>
      by_cases hvp : v = p
      · have HR := Lib.hid (cirS_back HC.out (by rw [hx, hvp]))
        have n1 := str_eq v p
        rw [decide_eq_true hvp] at n1
        clear hx hvp
        go_wp2_with fail
        go_ret2
        exact ⟨_, by rw [HR.out]; rfl, B5.out⟩
      · have n1 := str_eq v p
        rw [decide_eq_false hvp] at n1
        have HF := Lib.hid (by have := containsS_any (L ++ [a]) v (by have := HL.out; simp; omega) (some ⟨ab, ao, none⟩) d w5 (by rw [show (L ++ [a]).length = n + 1 by simp; exact HL.out]; exact Reads.of_own O5.out); rw [show (L ++ [a]).length = n + 1 by simp; exact HL.out] at this; exact this)
        by_cases hin : 0 ≤ ixS v (L ++ [a])
        · have HR := Lib.hid (cirS_twice HC.out hx hvp ((ixS_mem v _).1 hin))
          rw [decide_eq_true hin] at HF
          clear hx hvp hin
          go_wp2_with fail
          refine HF.out.mono ?_; rintro e w1 ⟨rfl, rfl⟩
          go_wp2_with fail
          go_ret2
          exact ⟨_, by rw [HR.out]; rfl, B5.out⟩
        · have HR := Lib.hid (cirS_on HC.out hx hvp (fun h => hin ((ixS_mem v _).2 h)))
          rw [decide_eq_false hin] at HF
          have hln := cirS_len HR.out
          have hl2 : n + 1 ≤ xs.length := by have := HL.out; simp at hln; omega
          clear hx hvp hin hln
          go_wp2_with fail
          refine HF.out.mono ?_; rintro e w1 ⟨rfl, rfl⟩
          go_wp2_with (at_builtin; refine wpList_append_any _ rfl (.tmp 41) (.tmp 43) _ rfl w.heap.size 9 i0 _ 1 16 Tryz.underlying122 hi0 hz0 hz1 hz2 rfl (by omega) (.slice (some ⟨ab, ao, none⟩) (n + 1) d) (n + 1) (txC (L ++ [a])) rfl (O5.out.alloc _) _ (some ⟨w5.heap.size, 0, none⟩) 1 1 [.string v] rfl (new_txa _ _ _) (by simp [Value.oneCell']) (by simp only [maxLen]; omega) (by omega) (by have := B5.out.size; simp; omega) ?_; intro v4 w4 hown4 hg4 hat4; obtain ⟨B4, d4, rfl, _⟩ := own_shape hown4)
          have B6 := Lib.hid (below_own (B5.out.alloc B5.out.size _) (O5.out.alloc _) hg4 (Nat.le_refl _) (by have := B5.out.size; simp; omega))
          have O6 := Lib.hid hown4
          clear hg4 hat4 hown4
          go_roundw
          case rel => exact ⟨L ++ [a], v, n + 1, B4, d4, by omega, by have := HL.out; simp [Hid, this], HR.out, rfl, by rw [txC_add]; exact O6.out, B6.out⟩
          case measure => simp; omega
end Go.Proofs.YtihhpmhigmegjaaGreatDoor

namespace Go.Proofs.YtihhpmhigmegjaaGreatDoor
open Go.ChangeShapes Go.WideShapes Go.ChangeAt Go.RowKit Go.Sort

theorem apart_step {xs : List Clm} {i : Nat} (h : i < xs.length) (h1 : apart (xs.take i)) (h2 : (xs.take i).any (ctrB xs[i]) = false) : apart (xs.take (i + 1)) := by
  rw [List.take_succ_eq_append_getElem h]
  unfold apart at *
  rw [List.pairwise_append]
  refine ⟨h1, List.pairwise_singleton _ _, fun a ha b hb => ?_⟩
  rw [List.mem_singleton] at hb
  rw [hb, ctr_symm]
  rw [Bool.eq_false_iff] at h2 ⊢
  exact fun h3 => h2 (List.any_eq_true.2 ⟨a, ha, h3⟩)
theorem apart_not {xs : List Clm} {i : Nat} (h : i < xs.length) (h2 : (xs.take i).any (ctrB xs[i]) = true) : ¬ apart xs := by
  intro ha
  obtain ⟨a, hm, h3⟩ := List.any_eq_true.1 h2
  rw [apart_all ha _ (List.getElem_mem h) a (List.mem_of_mem_take hm)] at h3
  cases h3
theorem any_at {α : Type} {xs : List α} {p : α → Bool} {k : Nat} (h : k < xs.length) : (xs.take (k + 1)).any p = ((xs.take k).any p || p xs[k]) := by
  rw [List.take_succ_eq_append_getElem h, List.any_append]; simp
theorem any_hit {α : Type} {xs : List α} {p : α → Bool} {k i : Nat} (h : k < xs.length) (hi : k < i) (hp : p xs[k] = true) : (xs.take i).any p = true := by
  refine List.any_eq_true.2 ⟨xs[k], ?_, hp⟩
  rw [List.mem_take_iff_getElem]
  exact ⟨k, by omega, rfl⟩
theorem con_no_pair {xs : List Clm} {k i : Nat} (hi : i < xs.length) (hk : k < i) (h : ctrB xs[i] (xs[k]'(by omega)) = true) : conB xs = false := by
  unfold conB
  rw [decide_eq_false (apart_not hi (any_hit (by omega) hk h)), Bool.false_and]
/-- The places from which a circle is sought for a claim. -/
def cirAll (xs : List Clm) (c : Clm) : Bool := decide (c.kind = 1) && xs.any fun d => cirB xs d.place c.lo
theorem con_no_cir {xs : List Clm} {k i : Nat} (hi : i < xs.length) (hk : k < xs.length) (h0 : xs[i].kind = 1) (h : cirB xs xs[k].place xs[i].lo = true) : conB xs = false := by
  unfold conB
  have : circs xs = true := by
    unfold circs
    refine List.any_eq_true.2 ⟨_, List.getElem_mem hi, ?_⟩
    rw [decide_eq_true h0, Bool.true_and]
    exact List.any_eq_true.2 ⟨_, List.getElem_mem hk, h⟩
  rw [this]; simp
theorem con_yes {xs : List Clm} (h1 : apart (xs.take xs.length)) (h2 : (xs.take xs.length).any (cirAll xs) = false) : conB xs = true := by
  rw [List.take_length] at h1 h2
  unfold conB
  rw [decide_eq_true h1, Bool.true_and]
  have : circs xs = xs.any (cirAll xs) := rfl
  rw [this, h2]; rfl
set_option maxRecDepth 100000 in
set_option maxHeartbeats 4000000 in
theorem specCon_any (xs : List Clm) (hv : ∀ c ∈ xs, c.kind = 1 → c.val_ ≠ ⟨#[]⟩) (hm : xs.length ≤ 1048576) (A : Option Addr) (c : Nat) (w : World) (h : HasClm w xs A) :
    Calls Tryz.prog 195 #[.slice A xs.length c] w fun e w' => e = .returned (.bool (conB xs)) ∧ Below w.heap.size w w' := by
  have H := Lib.hid h; clear h
  have HCi := Lib.hid (fun p y => specCir_any xs p y hv hm A c); clear hv
  have HN1 := Lib.hid (fun (i k : Nat) (hi : i < xs.length) (hk : k < i) h => con_no_pair (xs := xs) hi hk h)
  have HN2 := Lib.hid (fun (i k : Nat) (hi : i < xs.length) (hk : k < xs.length) h0 h => con_no_cir (xs := xs) hi hk h0 h)
  have HY := Lib.hid (fun h1 h2 => con_yes (xs := xs) h1 h2)
  generalize conB xs = r at *
  go_enter Tryz.func195, Tryz.ntmps195
  go_wp2_with fail
  go_loopw [3] (fun v3 wr => ∃ i : Nat, i ≤ xs.length ∧ Hid (apart (xs.take i)) ∧ Hid (Below w.heap.size w wr) ∧ v3 = .int .i64 i) (fun v _ => xs.length - (intOf v).toNat)
  case atStart => exact ⟨0, by omega, by simp [Hid, apart], Below.refl _ _, rfl⟩
  case round =>
    obtain ⟨i, hi, HA, BW, rfl⟩ := hrel
    by_cases hlt : i < xs.length
    · have hlt0 : decide ((i : Int) < (xs.length : Int)) = true := by rw [decide_eq_true_eq]; omega
      go_wp2_with fail
      go_loopw [4] (fun v4 w3 => ∃ k : Nat, k ≤ i ∧ Hid ((xs.take k).any (ctrB xs[i]) = false) ∧ Hid (Below w.heap.size w w3) ∧ v4 = .int .i64 k) (fun v _ => i - (intOf v).toNat)
      case atStart => exact ⟨0, by omega, by simp [Hid], BW.out, rfl⟩
      case round =>
        obtain ⟨k, hk, HK, BX, rfl⟩ := hrel
        by_cases hki : k < i
        · obtain ⟨ab, ao, rfl, hadb, hcell⟩ := (H.out.below BX.out).1.2 (by omega)
          obtain ⟨e0, e1, e2, e3, e4, e5, e6⟩ := clC_get xs i hlt
          obtain ⟨f0, f1, f2, f3, f4, f5, f6⟩ := clC_get xs k (by omega)
          have c0 := hcell _ _ e0
          have c1 := hcell _ _ e1
          have c2 := hcell _ _ e2
          have c3 := hcell _ _ e3
          have c4 := hcell _ _ e4
          have c5 := hcell _ _ e5
          have c6 := hcell _ _ e6
          rw [← Nat.add_assoc] at c1 c2 c3 c4 c5 c6
          have d0 := hcell _ _ f0
          have d1 := hcell _ _ f1
          have d2 := hcell _ _ f2
          have d3 := hcell _ _ f3
          have d4 := hcell _ _ f4
          have d5 := hcell _ _ f5
          have d6 := hcell _ _ f6
          rw [← Nat.add_assoc] at d1 d2 d3 d4 d5 d6
          clear hcell e0 e1 e2 e3 e4 e5 e6 f0 f1 f2 f3 f4 f5 f6
          have HT := Lib.hid (specCtr_any xs[i] (xs[k]'(by omega)))
          have HS := Lib.hid (any_at (xs := xs) (p := ctrB xs[i]) (k := k) (by omega))
          have HN := Lib.hid (HN1.out i k hlt hki)
          go_upto_region 7 with (fail)
          have k0 := cell_regrown c0
          have l0 := cell_regrown d0
          have k1 := cell_regrown c1
          have l1 := cell_regrown d1
          have k2 := cell_regrown c2
          have l2 := cell_regrown d2
          have k3 := cell_regrown c3
          have l3 := cell_regrown d3
          have k4 := cell_regrown c4
          have l4 := cell_regrown d4
          have k5 := cell_regrown c5
          have l5 := cell_regrown d5
          have k6 := cell_regrown c6
          have l6 := cell_regrown d6
          clear c0 c1 c2 c3 c4 c5 c6 d0 d1 d2 d3 d4 d5 d6
          unfold Clm.val at HT
          have r1 := fun (d : Nat) (os : Array Obj) => Calls.regrown_of (HT.out (grow (redrawn wr d) os))
          cases hq : ctrB xs[i] (xs[k]'(by omega))
          · rw [hq] at HS
            have HF := Lib.hid (show (xs.take (k + 1)).any (ctrB xs[i]) = false by rw [HS.out, HK.out]; rfl)
            simp only [hq] at r1
            clear hq HN HS HT
            refine wp_region_quiet_below (by kernel_rfl) (by kernel_rfl) ?_; (repeat (first | go_big_quiet_step ((first | with_reducible exact r1 _ _)))); refine wpQuiet_nil ?_; intro _ hw'; obtain ⟨⟨dq, osq⟩, rfl⟩ := hw'
            have B2 := Lib.hid (BX.out.trans ((below_regrown wr dq osq).mono BX.out.size))
            generalize grow (redrawn wr dq) osq = w2 at B2 ⊢
            clear r1 k0 k1 k2 k3 k4 k5 k6 l0 l1 l2 l3 l4 l5 l6
            go_wp2_with fail
            go_roundw
            case rel => exact ⟨k + 1, by omega, HF.out, B2.out, by go_num⟩
            case measure => simp [intOf]; omega
          · have HF := Lib.hid (HN.out hq)
            simp only [hq] at r1
            clear hq HN HS HT
            refine wp_region_quiet_below (by kernel_rfl) (by kernel_rfl) ?_; (repeat (first | go_big_quiet_step ((first | with_reducible exact r1 _ _)))); refine wpQuiet_nil ?_; intro _ hw'; obtain ⟨⟨dq, osq⟩, rfl⟩ := hw'
            have B2 := Lib.hid (BX.out.trans ((below_regrown wr dq osq).mono BX.out.size))
            generalize grow (redrawn wr dq) osq = w2 at B2 ⊢
            clear r1 k0 k1 k2 k3 k4 k5 k6 l0 l1 l2 l3 l4 l5 l6
            go_wp2_with fail
            go_ret
            exact ⟨ret_bool HF.out.symm, B2.out⟩
        · obtain rfl : k = i := by omega
          have HF := Lib.hid (apart_step hlt HA.out HK.out)
          go_wp2_with fail
          go_roundw
          case rel => exact ⟨k + 1, by omega, HF.out, BX.out, by go_num⟩
          case measure => simp [intOf]; omega
    · obtain rfl : i = xs.length := by omega
      go_wp2_with fail
      go_loopw [5] (fun v5 wr => ∃ i : Nat, i ≤ xs.length ∧ Hid ((xs.take i).any (cirAll xs) = false) ∧ Hid (Below w.heap.size w wr) ∧ v5 = .int .i64 i) (fun v _ => xs.length - (intOf v).toNat)
      case atStart => exact ⟨0, by omega, by simp [Hid], BW.out, rfl⟩
      case round =>
        clear BW
        obtain ⟨i, hi, HB, BW, rfl⟩ := hrel
        by_cases hlt : i < xs.length
        · have hlt0 : decide ((i : Int) < (xs.length : Int)) = true := by rw [decide_eq_true_eq]; omega
          have q1 : (0 : Int) ≤ (i : Int) := by omega
          have q2 : (i : Int) < (xs.length : Int) := by omega
          go_wp2_with fail
          go_loopw [6] (fun v6 w3 => ∃ k : Nat, k ≤ xs.length ∧ Hid ((xs.take k).any (fun d => cirB xs d.place xs[i].lo) = false) ∧ Hid (Below w.heap.size w w3) ∧ v6 = .int .i64 k) (fun v _ => xs.length - (intOf v).toNat)
          case atStart => exact ⟨0, by omega, by simp [Hid], BW.out, rfl⟩
          case round =>
            obtain ⟨k, hk, HK, BX, rfl⟩ := hrel
            obtain ⟨ab, ao, rfl, hadb, hcell⟩ := (H.out.below BX.out).1.2 (by omega)
            obtain ⟨_, e1, _, _, e4, _, _⟩ := clC_get xs i hlt
            have c1 := hcell _ _ e1
            have c4 := hcell _ _ e4
            rw [← Nat.add_assoc] at c1 c4
            have HCA := Lib.hid (show cirAll xs xs[i] = (decide (xs[i].kind = 1) && xs.any fun d => cirB xs d.place xs[i].lo) from rfl)
            have HBS := Lib.hid (any_at (p := cirAll xs) hlt)
            have HN := Lib.hid (fun (hk : k < xs.length) => HN2.out i k hlt hk)
            by_cases hkd : xs[i].kind = 1
            · have n0 : (xs[i].kind == 1) = true := by simpa using hkd
              by_cases hkl : k < xs.length
              · obtain ⟨_, _, f2, _, _, _, _⟩ := clC_get xs k hkl
                have d2 := hcell _ _ f2
                rw [← Nat.add_assoc] at d2
                have hlt1 : decide ((k : Int) < (xs.length : Int)) = true := by rw [decide_eq_true_eq]; omega
                have q3 : (0 : Int) ≤ (k : Int) := by omega
                have q4 : (k : Int) < (xs.length : Int) := by omega
                have HNN := Lib.hid (HN.out hkl hkd)
                have HS := Lib.hid (show (xs.take (k + 1)).any (fun d => cirB xs d.place xs[i].lo) = ((xs.take k).any (fun d => cirB xs d.place xs[i].lo) || cirB xs xs[k].place xs[i].lo) from any_at (p := fun d => cirB xs d.place xs[i].lo) hkl)
                have HC1 := Lib.hid (fun W (hb : Below wr.heap.size wr W) => HCi.out xs[k].place xs[i].lo W ((H.out.below BX.out).below hb))
                clear hcell e1 e4 f2 HCA HBS HN hkd
                generalize cirB xs xs[k].place xs[i].lo = q at HNN HS HC1
                generalize xs[k].place = pk at d2 HC1
                generalize hyy : xs[i].lo = yy at c4 HC1
                have HYY := Lib.hid hyy; clear hyy
                go_upto_region 15 with (fail)
                go_cut [7, 8] (fun v7 v8 wx => ∃ v, v7 = v ∧ v8 = .bool q ∧ Below wr.heap.size wr wx)
                case first =>
                  have Bd := (Below.refl wr.heap.size wr).drew
                  go_region_held3 (fun w' => w'.cell? ⟨ab, ao + k * 7 + 2, none⟩ = some (.string pk) ∧ w'.cell? ⟨ab, ao + i * 7 + 4, none⟩ = some (.int .i64 yy))
                    (first | exact ⟨k2, k4⟩ | (go_keep; done))
                    (first | (go_at_call 214; refine (HC1.out _ Bd).mono ?_; rintro e wn ⟨vv, rfl, bn⟩; (have Bd := Bd.trans (bn.mono Bd.size)); (have k2 := (Bd.cell (p := ⟨ab, ao + k * 7 + 2, none⟩) hadb).trans d2); (have k4 := (Bd.cell (p := ⟨ab, ao + i * 7 + 4, none⟩) hadb).trans c4); clear bn) | fail)
                  all_goals
                    go_wp2_with fail
                    go_meet
                    exact ⟨_, rfl, rfl, Bd⟩
                case rest =>
                  obtain ⟨v, rfl, rfl, bx⟩ := hcut
                  have B2 := Lib.hid (BX.out.trans (bx.mono BX.out.size))
                  clear bx c1 c4 d2
                  cases q
                  · have HF := Lib.hid (show (xs.take (k + 1)).any (fun d => cirB xs d.place xs[i].lo) = false by have := HS.out; rw [HK.out] at this; exact this)
                    clear HS HNN
                    go_wp2_with fail
                    go_roundw
                    case rel => exact ⟨k + 1, by omega, by have h := HF.out; first | exact h | (rw [HYY.out] at h; exact h), B2.out, by go_num⟩
                    case measure => simp [intOf]; omega
                  · have HF := Lib.hid (HNN.out rfl)
                    clear HNN HS
                    go_wp2_with fail
                    go_ret
                    exact ⟨ret_bool HF.out.symm, B2.out⟩
              · obtain rfl : k = xs.length := by omega
                have HF := Lib.hid (show (xs.take (i + 1)).any (cirAll xs) = false by
                  have h := HK.out
                  rw [List.take_length] at h
                  rw [HBS.out, HB.out, HCA.out, h]; simp)
                clear hcell e1 e4 HCA HBS HN hkd n0
                go_wp2_with fail
                go_roundw
                case rel => exact ⟨i + 1, by omega, HF.out, BX.out, by go_num⟩
                case measure => simp [intOf]; omega
            · have n0 : (xs[i].kind == 1) = false := by simpa using hkd
              have HF := Lib.hid (show (xs.take (i + 1)).any (cirAll xs) = false by rw [HBS.out, HB.out, HCA.out, decide_eq_false hkd]; rfl)
              clear hcell e1 e4 HCA HBS HN hkd
              by_cases hkl : k < xs.length
              all_goals
                go_wp2_with fail
                go_roundw
                case rel => exact ⟨i + 1, by omega, HF.out, BX.out, by go_num⟩
                case measure => simp [intOf]; omega
        · obtain rfl : i = xs.length := by omega
          have HF := Lib.hid (HY.out HA.out HB.out)
          go_wp2_with fail
          go_ret
          exact ⟨ret_bool HF.out.symm, BW.out⟩
end Go.Proofs.YtihhpmhigmegjaaGreatDoor

namespace Go.Proofs.YtihhpmhigmegjaaGreatDoor
open Go.ChangeShapes Go.WideShapes Go.ChangeAt Go.RowKit Go.Sort

set_option maxRecDepth 100000 in
theorem ctrIdx_any (c0 : Clm) (p : Clm → Bool) (xs : List Clm) (A : Option Addr) (c : Nat) (w : World) (hr : Reads w w.heap.size 7 A xs.length (clC xs)) (hm : xs.length ≤ 9223372036854775807)
    (hp : ∀ b ∈ xs, ∀ W, Below w.heap.size w W → Calls Tryz.prog 119 #[.agg #[.string c0.src, .int .i64 c0.kind, .string c0.place, .string c0.val_, .int .i64 c0.lo, .int .i64 c0.hi, .int .i64 c0.weight], b.val] W fun e w' => e = .returned (.bool (p b)) ∧ Below W.heap.size W w') :
    Calls Tryz.prog 167 #[.slice A xs.length c, .func (.func 119) #[.agg #[.string c0.src, .int .i64 c0.kind, .string c0.place, .string c0.val_, .int .i64 c0.lo, .int .i64 c0.hi, .int .i64 c0.weight]] #[]] w fun e w' => ∃ i : Int, e = .returned (.int .i64 i) ∧ decide (0 ≤ i) = xs.any p ∧ Below w.heap.size w w' := by
  have HR := Lib.hid hr; clear hr
  have HP := Lib.hid hp; clear hp
  go_enter Tryz.func167, Tryz.ntmps167
  go_wp2_with fail
  go_loopw [8] (fun v8 wr => ∃ k : Nat, k ≤ xs.length ∧ Hid ((xs.take k).any p = false) ∧ Hid (Below w.heap.size w wr) ∧ v8 = .int .i64 k) (fun i _ => xs.length - (intOf i).toNat)
  case atStart => exact ⟨0, by omega, by simp [Hid], Below.refl _ _, rfl⟩
  case round =>
    obtain ⟨k, hk, HT, BW, rfl⟩ := hrel
    by_cases hlt : k < xs.length
    · obtain ⟨ab, ao, rfl, hadb, hcell⟩ := (HR.out.below BW.out).2 (by omega)
      obtain ⟨e0, e1, e2, e3, e4, e5, e6⟩ := clC_get xs k hlt
      have c0 := hcell _ _ e0
      have c1 := hcell _ _ e1
      have c2 := hcell _ _ e2
      have c3 := hcell _ _ e3
      have c4 := hcell _ _ e4
      have c5 := hcell _ _ e5
      have c6 := hcell _ _ e6
      rw [← Nat.add_assoc] at c1 c2 c3 c4 c5 c6
      clear hcell e0 e1 e2 e3 e4 e5 e6
      have HC := Lib.hid (HP.out xs[k] (List.getElem_mem hlt) wr BW.out)
      have HS := Lib.hid (show (xs.take (k + 1)).any p = ((xs.take k).any p || p xs[k]) by rw [List.take_succ_eq_append_getElem hlt, List.any_append]; simp)
      have HY := Lib.hid (show p xs[k] = true → xs.any p = true from fun h => List.any_eq_true.2 ⟨_, List.getElem_mem hlt, h⟩)
      unfold Clm.val at HC
      generalize xs[k] = b at c0 c1 c2 c3 c4 c5 c6 HC HS HY
      cases hb : p b
      · rw [hb] at HC HS
        have HN := Lib.hid (show (xs.take (k + 1)).any p = false by rw [HS.out, HT.out]; rfl)
        clear hb
        go_wp2_with fail
        refine HC.out.mono ?_; rintro e w1 ⟨rfl, b1⟩
        go_wp2_with fail
        go_roundw
        case rel => exact ⟨k + 1, by omega, HN.out, BW.out.trans (b1.mono BW.out.size), by go_num⟩
        case measure => simp [intOf]; omega
      · rw [hb] at HC
        have HN := Lib.hid (HY.out hb)
        clear hb
        go_wp2_with fail
        refine HC.out.mono ?_; rintro e w1 ⟨rfl, b1⟩
        go_wp2_with fail
        go_ret
        exact ⟨k, rfl, by rw [HN.out]; simp, BW.out.trans (b1.mono BW.out.size)⟩
    · obtain rfl : k = xs.length := by omega
      have HN := Lib.hid (show xs.any p = false by have := HT.out; rwa [List.take_length] at this)
      go_wp2_with fail
      go_ret
      exact ⟨-1, rfl, by rw [HN.out]; rfl, BW.out⟩
theorem ctrHas_any (c0 : Clm) (p : Clm → Bool) (xs : List Clm) (A : Option Addr) (c : Nat) (w : World) (hr : Reads w w.heap.size 7 A xs.length (clC xs)) (hm : xs.length ≤ 9223372036854775807)
    (hp : ∀ b ∈ xs, ∀ W, Below w.heap.size w W → Calls Tryz.prog 119 #[.agg #[.string c0.src, .int .i64 c0.kind, .string c0.place, .string c0.val_, .int .i64 c0.lo, .int .i64 c0.hi, .int .i64 c0.weight], b.val] W fun e w' => e = .returned (.bool (p b)) ∧ Below W.heap.size W w') :
    Calls Tryz.prog 129 #[.slice A xs.length c, .func (.func 119) #[.agg #[.string c0.src, .int .i64 c0.kind, .string c0.place, .string c0.val_, .int .i64 c0.lo, .int .i64 c0.hi, .int .i64 c0.weight]] #[]] w fun e w' => e = .returned (.bool (xs.any p)) ∧ Below w.heap.size w w' := by
  have HC := Lib.hid (ctrIdx_any c0 p xs A c w hr hm hp); clear hr hp
  generalize xs.any p = r at HC ⊢
  go_enter Tryz.func129, Tryz.ntmps129
  go_wp2_with fail
  refine HC.out.mono ?_; rintro e w1 ⟨i, rfl, hi, b1⟩
  have HI := Lib.hid hi; clear hi
  go_wp2_with fail
  go_ret
  exact ⟨ret_bool HI.out, b1⟩
theorem clC_take (xs : List Clm) (n : Nat) : clC (xs.take n) = (clC xs).take (n * 7) := by
  induction n generalizing xs with
  | zero => simp [clC]
  | succ n ih =>
    cases xs with
    | nil => simp [clC]
    | cons x r =>
      have h : (n + 1) * 7 = n * 7 + 7 := by omega
      simp only [List.take_succ_cons, clC, List.flatMap_cons] at *
      rw [ih r, h, List.take_append]
      simp [Clm.cells]
theorem reads_take {w : World} {B : Nat} {a : Addr} {xs : List Clm} (n : Nat) (hn : n ≤ xs.length) (h : Reads w B 7 (some a) xs.length (clC xs)) : Reads w B 7 (some a) (xs.take n).length (clC (xs.take n)) := by
  refine ⟨clC_len _, fun h0 => ?_⟩
  have hl : 0 < xs.length := by rw [List.length_take] at h0; omega
  obtain ⟨b, off, e, hb, hc⟩ := h.2 hl
  refine ⟨b, off, e, hb, fun j u hu => hc j u ?_⟩
  rw [clC_take, List.getElem?_take] at hu
  split at hu
  · exact hu
  · cases hu
set_option maxRecDepth 100000 in
set_option maxHeartbeats 2000000 in
theorem pair_any (xs : List Clm) (hm : xs.length ≤ 1048576) (A : Option Addr) (c : Nat) (hc : xs.length ≤ c) (w : World) (h : HasClm w xs A) :
    Calls Tryz.prog 131 #[.slice A xs.length c] w fun e w' => e = .returned (.bool (!decide (apart xs))) ∧ Below w.heap.size w w' := by
  have H := Lib.hid h; clear h
  have HN := Lib.hid (fun i (hi : i < xs.length) h => (apart_not (xs := xs) hi h : ¬ apart xs))
  have HY := Lib.hid (fun h => (show apart (xs.take xs.length) → apart xs by rw [List.take_length]; exact id) h)
  obtain ⟨r, hr⟩ : ∃ r, (!decide (apart xs)) = r := ⟨_, rfl⟩
  have HR := Lib.hid hr
  rw [hr]
  clear hr
  go_enter Tryz.func131, Tryz.ntmps131
  go_wp2_with fail
  go_loopw [7] (fun v7 wr => ∃ i : Nat, i ≤ xs.length ∧ Hid (apart (xs.take i)) ∧ Hid (Below w.heap.size w wr) ∧ v7 = .int .i64 i) (fun v _ => xs.length - (intOf v).toNat)
  case atStart => exact ⟨0, by omega, by simp [Hid, apart], Below.refl _ _, rfl⟩
  case round =>
    obtain ⟨i, hi, HA, BW, rfl⟩ := hrel
    by_cases hlt : i < xs.length
    · have RT := Lib.hid ((H.out.below BW.out).1)
      obtain ⟨ab, ao, rfl, hadb, hcell⟩ := (H.out.below BW.out).1.2 (by omega)
      obtain ⟨e0, e1, e2, e3, e4, e5, e6⟩ := clC_get xs i hlt
      have c0 := hcell _ _ e0
      have c1 := hcell _ _ e1
      have c2 := hcell _ _ e2
      have c3 := hcell _ _ e3
      have c4 := hcell _ _ e4
      have c5 := hcell _ _ e5
      have c6 := hcell _ _ e6
      rw [← Nat.add_assoc] at c1 c2 c3 c4 c5 c6
      clear hcell e0 e1 e2 e3 e4 e5 e6
      have HT := Lib.hid (fun W (hB : Below wr.heap.size wr W) => ctrHas_any xs[i] (ctrB xs[i]) (xs.take i) (some ⟨ab, ao, none⟩) c W (reads_take i hi ((RT.out.below hB).more hB.size)) (by rw [List.length_take]; omega) (fun b _ W' _ => implCtr_any xs[i] b W'))
      have hlen : (xs.take i).length = i := by rw [List.length_take]; omega
      have HL := Lib.hid hlen; clear hlen
      rw [HL.out] at HT
      have T3 := Lib.hid (fun b : Clm => blks_one wr 81 #[.string b.src, .int .i64 b.kind, .string b.place, .string b.val_, .int .i64 b.lo, .int .i64 b.hi, .int .i64 b.weight])
      have HNi := Lib.hid (HN.out i hlt)
      have HSt := Lib.hid (apart_step hlt HA.out)
      generalize (xs.take i).any (ctrB xs[i]) = q at HT HNi HSt
      have q1 : (0 : Int) ≤ (i : Int) := by omega
      have q2 : (i : Int) ≤ (c : Int) := by omega
      have q3 : ((i : Int)).toNat = i := by omega
      have q4 : i ≤ c := by omega
      generalize xs[i] = b at c0 c1 c2 c3 c4 c5 c6 HT
      go_upto_region 4 with (fail)
      generalize hW2 : wr.alloc (.cells #[.string b.src, .int .i64 b.kind, .string b.place, .string b.val_, .int .i64 b.lo, .int .i64 b.hi, .int .i64 b.weight] 81) = W2
      obtain ⟨kf, bf, hsz⟩ := T3.out b W2 hW2.symm
      clear hW2 hsz c0 c1 c2 c3 c4 c5 c6
      have BF := Lib.hid (BW.out.trans (bf.mono BW.out.size))
      have HT2 := Lib.hid (HT.out W2.drew bf.drew)
      obtain ⟨y0, y1, y2, y3, y4, y5, y6⟩ := cells_7 kf
      clear kf bf HT
      go_still_tail 5, (by kernel_rfl)
      change wpList _ _ _ _ _ (World.drew _)
      go_wp2_with fail
      refine HT2.out.mono ?_; rintro e w3 ⟨rfl, b3⟩
      have B3 := Lib.hid (BF.out.trans ((Below.refl _ _).drew.trans (b3.mono (by simp)) |>.mono BF.out.size))
      clear b3
      cases q
      · have HF := Lib.hid (HSt.out rfl)
        clear HSt HNi
        go_wp2_with fail
        go_roundw
        case rel => exact ⟨i + 1, by omega, HF.out, B3.out, by go_num⟩
        case measure => simp [intOf]; omega
      · have HF := Lib.hid (show r = true by rw [← HR.out, decide_eq_false (HNi.out rfl)]; rfl)
        clear HSt HNi
        go_wp2_with fail
        go_ret
        exact ⟨ret_bool HF.out.symm, B3.out⟩
    · obtain rfl : i = xs.length := by omega
      have HF := Lib.hid (show r = false by rw [← HR.out, decide_eq_true (HY.out HA.out)]; rfl)
      go_wp2_with fail
      go_ret
      exact ⟨ret_bool HF.out.symm, BW.out⟩
/-- A claim and a place to begin with, as the program asks. -/
def cirPr (xs : List Clm) (c d : Clm) : Bool := decide (c.kind = 1) && (decide (d.kind = 1) && (inB c.lo d.lo d.hi && cirB xs d.place c.lo))
set_option maxRecDepth 100000 in
set_option maxHeartbeats 4000000 in
theorem circle_any (xs : List Clm) (hm : xs.length ≤ 1048576) (A : Option Addr) (c : Nat) (w : World) (h : HasClm w xs A) :
    Calls Tryz.prog 132 #[.slice A xs.length c] w fun e w' => e = .returned (.bool (circP xs)) ∧ Below w.heap.size w w' := by
  have H := Lib.hid h; clear h
  have HCi := Lib.hid (fun p y => implCir_any xs p y hm A c)
  have HX := Lib.hid (show circP xs = (xs.take xs.length).any (fun c => xs.any (cirPr xs c)) by rw [List.take_length]; rfl)
  have HYes := Lib.hid (show ∀ (i k : Nat) (hi : i < xs.length) (hk : k < xs.length), cirPr xs xs[i] xs[k] = true → circP xs = true from fun i k hi hk h => List.any_eq_true.2 ⟨_, List.getElem_mem hi, List.any_eq_true.2 ⟨_, List.getElem_mem hk, h⟩⟩)
  generalize circP xs = r at *
  go_enter Tryz.func132, Tryz.ntmps132
  go_wp2_with fail
  go_loopw [11] (fun v11 wr => ∃ i : Nat, i ≤ xs.length ∧ Hid ((xs.take i).any (fun c => xs.any (cirPr xs c)) = false) ∧ Hid (Below w.heap.size w wr) ∧ v11 = .int .i64 i) (fun v _ => xs.length - (intOf v).toNat)
  case atStart => exact ⟨0, by omega, by simp [Hid], Below.refl _ _, rfl⟩
  case round =>
    obtain ⟨i, hi, HA, BW, rfl⟩ := hrel
    by_cases hlt : i < xs.length
    · obtain ⟨ab, ao, rfl, hadb, hcell⟩ := (H.out.below BW.out).1.2 (by omega)
      obtain ⟨e0, e1, e2, e3, e4, e5, e6⟩ := clC_get xs i hlt
      have c0 := hcell _ _ e0
      have c1 := hcell _ _ e1
      have c2 := hcell _ _ e2
      have c3 := hcell _ _ e3
      have c4 := hcell _ _ e4
      have c5 := hcell _ _ e5
      have c6 := hcell _ _ e6
      rw [← Nat.add_assoc] at c1 c2 c3 c4 c5 c6
      clear hcell e0 e1 e2 e3 e4 e5 e6
      have hlt0 : decide ((i : Int) < (xs.length : Int)) = true := by rw [decide_eq_true_eq]; omega
      have HAS := Lib.hid (show (xs.take (i + 1)).any (fun c => xs.any (cirPr xs c)) = ((xs.take i).any (fun c => xs.any (cirPr xs c)) || xs.any (cirPr xs xs[i])) from any_at (p := fun c => xs.any (cirPr xs c)) hlt)
      have HYi := Lib.hid (fun k hk => HYes.out i k hlt hk)
      have T3 := Lib.hid (fun b : Clm => blks_one wr 81 #[.string b.src, .int .i64 b.kind, .string b.place, .string b.val_, .int .i64 b.lo, .int .i64 b.hi, .int .i64 b.weight])
      generalize xs[i] = b at c0 c1 c2 c3 c4 c5 c6 HAS HYi
      go_upto_region 4 with (fail)
      generalize hW2 : wr.alloc (.cells #[.string b.src, .int .i64 b.kind, .string b.place, .string b.val_, .int .i64 b.lo, .int .i64 b.hi, .int .i64 b.weight] 81) = W2
      obtain ⟨kf, bf, hsz⟩ := T3.out b W2 hW2.symm
      clear hW2 hsz c0 c1 c2 c3 c4 c5 c6
      have BF := Lib.hid (BW.out.trans (bf.mono BW.out.size))
      have KF := Lib.hid kf; have KL := Lib.hid kf.lt
      clear kf bf
      go_wp2_with fail
      go_loopw [17] (fun v17 w3 => ∃ k : Nat, k ≤ xs.length ∧ Hid ((xs.take k).any (cirPr xs b) = false) ∧ Hid (Below W2.heap.size W2 w3) ∧ v17 = .int .i64 k) (fun v _ => xs.length - (intOf v).toNat)
      case atStart => exact ⟨0, by omega, by simp [Hid], Below.refl _ _, rfl⟩
      case round =>
        obtain ⟨k, hk, HK, BX, rfl⟩ := hrel
        have BY := Lib.hid (BF.out.trans (BX.out.mono BF.out.size))
        by_cases hkl : k < xs.length
        · obtain ⟨ab', ao', heq, hadb', hcell⟩ := (H.out.below BY.out).1.2 (by omega)
          simp only [Option.some.injEq, Addr.mk.injEq, and_true] at heq
          obtain ⟨rfl, rfl⟩ := heq
          obtain ⟨f0, f1, f2, f3, f4, f5, f6⟩ := clC_get xs k hkl
          have d0 := hcell _ _ f0
          have d1 := hcell _ _ f1
          have d2 := hcell _ _ f2
          have d3 := hcell _ _ f3
          have d4 := hcell _ _ f4
          have d5 := hcell _ _ f5
          have d6 := hcell _ _ f6
          rw [← Nat.add_assoc] at d1 d2 d3 d4 d5 d6
          clear hcell f0 f1 f2 f3 f4 f5 f6
          have hlt1 : decide ((k : Int) < (xs.length : Int)) = true := by rw [decide_eq_true_eq]; omega
          have HS := Lib.hid (any_at (p := cirPr xs b) hkl)
          have HYk := Lib.hid (HYi.out k hkl)
          have T4 := Lib.hid (fun b : Clm => blks_one wr 81 #[.string b.src, .int .i64 b.kind, .string b.place, .string b.val_, .int .i64 b.lo, .int .i64 b.hi, .int .i64 b.weight])
          generalize xs[k] = dd at d0 d1 d2 d3 d4 d5 d6 HS HYk
          have HPr := Lib.hid (show cirPr xs b dd = (decide (b.kind = 1) && (decide (dd.kind = 1) && (inB b.lo dd.lo dd.hi && cirB xs dd.place b.lo))) from rfl)
          have HC1 := Lib.hid (fun W (hb : Below w.heap.size w W) => HCi.out dd.place b.lo W (H.out.below hb))
          have HI := Lib.hid (implHas_any dd.lo dd.hi b.lo)
          have n0 : (b.kind == 1) = decide (b.kind = 1) := rfl
          have n1 : (dd.kind == 1) = decide (dd.kind = 1) := rfl
          have n2 : (b.kind != 1) = !decide (b.kind = 1) := rfl
          have n3 : (dd.kind != 1) = !decide (dd.kind = 1) := rfl
          have KX := Lib.hid (KF.out.below BX.out KL.out)
          have KXL := Lib.hid KX.out.lt
          go_upto_region 7 with (fail)
          generalize hW3 : wr.alloc (.cells #[.string dd.src, .int .i64 dd.kind, .string dd.place, .string dd.val_, .int .i64 dd.lo, .int .i64 dd.hi, .int .i64 dd.weight] 81) = W3
          obtain ⟨kd, bd, hsz⟩ := T4.out dd W3 hW3.symm
          have KB := Lib.hid (KX.out.below bd KXL.out)
          clear hW3 hsz d0 d1 d2 d3 d4 d5 d6
          have BZ := Lib.hid (BX.out.trans (bd.mono BX.out.size))
          have KD := Lib.hid kd
          have BYZ := Lib.hid (BF.out.trans (BZ.out.mono BF.out.size))
          obtain ⟨x0, x1, x2, x3, x4, x5, x6⟩ := cells_7 KB.out
          obtain ⟨y0, y1, y2, y3, y4, y5, y6⟩ := cells_7 KD.out
          clear kd bd
          generalize cirPr xs b dd = q at HS HYk HPr
          generalize decide (b.kind = 1) = s0 at *
          generalize decide (dd.kind = 1) = s1 at *
          generalize inB b.lo dd.lo dd.hi = s2 at *
          generalize cirB xs dd.place b.lo = s3 at *
          rcases (show (s0 && (s1 && s2)) = false ∨ (s0 = true ∧ s1 = true ∧ s2 = true) by cases s0 <;> cases s1 <;> cases s2 <;> simp) with hq | ⟨rfl, rfl, rfl⟩
          · have HF := Lib.hid (show (xs.take (k + 1)).any (cirPr xs b) = false by rw [HS.out, HK.out, HPr.out]; cases s0 <;> cases s1 <;> cases s2 <;> simp at hq ⊢)
            clear HS HPr HYk
            cases s0 <;> cases s1 <;> cases s2
            all_goals first | (simp at hq; done) | skip
            all_goals
              clear hq
              go_wp2_with (first | (go_at_call 158; ((with_reducible refine (HI.out _).mono ?_); rintro e wn ⟨rfl, bn⟩; (have BZ := Lib.hid (BZ.out.trans (bn.mono BZ.out.size))); clear bn)) | fail)
              go_roundw
              case rel => exact ⟨k + 1, by omega, HF.out, BZ.out, by go_num⟩
              case measure => simp [intOf]; omega
          · have HQ := Lib.hid (show q = s3 by rw [HPr.out]; simp)
            clear HPr
            go_wp2_with fail
            refine (HI.out _).mono ?_; rintro e w4 ⟨rfl, bn⟩
            have B4 := Lib.hid (BZ.out.trans (bn.mono BZ.out.size))
            have B5 := Lib.hid (BYZ.out.trans (bn.mono BYZ.out.size))
            obtain ⟨x0, x1, x2, x3, x4, x5, x6⟩ := cells_7 (KB.out.below bn KB.out.lt)
            obtain ⟨y0, y1, y2, y3, y4, y5, y6⟩ := cells_7 (KD.out.below bn KD.out.lt)
            clear bn
            go_wp2_with fail
            refine (HC1.out _ B5.out).mono ?_; rintro e w5 ⟨v, rfl, bn⟩
            have B6 := Lib.hid (B4.out.trans (bn.mono B4.out.size))
            have B7 := Lib.hid (B5.out.trans (bn.mono B5.out.size))
            clear bn
            cases s3
            · have HF := Lib.hid (show (xs.take (k + 1)).any (cirPr xs b) = false by rw [HS.out, HK.out, HQ.out]; rfl)
              clear HS HYk HQ
              go_wp2_with fail
              go_roundw
              case rel => exact ⟨k + 1, by omega, HF.out, B6.out, by go_num⟩
              case measure => simp [intOf]; omega
            · have HF := Lib.hid (HYk.out HQ.out)
              clear HS HYk HQ
              go_wp2_with fail
              go_ret
              exact ⟨ret_bool HF.out.symm, B7.out⟩
        · obtain rfl : k = xs.length := by omega
          have HF := Lib.hid (show (xs.take (i + 1)).any (fun c => xs.any (cirPr xs c)) = false by
            have h := HK.out
            rw [List.take_length] at h
            rw [HAS.out, HA.out, h]; rfl)
          go_wp2_with fail
          go_roundw
          case rel => exact ⟨i + 1, by omega, HF.out, BY.out, by go_num⟩
          case measure => simp [intOf]; omega
    · obtain rfl : i = xs.length := by omega
      have HF := Lib.hid (HX.out.trans HA.out)
      go_wp2_with fail
      go_ret
      exact ⟨ret_bool HF.out.symm, BW.out⟩
theorem implCon_any (xs : List Clm) (hm : xs.length ≤ 1048576) (A : Option Addr) (c : Nat) (hc : xs.length ≤ c) (w : World) (h : HasClm w xs A) :
    Calls Tryz.prog 68 #[.slice A xs.length c] w fun e w' => e = .returned (.bool (conB xs)) ∧ Below w.heap.size w w' := by
  have H1 := Lib.hid (pair_any xs hm A c hc w h)
  have H2 := Lib.hid (fun W (hB : Below w.heap.size w W) => circle_any xs hm A c W (h.below hB)); clear h
  have HX := Lib.hid (show conB xs = (!(!decide (apart xs)) && !circP xs) by rw [circP_eq, Bool.not_not]; rfl)
  generalize conB xs = r at HX ⊢
  generalize (!decide (apart xs)) = q1 at *
  generalize circP xs = q2 at *
  cases q1
  all_goals
    go_enter Tryz.func68, Tryz.ntmps68
    go_wp2_with fail
    refine H1.out.mono ?_; rintro e w1 ⟨rfl, b1⟩
    have B1 := Lib.hid b1; clear b1
    have H3 := Lib.hid (H2.out w1 B1.out)
    go_wp2_with (first | (go_at_call 132; refine H3.out.mono ?_; rintro e wn ⟨rfl, bn⟩; (have B1 := Lib.hid (B1.out.trans (bn.mono B1.out.size))); clear bn) | fail)
    go_ret
    exact ⟨ret_bool (by rw [HX.out]; simp), B1.out⟩
end Go.Proofs.YtihhpmhigmegjaaGreatDoor

namespace Go.Proofs.YtihhpmhigmegjaaGreatDoor
open Go.ChangeShapes Go.WideShapes Go.ChangeAt Go.RowKit Go.Sort

theorem keep_snoc (I : List Nat) (c : Clm) : ∀ k xs, keepN I k (xs ++ [c]) = keepN I k xs ++ (if k + xs.length ∈ I then [] else [c])
  | k, [] => by simp [keepN]
  | k, d :: r => by
    rw [List.cons_append, keepN, keepN, keep_snoc I c (k + 1) r]
    have e : k + (d :: r).length = k + 1 + r.length := by simp; omega
    rw [e]
    by_cases h : k ∈ I
    · rw [if_pos h, if_pos h]
    · rw [if_neg h, if_neg h]; rfl
theorem keep_at {I : List Nat} {xs : List Clm} {k : Nat} (h : k < xs.length) : keepN I 0 (xs.take (k + 1)) = if k ∈ I then keepN I 0 (xs.take k) else keepN I 0 (xs.take k) ++ [xs[k]] := by
  rw [List.take_succ_eq_append_getElem h, keep_snoc]
  have e : 0 + (xs.take k).length = k := by rw [List.length_take]; omega
  rw [e]
  split <;> simp
def restN (I : List Nat) (n : Nat) : List Nat := (List.range n).filter fun i => decide (i ∉ I)
theorem rest_at (I : List Nat) (n : Nat) : restN I (n + 1) = if n ∈ I then restN I n else restN I n ++ [n] := by
  unfold restN
  rw [List.range_succ, List.filter_append]
  by_cases h : n ∈ I <;> simp [h]
theorem rest_lt {I : List Nat} {n : Nat} : ∀ i ∈ restN I n, i < n := fun i h => by
  unfold restN at h
  rw [List.mem_filter, List.mem_range] at h
  exact h.1
theorem rest_len (I : List Nat) (n : Nat) : (restN I n).length ≤ n := by
  unfold restN
  have := List.length_filter_le (fun i => decide (i ∉ I)) (List.range n)
  simpa using this
def chos (xs : List Clm) (J : List Nat) : List Clm := J.filterMap fun j => xs[j]?
theorem chos_at {xs : List Clm} {J : List Nat} {k : Nat} (h : k < J.length) (hj : J[k] < xs.length) : chos xs (J.take (k + 1)) = chos xs (J.take k) ++ [xs[J[k]]] := by
  unfold chos
  rw [List.take_succ_eq_append_getElem h, List.filterMap_append]
  simp [List.getElem?_eq_getElem hj]
theorem chos_rest (I : List Nat) (xs : List Clm) : ∀ n, n ≤ xs.length → chos xs (restN I n) = keepN I 0 (xs.take n)
  | 0, _ => rfl
  | n + 1, h => by
    rw [rest_at, keep_at (by omega), ← chos_rest I xs n (by omega)]
    split
    · rfl
    · unfold chos
      rw [List.filterMap_append]
      simp [List.getElem?_eq_getElem (show n < xs.length by omega)]
theorem clC_add (L : List Clm) (b : Clm) : clC (L ++ [b]) = clC L ++ [.string b.src, .int .i64 b.kind, .string b.place, .string b.val_, .int .i64 b.lo, .int .i64 b.hi, .int .i64 b.weight] := by simp [clC, Clm.cells]
theorem new_cl (w : World) (t : TypeId) (b : Clm) : Reads (w.alloc (.cells #[.string b.src, .int .i64 b.kind, .string b.place, .string b.val_, .int .i64 b.lo, .int .i64 b.hi, .int .i64 b.weight] t)) (w.alloc (.cells #[.string b.src, .int .i64 b.kind, .string b.place, .string b.val_, .int .i64 b.lo, .int .i64 b.hi, .int .i64 b.weight] t)).heap.size 7 (some ⟨w.heap.size, 0, none⟩) 1 [.string b.src, .int .i64 b.kind, .string b.place, .string b.val_, .int .i64 b.lo, .int .i64 b.hi, .int .i64 b.weight] :=
  blk_rd (L := [.string b.src, .int .i64 b.kind, .string b.place, .string b.val_, .int .i64 b.lo, .int .i64 b.hi, .int .i64 b.weight]) (n := 1) (Blk.new w t #[.string b.src, .int .i64 b.kind, .string b.place, .string b.val_, .int .i64 b.lo, .int .i64 b.hi, .int .i64 b.weight]) rfl
theorem ints_at {J : List Nat} {k : Nat} (h : k < J.length) : (inC (ints J))[k]? = some (.int .i64 (J[k] : Int)) := by
  have := inC_get (ints J) k (by rw [ints_len]; exact h)
  rw [this]
  simp [ints]
theorem ints_add (J : List Nat) (n : Nat) : inC (ints (J ++ [n])) = inC (ints J) ++ [.int .i64 (n : Int)] := by simp [ints, inC]
/-- Claims that are as described, and not too long. -/
structure Fine (xs : List Clm) : Prop where
  ok : ∀ c ∈ xs, clmB c = true
  len : xs.length ≤ 1048576
  size : ∀ b ∈ xs, b.Ok
theorem clm_parent {c : Clm} (h : clmB c = true) (hk : c.kind = 1) : c.val_ ≠ ⟨#[]⟩ := by
  intro e
  unfold clmB valB at h
  rw [if_neg (by omega), if_pos hk] at h
  simp only [Bool.and_eq_true] at h
  have hw := h.2.1.1
  rw [e] at hw
  revert hw
  decide +kernel
theorem Fine.keep {xs : List Clm} (h : Fine xs) (I : List Nat) : Fine (keepN I 0 xs) :=
  ⟨fun c hc => h.ok c (keep_mem I 0 xs c hc), Nat.le_trans (keep_le I 0 xs) h.len, fun c hc => h.size c (keep_mem I 0 xs c hc)⟩
theorem has_own {w : World} {base : Nat} {L : List Clm} {A : Option Addr} {c : Nat} (hf : Fine L) (h : w.ownsRow base 81 7 (.slice A L.length c) L.length (clC L)) : HasClm w L A :=
  ⟨Reads.of_own h, by have := hf.len; omega, hf.size⟩
set_option maxRecDepth 100000 in
theorem specHas_any (L : List Int) (x : Int) (hm : L.length ≤ 9223372036854775807) (A : Option Addr) (c : Nat) (w : World) (hr : Reads w w.heap.size 1 A L.length (inC L)) :
    Calls Tryz.prog 95 #[.slice A L.length c, .int .i64 x] w fun e w' => e = .returned (.bool (decide (x ∈ L))) ∧ w = w' := by
  have HR := Lib.hid hr; clear hr
  have HE := Lib.hid (show decide (0 ≤ ixI x L) = decide (x ∈ L) from by rw [decide_eq_decide]; exact ixI_mem x L)
  have H0 := Lib.hid (ixAt_zero x L)
  generalize decide (x ∈ L) = r at HE ⊢
  go_enter Tryz.func95, Tryz.ntmps95
  go_wp2_with fail
  go_loop [5] (fun v5 => ∃ k : Nat, k ≤ L.length ∧ Hid (ixI x L = ixAt x L k) ∧ v5 = .int .i64 k) (fun i => L.length - (intOf i).toNat)
  case atStart => exact ⟨0, by omega, H0.out.symm, rfl⟩
  case round =>
    obtain ⟨k, hk, HK, rfl⟩ := hrel
    by_cases hlt : k < L.length
    · obtain ⟨ab, ao, rfl, hadb, hcell⟩ := HR.out.2 (by omega)
      have c0 := hcell _ _ (inC_get L k hlt)
      clear hcell
      by_cases he : x = L[k]
      · have HX := Lib.hid (show r = true by rw [← HE.out, HK.out, ixAt_hit hlt he]; simp)
        have hc : (L[k] == x) = true := by simpa using he.symm
        clear he
        generalize L[k] = a at c0 hc
        go_wp2_with fail
        go_ret
        exact ⟨ret_bool HX.out.symm, rfl⟩
      · have HX := Lib.hid (HK.out.trans (ixAt_miss hlt he))
        have hc : (L[k] == x) = false := by rw [beq_eq_false_iff_ne]; exact fun e => he e.symm
        clear he
        generalize L[k] = a at c0 hc
        go_wp2_with fail
        go_round
        case rel => exact ⟨k + 1, by omega, HX.out, by go_num⟩
        case measure => simp [intOf]; omega
    · obtain rfl : k = L.length := by omega
      have HX := Lib.hid (show r = false by rw [← HE.out, HK.out, ixAt_end]; rfl)
      go_wp2_with fail
      go_ret
      exact ⟨ret_bool HX.out.symm, rfl⟩
set_option maxRecDepth 100000 in
set_option maxHeartbeats 2000000 in
theorem specRest_any (n : Nat) (hn : n ≤ 1048576) (I : List Nat) (hm : I.length ≤ 1048576) (A A' : Option Addr) (c c' : Nat) (w : World) (hr : Reads w w.heap.size 1 A' I.length (inC (ints I))) :
    Calls Tryz.prog 113 #[.slice A n c, .slice A' I.length c'] w fun e w' => ∃ v, e = .returned v ∧ w'.ownsRow w.heap.size 2 1 v (restN I n).length (inC (ints (restN I n))) ∧ Below w.heap.size w w' := by
  obtain ⟨i0, hi0, hz0, hz1, hz2⟩ := info_parts infoInt
  have HR := Lib.hid hr; clear hr
  have OW := Lib.hid (World.ownsRow_made (e := 2) (base := w.heap.size) (size := 1) w #[] 0 (Nat.le_refl _) (by decide) rfl)
  go_enter Tryz.func113, Tryz.ntmps113
  go_wp2_with fail
  go_loopw [5, 6] (fun v5 v6 wr => ∃ (k m : Nat) (B : Option Addr) (d : Nat), k ≤ n ∧ m ≤ k ∧ Hid ((restN I k).length = m) ∧ v5 = .slice B m d ∧ Hid (wr.ownsRow w.heap.size 2 1 (.slice B m d) m (inC (ints (restN I k)))) ∧ Hid (Below w.heap.size w wr) ∧ v6 = .int .i64 k) (fun _ i _ => n - (intOf i).toNat)
  case atStart => exact ⟨0, 0, _, 0, by omega, by omega, rfl, rfl, OW.out, (Below.refl _ _).alloc (Nat.le_refl _) _, rfl⟩
  case round =>
    obtain ⟨k, m, B, d, hk, hmk, HN, rfl, HO, BW, rfl⟩ := hrel
    by_cases hlt : k < n
    · have HH := Lib.hid (by have := specHas_any (ints I) (k : Int) (by rw [ints_len]; omega) A' c' wr (by rw [ints_len]; exact (HR.out.below BW.out).more BW.out.size); rw [ints_len] at this; exact this)
      have HS := Lib.hid (rest_at I k)
      by_cases hi : k ∈ I
      · rw [decide_eq_true (ints_mem.2 hi)] at HH
        rw [if_pos hi] at HS
        clear hi
        go_wp2_with fail
        refine HH.out.mono ?_; rintro e w1 ⟨rfl, rfl⟩
        go_wp2_with fail
        go_roundw
        case rel => exact ⟨k + 1, m, B, d, by omega, by omega, by rw [HS.out]; exact HN.out, rfl, by rw [HS.out]; exact HO.out, BW.out, by go_num⟩
        case measure => simp [intOf]; omega
      · rw [decide_eq_false (fun h => hi (ints_mem.1 h))] at HH
        rw [if_neg hi] at HS
        clear hi
        go_wp2_with fail
        refine HH.out.mono ?_; rintro e w1 ⟨rfl, rfl⟩
        go_wp2_with (at_builtin; refine wpList_append_any _ rfl (.tmp 18) (.tmp 20) _ rfl w.heap.size 2 i0 _ 1 8 Tryz.underlying31 hi0 hz0 hz1 hz2 rfl (by omega) (.slice B m d) m (inC (ints (restN I k))) rfl (HO.out.alloc _) _ (some ⟨wr.heap.size, 0, none⟩) 1 1 [.int .i64 k] rfl (new_in1 _ _ _) (by simp [Value.oneCell']) (by simp only [maxLen]; omega) (by omega) (by have := BW.out.size; simp; omega) ?_; intro v4 w4 hown4 hg4 hat4; obtain ⟨B4, d4, rfl, _⟩ := own_shape hown4)
        go_roundw
        case rel => exact ⟨k + 1, m + 1, B4, d4, by omega, by omega, by have := HN.out; rw [HS.out]; simp [Hid, this], rfl, by rw [HS.out, ints_add]; exact hown4, below_own (BW.out.alloc BW.out.size _) (HO.out.alloc _) hg4 (Nat.le_refl _) (by have := BW.out.size; simp; omega), by go_num⟩
        case measure => simp [intOf]; omega
    · obtain rfl : k = n := by omega
      have HN' := HN.out
      go_wp2_with fail
      go_ret
      exact ⟨_, rfl, by rw [HN']; exact HO.out, BW.out⟩
set_option maxRecDepth 100000 in
set_option maxHeartbeats 2000000 in
theorem specChos_any (xs : List Clm) (J : List Nat) (hJ : ∀ j ∈ J, j < xs.length) (hm : J.length ≤ 1048576) (hx : xs.length ≤ 1048576) (A A' : Option Addr) (c c' : Nat) (w : World) (h : Reads w w.heap.size 7 A xs.length (clC xs)) (hr : Reads w w.heap.size 1 A' J.length (inC (ints J))) :
    Calls Tryz.prog 112 #[.slice A xs.length c, .slice A' J.length c'] w fun e w' => ∃ v, e = .returned v ∧ w'.ownsRow w.heap.size 81 7 v (chos xs J).length (clC (chos xs J)) ∧ Below w.heap.size w w' := by
  obtain ⟨i0, hi0, hz0, hz1, hz2⟩ := info_parts infoClm
  have H := Lib.hid h; have HR := Lib.hid hr; clear h hr
  have HJ := Lib.hid hJ; clear hJ
  have OW := Lib.hid (World.ownsRow_made (e := 81) (base := w.heap.size) (size := 7) w #[] 0 (Nat.le_refl _) (by decide) rfl)
  have HE := Lib.hid (show chos xs J = chos xs (J.take J.length) by rw [List.take_length])
  generalize chos xs J = R at HE ⊢
  go_enter Tryz.func112, Tryz.ntmps112
  go_wp2_with fail
  go_loopw [5, 6] (fun v5 v6 wr => ∃ (k m : Nat) (B : Option Addr) (d : Nat), k ≤ J.length ∧ m ≤ k ∧ Hid ((chos xs (J.take k)).length = m) ∧ v5 = .slice B m d ∧ Hid (wr.ownsRow w.heap.size 81 7 (.slice B m d) m (clC (chos xs (J.take k)))) ∧ Hid (Below w.heap.size w wr) ∧ v6 = .int .i64 k) (fun _ i _ => J.length - (intOf i).toNat)
  case atStart => exact ⟨0, 0, _, 0, by omega, by omega, rfl, rfl, OW.out, (Below.refl _ _).alloc (Nat.le_refl _) _, rfl⟩
  case round =>
    obtain ⟨k, m, B, d, hk, hmk, HN, rfl, HO, BW, rfl⟩ := hrel
    by_cases hlt : k < J.length
    · obtain ⟨jb, jo, rfl, hjdb, hjcell⟩ := (HR.out.below BW.out).2 (by omega)
      have j0 := hjcell _ _ (ints_at hlt)
      clear hjcell
      have hjl := HJ.out _ (List.getElem_mem hlt)
      have HS := Lib.hid (chos_at hlt hjl)
      generalize J[k] = i at j0 hjl HS
      obtain ⟨ab, ao, rfl, hadb, hcell⟩ := (H.out.below BW.out).2 (by omega)
      obtain ⟨e0, e1, e2, e3, e4, e5, e6⟩ := clC_get xs i hjl
      have c0 := hcell _ _ e0
      have c1 := hcell _ _ e1
      have c2 := hcell _ _ e2
      have c3 := hcell _ _ e3
      have c4 := hcell _ _ e4
      have c5 := hcell _ _ e5
      have c6 := hcell _ _ e6
      rw [← Nat.add_assoc] at c1 c2 c3 c4 c5 c6
      clear hcell e0 e1 e2 e3 e4 e5 e6
      generalize xs[i] = b at c0 c1 c2 c3 c4 c5 c6 HS
      go_wp2_with (at_builtin; refine wpList_append_any _ rfl (.tmp 14) (.tmp 22) _ rfl w.heap.size 81 i0 _ 7 80 Tryz.underlying24 hi0 hz0 hz1 hz2 rfl (by omega) (.slice B m d) m (clC (chos xs (J.take k))) rfl (HO.out.alloc _) _ (some ⟨wr.heap.size, 0, none⟩) 1 1 [.string b.src, .int .i64 b.kind, .string b.place, .string b.val_, .int .i64 b.lo, .int .i64 b.hi, .int .i64 b.weight] rfl (new_cl _ _ _) (by simp [Value.oneCell']) (by simp only [maxLen]; omega) (by omega) (by have := BW.out.size; simp; omega) ?_; intro v4 w4 hown4 hg4 hat4; obtain ⟨B4, d4, rfl, _⟩ := own_shape hown4)
      go_roundw
      case rel => exact ⟨k + 1, m + 1, B4, d4, by omega, by omega, by have := HN.out; rw [HS.out]; simp [Hid, this], rfl, by rw [HS.out, clC_add]; exact hown4, below_own (BW.out.alloc BW.out.size _) (HO.out.alloc _) hg4 (Nat.le_refl _) (by have := BW.out.size; simp; omega), by go_num⟩
      case measure => simp [intOf]; omega
    · obtain rfl : k = J.length := by omega
      have HN' := HN.out
      go_wp2_with fail
      go_ret
      exact ⟨_, rfl, by rw [HE.out, HN']; exact HO.out, BW.out⟩
set_option maxRecDepth 100000 in
set_option maxHeartbeats 2000000 in
theorem kept_any (xs : List Clm) (I : List Nat) (hm : I.length ≤ 1048576) (hx : xs.length ≤ 1048576) (A A' : Option Addr) (c c' : Nat) (w : World) (h : Reads w w.heap.size 7 A xs.length (clC xs)) (hr : Reads w w.heap.size 1 A' I.length (inC (ints I))) :
    Calls Tryz.prog 109 #[.slice A xs.length c, .slice A' I.length c'] w fun e w' => ∃ v, e = .returned v ∧ w'.ownsRow w.heap.size 81 7 v (keepN I 0 xs).length (clC (keepN I 0 xs)) ∧ Below w.heap.size w w' := by
  obtain ⟨i0, hi0, hz0, hz1, hz2⟩ := info_parts infoClm
  have H := Lib.hid h; have HR := Lib.hid hr; clear h hr
  have HE := Lib.hid (show keepN I 0 xs = keepN I 0 (xs.take xs.length) by rw [List.take_length])
  generalize keepN I 0 xs = R at HE ⊢
  go_enter Tryz.func109, Tryz.ntmps109
  go_wp2_with fail
  go_loopw [5, 10] (fun v5 v10 wr => ∃ (k m : Nat) (B : Option Addr) (d : Nat), k ≤ xs.length ∧ m ≤ k ∧ Hid ((keepN I 0 (xs.take k)).length = m) ∧ v5 = .slice B m d ∧ Hid (wr.ownsRow w.heap.size 81 7 (.slice B m d) m (clC (keepN I 0 (xs.take k)))) ∧ Hid (Below w.heap.size w wr) ∧ v10 = .int .i64 k) (fun _ i _ => xs.length - (intOf i).toNat)
  case atStart => exact ⟨0, 0, none, 0, by omega, by omega, rfl, rfl, World.ownsRow_nil _ _ _ _, Below.refl _ _, rfl⟩
  case round =>
    obtain ⟨k, m, B, d, hk, hmk, HN, rfl, HO, BW, rfl⟩ := hrel
    by_cases hlt : k < xs.length
    · obtain ⟨ab, ao, rfl, hadb, hcell⟩ := (H.out.below BW.out).2 (by omega)
      obtain ⟨e0, e1, e2, e3, e4, e5, e6⟩ := clC_get xs k hlt
      have c0 := hcell _ _ e0
      have c1 := hcell _ _ e1
      have c2 := hcell _ _ e2
      have c3 := hcell _ _ e3
      have c4 := hcell _ _ e4
      have c5 := hcell _ _ e5
      have c6 := hcell _ _ e6
      rw [← Nat.add_assoc] at c1 c2 c3 c4 c5 c6
      clear hcell e0 e1 e2 e3 e4 e5 e6
      have HS := Lib.hid (keep_at (I := I) hlt)
      have T3 := Lib.hid (fun b : Clm => blks_one wr 81 #[.string b.src, .int .i64 b.kind, .string b.place, .string b.val_, .int .i64 b.lo, .int .i64 b.hi, .int .i64 b.weight])
      generalize xs[k] = b at c0 c1 c2 c3 c4 c5 c6 HS
      go_upto_region 5 with (fail)
      generalize hW2 : wr.alloc (.cells #[.string b.src, .int .i64 b.kind, .string b.place, .string b.val_, .int .i64 b.lo, .int .i64 b.hi, .int .i64 b.weight] 81) = W2
      obtain ⟨kf, bf, hsz⟩ := T3.out b W2 hW2.symm
      clear hW2 hsz c0 c1 c2 c3 c4 c5 c6
      have BF := Lib.hid (BW.out.trans (bf.mono BW.out.size))
      have OF := Lib.hid (own_below HO.out bf)
      have HH := Lib.hid (by have := containsI_any (ints I) (k : Int) (by rw [ints_len]; omega) A' c' W2 (by rw [ints_len]; exact (HR.out.below BF.out).more BF.out.size); rw [ints_len] at this; exact this)
      obtain ⟨y0, y1, y2, y3, y4, y5, y6⟩ := cells_7 kf
      clear kf bf
      by_cases hi : k ∈ I
      · rw [decide_eq_true (ints_mem.2 hi)] at HH
        rw [if_pos hi] at HS
        clear hi
        go_wp2_with fail
        refine HH.out.mono ?_; rintro e w1 ⟨rfl, rfl⟩
        go_wp2_with fail
        go_roundw
        case rel => exact ⟨k + 1, m, B, d, by omega, by omega, by rw [HS.out]; exact HN.out, rfl, by rw [HS.out]; exact OF.out, BF.out, by go_num⟩
        case measure => simp [intOf]; omega
      · rw [decide_eq_false (fun h => hi (ints_mem.1 h))] at HH
        rw [if_neg hi] at HS
        clear hi
        go_wp2_with fail
        refine HH.out.mono ?_; rintro e w1 ⟨rfl, rfl⟩
        go_wp2_with (at_builtin; refine wpList_append_any _ rfl (.tmp 19) (.tmp 21) _ rfl w.heap.size 81 i0 _ 7 80 Tryz.underlying24 hi0 hz0 hz1 hz2 rfl (by omega) (.slice B m d) m (clC (keepN I 0 (xs.take k))) rfl (OF.out.alloc _) _ (some ⟨W2.heap.size, 0, none⟩) 1 1 [.string b.src, .int .i64 b.kind, .string b.place, .string b.val_, .int .i64 b.lo, .int .i64 b.hi, .int .i64 b.weight] rfl (new_cl _ _ _) (by simp [Value.oneCell']) (by simp only [maxLen]; omega) (by omega) (by have := BF.out.size; simp; omega) ?_; intro v4 w4 hown4 hg4 hat4; obtain ⟨B4, d4, rfl, _⟩ := own_shape hown4)
        go_roundw
        case rel => exact ⟨k + 1, m + 1, B4, d4, by omega, by omega, by have := HN.out; rw [HS.out]; simp [Hid, this], rfl, by rw [HS.out, clC_add]; exact hown4, below_own (BF.out.alloc BF.out.size _) (OF.out.alloc _) hg4 (Nat.le_refl _) (by have := BF.out.size; simp; omega), by go_num⟩
        case measure => simp [intOf]; omega
    · obtain rfl : k = xs.length := by omega
      have HN' := HN.out
      go_wp2_with fail
      go_ret
      exact ⟨_, rfl, by rw [HE.out, HN']; exact HO.out, BW.out⟩
set_option maxRecDepth 100000 in
theorem implRep_any (xs : List Clm) (hf : Fine xs) (I : List Nat) (hm : I.length ≤ 1048576) (A A' : Option Addr) (c c' : Nat) (w : World) (h : Reads w w.heap.size 7 A xs.length (clC xs)) (hr : Reads w w.heap.size 1 A' I.length (inC (ints I))) :
    Calls Tryz.prog 106 #[.slice A xs.length c, .slice A' I.length c'] w fun e w' => e = .returned (.bool (repB xs I)) ∧ Below w.heap.size w w' := by
  have HK := Lib.hid (kept_any xs I hm hf.len A A' c c' w h hr)
  have HF := Lib.hid (hf.keep I)
  have HX := Lib.hid (show repB xs I = conB (keepN I 0 xs) from rfl)
  clear h hr hf
  generalize repB xs I = r at HX ⊢
  generalize keepN I 0 xs = L at *
  go_enter Tryz.func106, Tryz.ntmps106
  go_wp2_with fail
  refine HK.out.mono ?_; rintro e w1 ⟨v, rfl, own1, b1⟩
  obtain ⟨B, d, rfl, hcap⟩ := own_shape own1
  have HC := Lib.hid (implCon_any L HF.out.len B d hcap w1 (has_own HF.out own1))
  have B1 := Lib.hid b1; clear own1 b1
  generalize conB L = q at *
  go_wp2_with fail
  refine HC.out.mono ?_; rintro e w2 ⟨rfl, b2⟩
  go_wp2_with fail
  go_ret
  exact ⟨ret_bool HX.out.symm, B1.out.trans (b2.mono B1.out.size)⟩
set_option maxRecDepth 100000 in
theorem specRep_any (xs : List Clm) (hf : Fine xs) (I : List Nat) (hm : I.length ≤ 1048576) (A A' : Option Addr) (c c' : Nat) (w : World) (h : Reads w w.heap.size 7 A xs.length (clC xs)) (hr : Reads w w.heap.size 1 A' I.length (inC (ints I))) :
    Calls Tryz.prog 155 #[.slice A xs.length c, .slice A' I.length c'] w fun e w' => e = .returned (.bool (repB xs I)) ∧ Below w.heap.size w w' := by
  have HK := Lib.hid (specRest_any xs.length hf.len I hm A A' c c' w hr)
  have HF := Lib.hid (hf.keep I)
  have HX := Lib.hid (show repB xs I = conB (keepN I 0 xs) from rfl)
  have HE := Lib.hid (show chos xs (restN I xs.length) = keepN I 0 xs by rw [chos_rest I xs _ (Nat.le_refl _), List.take_length])
  have HC0 := Lib.hid (fun A' c' W (hB : Below w.heap.size w W) hr => specChos_any xs (restN I xs.length) rest_lt (Nat.le_trans (rest_len I _) hf.len) hf.len A A' c c' W ((h.below hB).more hB.size) hr)
  rw [HE.out] at HC0
  clear h hr hf HE
  generalize repB xs I = r at HX ⊢
  generalize keepN I 0 xs = L at *
  generalize restN I xs.length = J at *
  go_enter Tryz.func155, Tryz.ntmps155
  go_wp2_with fail
  refine HK.out.mono ?_; rintro e w0 ⟨v, rfl, own0, b0⟩
  obtain ⟨B0, d0, rfl, _⟩ := own_shape own0
  have HC1 := Lib.hid (HC0.out B0 d0 w0 b0 (Reads.of_own own0))
  have B0' := Lib.hid b0; clear own0 b0 HC0
  go_wp2_with fail
  refine HC1.out.mono ?_; rintro e w1 ⟨v, rfl, own1, b1⟩
  obtain ⟨B, d, rfl, hcap⟩ := own_shape own1
  have HC := Lib.hid (specCon_any L (fun c hc hk => clm_parent (HF.out.ok c hc) hk) HF.out.len B d w1 (has_own HF.out own1))
  have B1 := Lib.hid (B0'.out.trans (b1.mono B0'.out.size)); clear own1 b1
  generalize conB L = q at *
  go_wp2_with fail
  refine HC.out.mono ?_; rintro e w2 ⟨rfl, b2⟩
  go_wp2_with fail
  go_ret
  exact ⟨ret_bool HX.out.symm, B1.out.trans (b2.mono B1.out.size)⟩
end Go.Proofs.YtihhpmhigmegjaaGreatDoor

namespace Go.Proofs.YtihhpmhigmegjaaGreatDoor
open Go.ChangeShapes Go.WideShapes Go.ChangeAt Go.RowKit Go.Sort

theorem made_i (w : World) (t : TypeId) : (w.alloc (.cells #[] t)).ownsRow w.heap.size t 1 (.slice (some ⟨w.heap.size, 0, none⟩) 0 0) 0 [] := World.ownsRow_made (e := t) (size := 1) w #[] 0 (Nat.le_refl _) (by decide) rfl
theorem inC_ints_len (I : List Nat) : (inC (ints I)).length = I.length := by simp [inC, ints]
theorem reads_front {w : World} {B b off n : Nat} {I : List Nat} (h : Reads w B 1 (some ⟨b, off, none⟩) I.length (inC (ints I))) (hn : n ≤ I.length) : Reads w B 1 (some ⟨b, off, none⟩) n (inC (ints (I.take n))) := by
  refine ⟨by rw [inC_ints_len, List.length_take]; omega, fun h0 => ?_⟩
  obtain ⟨b', off', e, hb, hc⟩ := h.2 (by omega)
  refine ⟨b', off', e, hb, fun j u hu => hc j u ?_⟩
  have : inC (ints (I.take n)) = (inC (ints I)).take n := by simp [inC, ints]
  rw [this, List.getElem?_take] at hu
  split at hu
  · exact hu
  · cases hu
theorem reads_back {w : World} {B b off n : Nat} {I : List Nat} (h : Reads w B 1 (some ⟨b, off, none⟩) I.length (inC (ints I))) (hn : n ≤ I.length) : Reads w B 1 (some ⟨b, off + n, none⟩) (I.length - n) (inC (ints (I.drop n))) := by
  refine ⟨by rw [inC_ints_len, List.length_drop]; omega, fun h0 => ?_⟩
  obtain ⟨b', off', e, hb, hc⟩ := h.2 (by omega)
  injection e with e
  injection e with e1 e2
  subst e1; subst e2
  refine ⟨b, off + n, rfl, hb, fun j u hu => ?_⟩
  have : inC (ints (I.drop n)) = (inC (ints I)).drop n := by simp [inC, ints]
  rw [this, List.getElem?_drop] at hu
  have := hc _ u hu
  rwa [← Nat.add_assoc] at this
theorem ints_app (I J : List Nat) : inC (ints I) ++ inC (ints J) = inC (ints (I ++ J)) := by simp [inC, ints]
set_option maxRecDepth 100000 in
set_option maxHeartbeats 2000000 in
theorem specWithout_any (I : List Nat) (i : Nat) (hi : i < I.length) (hm : I.length ≤ 1048576) (A : Option Addr) (c : Nat) (hc : I.length ≤ c) (hc2 : c ≤ 9223372036854775807) (w : World) (hr : Reads w w.heap.size 1 A I.length (inC (ints I))) :
    Calls Tryz.prog 196 #[.slice A I.length c, .int .i64 i] w fun e w' => ∃ v, e = .returned v ∧ w'.ownsRow w.heap.size 2 1 v (I.eraseIdx i).length (inC (ints (I.eraseIdx i))) ∧ Below w.heap.size w w' := by
  obtain ⟨i0, hi0, hz0, hz1, hz2⟩ := info_parts infoInt
  obtain ⟨b, off, rfl, hb, _⟩ := hr.2 (by omega)
  have R1 := Lib.hid (reads_front (n := i) hr (by omega))
  have R2 := Lib.hid (reads_back (n := i + 1) hr (by omega))
  have HL := Lib.hid (show I.eraseIdx i = I.take i ++ I.drop (i + 1) from List.eraseIdx_eq_take_drop_succ I i)
  have HLN := Lib.hid (show (I.eraseIdx i).length = i + (I.length - (i + 1)) by rw [List.eraseIdx_eq_take_drop_succ, List.length_append, List.length_take, List.length_drop]; omega)
  clear hr
  generalize I.eraseIdx i = L at *
  have s0 : (0 : Int) ≤ (i : Int) := by omega
  have s1 : (i : Int) ≤ (c : Int) := by omega
  have s2 : (0 : Int) ≤ (i : Int) + 1 := by omega
  have s3 : (i : Int) + 1 ≤ (I.length : Int) := by omega
  have s4 : (I.length : Int) ≤ (c : Int) := by omega
  have s5 : ((i : Int) + 1).toNat = i + 1 := by omega
  have s6 : ((i : Int)).toNat = i := by omega
  have s7 : IntKind.i64.wrap ((i : Int) + 1) = (i : Int) + 1 := IntWalk.i64_in _ (by omega)
  have s8 : (i : Int) + 1 ≤ (c : Int) := by omega
  by_cases hcd : c = i + 1
  · have hdr : I.drop (i + 1) = [] := List.drop_eq_nil_of_le (by omega)
    have hll : I.length = i + 1 := by omega
    have HD := Lib.hid hdr
    have HLL := Lib.hid hll
    subst hcd
    rw [hll]
    have s9 : (i : Int) + 1 ≤ ((i + 1 : Nat) : Int) := by omega
    have s10 : (i : Int) ≤ (i : Int) + 1 := by omega
    have s11 : i ≤ i + 1 := by omega
    have s12 : (i : Int) + 1 ≤ (i : Int) + 1 := by omega
    have s13 : decide ((i : Int) ≤ (i : Int) + 1) = true := by rw [decide_eq_true_eq]; omega
    clear hdr hll s3 s4
    go_enter Tryz.func196, Tryz.ntmps196
    go_upto_region 1 with (fail)
    go_region_held3 (fun w' => w.heap.size ≤ w'.heap.size)
      (first | exact k0 | exact Nat.le_refl _ | (simp; done) | (simp; omega))
      (first | (refine step_append_any _ (by rfl) (.tmp 5) (.tmp 8) _ (by rfl) w.heap.size 2 i0 _ 1 8 Tryz.underlying31 hi0 hz0 hz1 hz2 rfl (by omega) (.slice (some ⟨w.heap.size, 0, none⟩) 0 0) 0 [] (by rfl) (World.ownsRow.drew (made_i w _)) w.heap.size (some ⟨b, off, none⟩) i (i + 1) (inC (ints (I.take i))) (by rfl) (R1.out.below ((((Below.refl w.heap.size w).alloc (Nat.le_refl _) (.cells #[] 2))).drew)) (inC_one _) (by simp only [maxLen]; omega) (by omega) (by first | (simp; done) | (simp; omega)) ?_; intro v1 w1 hown1' hg1 hat1; have hown1 := (show w1.ownsRow w.heap.size 2 1 v1 i (inC (ints (I.take i))) by simpa using hown1'); clear hown1'; obtain ⟨A1, cc1, rfl, _⟩ := own_shape hown1; have hb1 : Below w.heap.size w w1 := below_own ((((Below.refl w.heap.size w).alloc (Nat.le_refl _) (.cells #[] 2))).drew) (World.ownsRow.drew (made_i w _)) hg1 (Nat.le_refl _) (by first | (simp; done) | (simp; omega)); have k0 := hb1.size) | (refine step_append_any _ (by rfl) (.tmp 9) (.tmp 13) _ (by rfl) w.heap.size 2 i0 _ 1 8 Tryz.underlying31 hi0 hz0 hz1 hz2 rfl (by omega) (.slice A1 i cc1) i (inC (ints (I.take i))) (by rfl) hown1 w.heap.size (some ⟨b, off, none⟩) 0 0 [] (by rfl) (Reads.nil_ (B := w.heap.size)) (by simp) (by simp only [maxLen]; omega) (by omega) hb1.size ?_; intro v2 w2 hown2 hg2 hat2; have hb2 : Below w.heap.size w w2 := below_own hb1 hown1 hg2 (Nat.le_refl _) hb1.size; obtain ⟨A2, cc2, rfl, _⟩ := own_shape hown2; have k0 := hb2.size) | fail)
    all_goals
      go_wp2_with fail
      go_ret
      refine ⟨_, rfl, ?_, hb2⟩
      rw [HLN.out, HL.out]
      have h := hown2
      have hz : i + (I.length - (i + 1)) = i := by have := HLL.out; omega
      rw [hz]
      rw [List.append_nil] at h
      rw [HD.out, List.append_nil]
      simpa using h
  · go_enter Tryz.func196, Tryz.ntmps196
    go_upto_region 1 with (fail)
    go_region_held3 (fun w' => w.heap.size ≤ w'.heap.size)
      (first | exact k0 | exact Nat.le_refl _ | (simp; done) | (simp; omega))
      (first | (refine step_append_any _ (by rfl) (.tmp 5) (.tmp 8) _ (by rfl) w.heap.size 2 i0 _ 1 8 Tryz.underlying31 hi0 hz0 hz1 hz2 rfl (by omega) (.slice (some ⟨w.heap.size, 0, none⟩) 0 0) 0 [] (by rfl) (World.ownsRow.drew (made_i w _)) w.heap.size (some ⟨b, off, none⟩) i c (inC (ints (I.take i))) (by rfl) (R1.out.below ((((Below.refl w.heap.size w).alloc (Nat.le_refl _) (.cells #[] 2))).drew)) (inC_one _) (by simp only [maxLen]; omega) (by omega) (by first | (simp; done) | (simp; omega)) ?_; intro v1 w1 hown1' hg1 hat1; have hown1 := (show w1.ownsRow w.heap.size 2 1 v1 i (inC (ints (I.take i))) by simpa using hown1'); clear hown1'; obtain ⟨A1, cc1, rfl, _⟩ := own_shape hown1; have hb1 : Below w.heap.size w w1 := below_own ((((Below.refl w.heap.size w).alloc (Nat.le_refl _) (.cells #[] 2))).drew) (World.ownsRow.drew (made_i w _)) hg1 (Nat.le_refl _) (by first | (simp; done) | (simp; omega)); have k0 := hb1.size) | (refine step_append_any _ (by rfl) (.tmp 9) (.tmp 13) _ (by rfl) w.heap.size 2 i0 _ 1 8 Tryz.underlying31 hi0 hz0 hz1 hz2 rfl (by omega) (.slice A1 i cc1) i (inC (ints (I.take i))) (by rfl) hown1 w.heap.size (some ⟨b, off + (i + 1), none⟩) (I.length - (i + 1)) (c - (i + 1)) (inC (ints (I.drop (i + 1)))) (by rfl) (R2.out.below hb1) (inC_one _) (by simp only [maxLen]; omega) (by omega) hb1.size ?_; intro v2 w2 hown2 hg2 hat2; have hb2 : Below w.heap.size w w2 := below_own hb1 hown1 hg2 (Nat.le_refl _) hb1.size; obtain ⟨A2, cc2, rfl, _⟩ := own_shape hown2; have k0 := hb2.size) | fail)
    all_goals
      go_wp2_with fail
      go_ret
      refine ⟨_, rfl, ?_, hb2⟩
      rw [HLN.out, HL.out]
      rw [← ints_app]
      exact hown2
set_option maxRecDepth 100000 in
set_option maxHeartbeats 2000000 in
theorem specMin_any (xs : List Clm) (hf : Fine xs) (I : List Nat) (hm : I.length ≤ 1048576) (A A' : Option Addr) (c c' : Nat) (hc : I.length ≤ c') (hc2 : c' ≤ 9223372036854775807) (w : World) (h : Reads w w.heap.size 7 A xs.length (clC xs)) (hr : Reads w w.heap.size 1 A' I.length (inC (ints I))) :
    Calls Tryz.prog 156 #[.slice A xs.length c, .slice A' I.length c'] w fun e w' => e = .returned (.bool (minB xs I)) ∧ Below w.heap.size w w' := by
  have H := Lib.hid h; have HR := Lib.hid hr; clear h hr
  have HRp := Lib.hid (fun J (hJ : J.length ≤ 1048576) A' c' W (hB : Below w.heap.size w W) hr => specRep_any xs hf J hJ A A' c c' W ((H.out.below hB).more hB.size) hr)
  have HW := Lib.hid (fun i (hi : i < I.length) W (hB : Below w.heap.size w W) => specWithout_any I i hi hm A' c' hc hc2 W ((HR.out.below hB).more hB.size))
  have H1 := Lib.hid (HRp.out I hm A' c' w (Below.refl _ _) HR.out)
  have HLn := Lib.hid (fun i => (show (I.eraseIdx i).length ≤ 1048576 from Nat.le_trans (List.length_eraseIdx_le ..) hm))
  have HX := Lib.hid (show minB xs I = (repB xs I && (List.range I.length).all fun i => !repB xs (I.eraseIdx i)) from rfl)
  have HNo := Lib.hid (show ∀ i, i < I.length → repB xs (I.eraseIdx i) = true → minB xs I = false from fun i hi h => by
    unfold minB
    rw [Bool.and_eq_false_iff]
    right
    rw [Bool.eq_false_iff]
    intro h2
    rw [List.all_eq_true] at h2
    have := h2 i (List.mem_range.2 hi)
    rw [h] at this; cases this)
  have HYes := Lib.hid (show (∀ j, j < I.length → repB xs (I.eraseIdx j) = false) → (List.range I.length).all (fun i => !repB xs (I.eraseIdx i)) = true from fun h => by
    rw [List.all_eq_true]
    intro i hi
    rw [h i (List.mem_range.1 hi)]; rfl)
  generalize minB xs I = r at *
  generalize (List.range I.length).all (fun i => !repB xs (I.eraseIdx i)) = q2 at *
  generalize repB xs I = q1 at *
  cases q1
  · go_enter Tryz.func156, Tryz.ntmps156
    go_wp2_with fail
    refine H1.out.mono ?_; rintro e w1 ⟨rfl, b1⟩
    go_wp2_with fail
    go_ret
    exact ⟨ret_bool (by rw [HX.out]; rfl), b1⟩
  · go_enter Tryz.func156, Tryz.ntmps156
    go_wp2_with fail
    refine H1.out.mono ?_; rintro e w1 ⟨rfl, b1⟩
    have B1 := Lib.hid b1; clear b1
    go_wp2_with fail
    go_loopw [5] (fun v5 wr => ∃ k : Nat, k ≤ I.length ∧ Hid (∀ j, j < k → repB xs (I.eraseIdx j) = false) ∧ Hid (Below w.heap.size w wr) ∧ v5 = .int .i64 k) (fun v _ => I.length - (intOf v).toNat)
    case atStart => exact ⟨0, by omega, fun j hj => absurd hj (by omega), B1.out, rfl⟩
    case round =>
      obtain ⟨k, hk, HK, BW, rfl⟩ := hrel
      by_cases hlt : k < I.length
      · have HN := Lib.hid (HNo.out k hlt)
        have HWk := Lib.hid (HW.out k hlt wr BW.out)
        have HRk := Lib.hid (HRp.out (I.eraseIdx k) (HLn.out k))
        have HKK := Lib.hid (fun h : repB xs (I.eraseIdx k) = false => (show ∀ j, j < k + 1 → repB xs (I.eraseIdx j) = false from fun j hj => by
          rcases Nat.lt_or_ge j k with h1 | h1
          · exact HK.out j h1
          · obtain rfl : j = k := by omega
            exact h))
        generalize repB xs (I.eraseIdx k) = q at *
        generalize I.eraseIdx k = J at *
        go_wp2_with fail
        refine HWk.out.mono ?_; rintro e w2 ⟨v, rfl, own2, b2⟩
        obtain ⟨Bv, dv, rfl, _⟩ := own_shape own2
        have B2 := Lib.hid (BW.out.trans (b2.mono BW.out.size))
        have HR2 := Lib.hid (HRk.out Bv dv w2 B2.out (Reads.of_own own2))
        clear own2 b2
        go_wp2_with fail
        refine HR2.out.mono ?_; rintro e w3 ⟨rfl, b3⟩
        have B3 := Lib.hid (B2.out.trans (b3.mono B2.out.size)); clear b3
        cases q
        · have HF := Lib.hid (HKK.out rfl)
          clear HKK HN
          go_wp2_with fail
          go_roundw
          case rel => exact ⟨k + 1, by omega, HF.out, B3.out, by go_num⟩
          case measure => simp [intOf]; omega
        · have HF := Lib.hid (HN.out rfl)
          clear HKK HN
          go_wp2_with fail
          go_ret
          exact ⟨ret_bool HF.out.symm, B3.out⟩
      · obtain rfl : k = I.length := by omega
        have HF := Lib.hid (show r = true by rw [HX.out, HYes.out HK.out]; rfl)
        go_wp2_with fail
        go_ret
        exact ⟨ret_bool HF.out.symm, BW.out⟩
theorem specOwn_any (I : List Nat) (hm : I.length ≤ 1048576) (A : Option Addr) (c : Nat) (w : World) (hr : Reads w w.heap.size 1 A I.length (inC (ints I))) :
    Calls Tryz.prog 157 #[.slice A I.length c] w fun e w' => ∃ v, e = .returned v ∧ w'.ownsRow w.heap.size 2 1 v I.length (inC (ints I)) ∧ Below w.heap.size w w' := by
  obtain ⟨i0, hi0, hz0, hz1, hz2⟩ := info_parts infoInt
  have HR := Lib.hid hr; clear hr
  go_enter Tryz.func157, Tryz.ntmps157
  go_wp2_with (at_builtin; refine wpList_append_any _ rfl (.tmp 3) (.tmp 4) _ rfl w.heap.size 2 i0 _ 1 8 Tryz.underlying31 hi0 hz0 hz1 hz2 rfl (by omega) (.slice (some ⟨w.heap.size, 0, none⟩) 0 0) 0 [] rfl (made_i w _) w.heap.size A I.length c (inC (ints I)) rfl (HR.out.below ((Below.refl w.heap.size w).alloc (Nat.le_refl _) _)) (inC_one _) (by simp only [maxLen]; omega) (by omega) (by simp) ?_; intro v4 w4 hown4 hg4 hat4)
  go_ret
  exact ⟨v4, rfl, by simpa using hown4, below_own ((Below.refl w.heap.size w).alloc (Nat.le_refl _) _) (made_i w _) hg4 (Nat.le_refl _) (by simp)⟩
end Go.Proofs.YtihhpmhigmegjaaGreatDoor
