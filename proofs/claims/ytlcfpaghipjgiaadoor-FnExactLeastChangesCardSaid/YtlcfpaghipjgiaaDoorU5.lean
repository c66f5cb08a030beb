/- The closure of LeastChanges: its contract. -/
import Derived.Test.YtlcfpaghipjgiaaDoorRows
import Derived.Test.YtlcfpaghipjgiaaDoorL0
import Derived.Test.YtlcfpaghipjgiaaDoorM0
import Derived.WalkKit
import Derived.ProofKit
import Derived.OpenShut
import Derived.BigQuiet
import Derived.Outline
import Derived.WalkSpells
import Derived.WalkLawsBesides
import Derived.Deep.DeepCutAuto
import Derived.Test.YtlcfpaghipjgiaaDoorU4
namespace Go.Proofs.YtlcfpaghipjgiaaDoor
open Go.ChangeShapes Go.WideShapes Go.ChangeAt Go.RowKit Go.Sort

def Same (xs ys : List Bal) : Prop := ys.map (fun b => b.withC 0) = xs.map (fun b => b.withC 0)
theorem withC_twice (b : Bal) (a c : Int) : (b.withC a).withC c = b.withC c := rfl
theorem same_at {xs ys : List Bal} (h : Same xs ys) {i : Nat} (hi : i < xs.length) (hi' : i < ys.length) (ch : Int) : ys[i].withC ch = xs[i].withC ch := by
  have e : (ys.map (fun b => b.withC 0))[i]? = (xs.map (fun b => b.withC 0))[i]? := by rw [show ys.map (fun b => b.withC 0) = _ from h]
  simp only [List.getElem?_map, List.getElem?_eq_getElem hi, List.getElem?_eq_getElem hi', Option.map_some, Option.some.injEq] at e
  have := congrArg (fun b => Bal.withC b ch) e
  simpa [withC_twice] using this
theorem same_with {xs ys : List Bal} (h : Same xs ys) {i : Nat} (hi : i < ys.length) (ch : Int) : Same xs (withB ys i ch) := by
  unfold Same at h ⊢
  rw [← h]
  have hi' : i < (ys.map (fun b => b.withC 0)).length := by simpa using hi
  have e3 := List.take_append_drop i (ys.map (fun b => b.withC 0))
  rw [List.drop_eq_getElem_cons hi'] at e3
  rw [with_split hi]
  simpa [withC_twice] using e3
theorem take_with_i {ys : List Bal} {i : Nat} {ch : Int} (hi : i < ys.length) : (withB ys i ch).take i = ys.take i := by
  rw [with_split hi, List.append_assoc, List.take_left' (by simp; omega)]
/-- What a round of the closure adds. -/
def CntTo (o : Bool) (rule : Int) (p : List Bal) (b : Bal) (r : List Bal) (count c : Int) (ch : Int) : Prop := ∃ a : Int, -1 ≤ a ∧ a < ch ∧ Cnt o rule (p ++ [b.withC a]) r (count + if a = b.choice then 0 else 1) c

theorem cntTo_step {o : Bool} {rule : Int} {p : List Bal} {b : Bal} {r : List Bal} {count z ch : Int} (h : -1 ≤ ch) : CntTo o rule p b r count z (ch + 1) ↔ CntTo o rule p b r count z ch ∨ Cnt o rule (p ++ [b.withC ch]) r (count + if ch = b.choice then 0 else 1) z := by
  constructor
  · rintro ⟨a, h1, h2, h3⟩
    by_cases hac : a = ch
    · subst hac; exact .inr h3
    · exact .inl ⟨a, h1, by omega, h3⟩
  · rintro (⟨a, h1, h2, h3⟩ | h3)
    · exact ⟨a, h1, by omega, h3⟩
    · exact ⟨ch, h, by omega, h3⟩
theorem cntTo_all {o : Bool} {rule : Int} {p : List Bal} {xs : List Bal} {i : Nat} (hi : i < xs.length) {count z : Int} : CntTo o rule p xs[i] (xs.drop (i + 1)) count z 2 ↔ Cnt o rule p (xs.drop i) count z := by
  rw [List.drop_eq_getElem_cons hi, Cnt]
  exact ⟨fun ⟨a, h1, h2, h3⟩ => ⟨a, h1, by omega, h3⟩, fun ⟨a, h1, h2, h3⟩ => ⟨a, h1, by omega, h3⟩⟩
set_option maxRecDepth 100000 in
set_option maxHeartbeats 1000000 in
theorem walk_any {B : Nat} {tK : TypeId} {xs : List Bal} {rule : Int} {A OV : Option Addr} {c L O R M K cap : Nat} (hfx : Fits xs) (m : Nat) : ∀ (i : Nat) (I count : Int) (_ : I = i) (_ : i + m = xs.length) (_ : 0 ≤ count) (_ : count ≤ i) (l : Int) (ys : List Bal) (_ : Fits ys) (_ : Same xs ys) (D : Int → Prop) (_ : LeastOf l D) (w : World) (_ : LSt B tK xs rule A c L O R M K OV cap w l ys),
    Calls Tryd.prog 60 #[.int .i64 I, .int .i64 count, .pointer (some ⟨L, 0, none⟩), .pointer (some ⟨O, 0, none⟩), .pointer (some ⟨R, 0, none⟩), .pointer (some ⟨M, 0, none⟩), .pointer (some ⟨K, 0, none⟩)] w fun e w' =>
      e = .returned (.tuple #[]) ∧ ∃ l' ys', LSt B tK xs rule A c L O R M K OV cap w' l' ys' ∧ Fits ys' ∧ Same xs ys' ∧ ys'.take i = ys.take i ∧ LeastOf l' (fun c => D c ∨ Cnt (carB xs rule) rule (ys.take i) (xs.drop i) count c) ∧ Below B w w' := by
  induction m with
  | zero =>
    intro i I count hI him h0 h1 l ys hfy hs D hl w h
    have hm := hfx.1
    refine (leaf_any D hfx hfy I count (by omega) h0 (by omega) hl w h).mono ?_
    rintro e w' ⟨rfl, l', h', hl', hb⟩
    have hly := h.len
    exact ⟨rfl, l', ys, h', hfy, hs, rfl, by rw [List.take_of_length_le (by omega), List.drop_of_length_le (by omega)]; exact hl', hb⟩
  | succ m ih =>
    intro i I count hI him h0 h1 l ys hfy hs D hl w h
    have hm := hfx.1
    have hlt : i < xs.length := by omega
    obtain ⟨g, cap', hv, hbg, hgl⟩ := h.own.form (by omega)
    simp only [Value.slice.injEq, true_and] at hv
    obtain ⟨rfl, rfl⟩ := hv
    obtain ⟨ab, ao, rfl, hadb, hcell⟩ := h.rd.2 (by omega)
    have IH := Lib.hid ih; clear ih
    have H := Lib.hid h
    have hIn : (I == (xs.length : Int)) = false := by simp; omega
    have hI1 : IntKind.i64.wrap (I + 1) = I + 1 := IntWalk.i64_in _ (by omega)
    have hc1 : IntKind.i64.wrap (count + 1) = count + 1 := IntWalk.i64_in _ (by omega)
    have cL := h.bL.cell 0
    simp only [List.getElem?_toArray, List.getElem?_cons_zero] at cL
    clear h hcell
    subst hI
    go_enter Tryd.func60, Tryd.ntmps60
    go_wp2_with fail
    go_loopw [9] (fun v9 wr => ∃ (ch l' : Int) (ys' : List Bal), -1 ≤ ch ∧ ch ≤ 2 ∧ Hid (LSt B tK xs rule (some ⟨ab, ao, none⟩) c L O R M K (some ⟨g, 0, none⟩) cap wr l' ys') ∧ Hid (Fits ys' ∧ Same xs ys' ∧ ys'.take i = ys.take i) ∧ Hid (LeastOf l' (fun z => D z ∨ CntTo (carB xs rule) rule (ys.take i) xs[i] (xs.drop (i + 1)) count z ch)) ∧ Hid (Below B w wr) ∧ v9 = .int .i64 ch) (fun v _ => (2 - intOf v).toNat)
    case atStart => exact ⟨-1, l, ys, by omega, by omega, H.out, ⟨hfy, hs, rfl⟩, hl.congr (fun z => ⟨.inl, fun hz => hz.elim id (fun ⟨a, h1, h2, _⟩ => by omega)⟩), Below.refl _ _, rfl⟩
    case round =>
      obtain ⟨ch, l', ys', hch1, hch2, HS, HY, HL, BW, rfl⟩ := hrel
      by_cases hle : ch ≤ 1
      · have bO := HS.out.bO.cell 0
        simp only [List.getElem?_toArray, List.getElem?_cons_zero] at bO
        have hly := HS.out.len
        have q0 := HS.out.own.cellAt (i * 3 + 1) (by omega)
        rw [List.getElem?_eq_getElem (by rw [baC_len]; omega)] at q0
        have f0 := HS.out.own.frozenAt (i * 3 + 1)
        generalize (baC ys')[i * 3 + 1]'(by rw [baC_len]; omega) = u0 at q0
        have HP := Lib.hid (HS.out.put hbg i hlt ch)
        have BP := Lib.hid (BW.out.setCell (p := ⟨g, i * 3 + 1, none⟩) hbg (.int .i64 ch))
        go_upto_region 7 with (fail)
        generalize wr.setCell ⟨g, i * 3 + 1, none⟩ (.int .i64 ch) = W0 at HP BP
        clear q0 f0 bO
        have kL := HP.out.bL.cell 0
        have kK := HP.out.bK.cell 0
        simp only [List.getElem?_toArray, List.getElem?_cons_zero] at kL kK
        obtain ⟨ab', ao', hA, _, hcell⟩ := HP.out.rd.2 (by omega)
        cases hA
        have k1 := hcell _ _ (baC_get xs i hlt).2.1
        rw [← Nat.add_assoc] at k1
        clear hcell
        obtain ⟨b, hb⟩ : ∃ b, xs[i].choice = b := ⟨_, rfl⟩
        rw [hb] at k1
        have HBc := Lib.hid hb; clear hb
        by_cases hcb : ch = b
        · have hd : (ch == b) = true := by simpa using hcb
          have HE := Lib.hid (show (count + if ch = xs[i].choice then 0 else 1) = count by rw [HBc.out, if_pos hcb]; simp)
          clear hcb
          go_wp2_with fail
          with_reducible refine (IH.out (i + 1) _ count (by omega) (by omega) (by omega) (by omega) l' (withB ys' i ch) (fits_with HY.out.1 i ch) (same_with HY.out.2.1 (by omega) ch) _ HL.out W0 HP.out).mono ?_
          rintro e w2 ⟨rfl, l2, ys2, hs2, hf2, hsm2, ht2, hl2, hb2⟩
          have HS2 := Lib.hid hs2; have HB2 := Lib.hid (BP.out.trans hb2)
          have HT2 := Lib.hid (show ys2.take i = ys.take i by
            have := congrArg (List.take i) ht2
            rw [List.take_take, List.take_take, Nat.min_eq_left (by omega), take_with_i (by omega)] at this
            exact this.trans HY.out.2.2)
          have HL2 := Lib.hid (hl2.congr (E := fun z => D z ∨ CntTo (carB xs rule) rule (ys.take i) xs[i] (xs.drop (i + 1)) count z (ch + 1)) (fun z => by
            rw [take_with (by omega), HY.out.2.2, same_at HY.out.2.1 hlt, cntTo_step hch1, HE.out, or_assoc]))
          clear hs2 hb2 hl2 ht2
          go_wp2_with fail
          go_roundw
          case rel => exact ⟨ch + 1, l2, ys2, by omega, by omega, HS2.out, ⟨hf2, hsm2, HT2.out⟩, HL2.out, HB2.out, by go_num⟩
          case measure => simp [intOf]; omega
        · have hd : (ch == b) = false := by simpa using hcb
          have HE := Lib.hid (show (count + if ch = xs[i].choice then 0 else 1) = count + 1 by rw [HBc.out, if_neg hcb])
          clear hcb
          go_wp2_with fail
          with_reducible refine (IH.out (i + 1) _ (count + 1) (by omega) (by omega) (by omega) (by omega) l' (withB ys' i ch) (fits_with HY.out.1 i ch) (same_with HY.out.2.1 (by omega) ch) _ HL.out W0 HP.out).mono ?_
          rintro e w2 ⟨rfl, l2, ys2, hs2, hf2, hsm2, ht2, hl2, hb2⟩
          have HS2 := Lib.hid hs2; have HB2 := Lib.hid (BP.out.trans hb2)
          have HT2 := Lib.hid (show ys2.take i = ys.take i by
            have := congrArg (List.take i) ht2
            rw [List.take_take, List.take_take, Nat.min_eq_left (by omega), take_with_i (by omega)] at this
            exact this.trans HY.out.2.2)
          have HL2 := Lib.hid (hl2.congr (E := fun z => D z ∨ CntTo (carB xs rule) rule (ys.take i) xs[i] (xs.drop (i + 1)) count z (ch + 1)) (fun z => by
            rw [take_with (by omega), HY.out.2.2, same_at HY.out.2.1 hlt, cntTo_step hch1, HE.out, or_assoc]))
          clear hs2 hb2 hl2 ht2
          go_wp2_with fail
          go_roundw
          case rel => exact ⟨ch + 1, l2, ys2, by omega, by omega, HS2.out, ⟨hf2, hsm2, HT2.out⟩, HL2.out, HB2.out, by go_num⟩
          case measure => simp [intOf]; omega
      · obtain rfl : ch = 2 := by omega
        go_wp2_with fail
        refine bodyPost_end (results_none rfl _ _ _) rfl ?_
        exact ⟨rfl, l', ys', HS.out, HY.out.1, HY.out.2.1, HY.out.2.2, HL.out.congr (fun z => by rw [cntTo_all hlt]), BW.out⟩
end Go.Proofs.YtlcfpaghipjgiaaDoor
