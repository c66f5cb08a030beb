/- A number in decimal, a text read as a number: decimal, readNumber of the program. -/
import Derived.Test.YtnbpbidflacoiaaDoorRows
import Derived.Test.YtnbpbidflacoiaaDoorL0
import Derived.Test.YtnbpbidflacoiaaDoorM0
import Derived.WalkKit
import Derived.ProofKit
import Derived.OpenShut
import Derived.BigQuiet
import Derived.Outline
import Derived.WalkSpells
import Derived.WalkLawsBesides
import Derived.Deep.DeepCutAuto
import Derived.Test.YtnbpbidflacoiaaDoorDN5
import Derived.Test.YtnbpbidflacoiaaDoorYN
import Derived.Lib.SmallJoins
import Derived.Lib.AppendIntMem
import Derived.Lib.AtoiErrMem
import Derived.Lib.IfaceNeq
namespace Go.Proofs.YtnbpbidflacoiaaDoor
open Go.ChangeShapes Go.WideShapes Go.ChangeAt Go.RowKit Go.Joins

/-- The table of the powers of ten lies in memory. -/
def Tab (w : World) : Prop := Lib.TabIs Tryd.prog w "internal/strconv.uint64pow10" .u64 Lib.pow10Tab
theorem pow_known : Tryd.prog.globalNamed "internal/strconv.uint64pow10" = some 2 := by kernel_rfl
theorem Tab.below {w w' : World} (h : Tab w) (hb : Below w.heap.size w w') : Tab w' := tab_stays pow_known h hb (Nat.le_refl _)
theorem implDecN_any (i : Int) (h0 : -9223372036854775808 ≤ i) (h1 : i ≤ 9223372036854775807) (w : World) (ht : Tab w) :
    Calls Tryd.prog 81 #[.int .i64 i] w fun e w' => e = .returned (.string (itoN i)) ∧ Below w.heap.size w w' := by
  have HF := Lib.hid (Any.strconv_FormatInt_10 Tryd.lays173 i h0 h1 w ht); clear ht
  go_enter Tryd.func81, Tryd.ntmps81
  go_wp2_with fail
  refine HF.out.mono ?_; rintro e w1 ⟨rfl, k, os, hw⟩
  have B1 := Lib.hid (show Below w.heap.size w w1 by rw [hw]; exact Lib.below_grow _ _ (Nat.le_refl _) _ _)
  clear hw
  go_wp2_with fail
  go_ret
  exact ⟨rfl, B1.out⟩
/-- What stands in the two variables of errors. -/
def Errs (w : World) : Prop := (∃ t p, w.var? Tryd.prog "strconv.ErrSyntax" = some #[.iface t p]) ∧ (∃ t p, w.var? Tryd.prog "strconv.ErrRange" = some #[.iface t p])
theorem errS_known : Tryd.prog.globalNamed "strconv.ErrSyntax" = some 3 := by kernel_rfl
theorem errR_known : Tryd.prog.globalNamed "strconv.ErrRange" = some 4 := by kernel_rfl
theorem Errs.below {w w' : World} (h : Errs w) (hb : Below w.heap.size w w') : Errs w' := by
  obtain ⟨⟨t, p, h1⟩, ⟨t', p', h2⟩⟩ := h
  exact ⟨⟨t, p, var_stays errS_known h1 hb (Nat.le_refl _)⟩, ⟨t', p', var_stays errR_known h2 hb (Nat.le_refl _)⟩⟩
set_option maxRecDepth 100000 in
set_option maxHeartbeats 1000000 in
theorem readNum_any (s : ByteArray) (hs : s.size ≤ 281474976710656) (w : World) (ht : Tab w) (he : Errs w) :
    Calls Tryd.prog 96 #[.string s] w fun e w' => e = .returned (.tuple #[.int .i64 (readV s).1, .bool (readV s).2]) ∧ Below w.heap.size w w' := by
  have HI := readV_int s
  cases hp : Lib.parseIntB 64 s.data.toList with
  | ok v =>
    have HR := Lib.hid (show readV s = (v, decide (itoN v = s)) by rw [readV, hp])
    rw [HR.out] at HI
    dsimp only at HI
    have HT := Lib.hid ht; clear ht he
    have HQ := Lib.hid (Any.strconv_ParseInt_10_at64_ok Tryd.lays174 s (by omega) v hp w)
    have hq := str_eq (itoN v) s
    clear hp
    go_enter Tryd.func96, Tryd.ntmps96
    go_wp2_with fail
    refine HQ.out.mono ?_; rintro e w1 ⟨rfl, hw⟩
    have B1 := Lib.hid (show Below w.heap.size w w1 by
      rcases hw with rfl | ⟨t, rfl⟩
      · exact Below.refl _ _
      · exact Lib.bytesWorld_below _ _ _)
    clear hw
    go_wp2_with fail
    refine (implDecN_any v HI.1 HI.2 w1 (HT.out.below B1.out)).mono ?_; rintro e w2 ⟨rfl, b2⟩
    have B2 := Lib.hid (B1.out.trans (b2.mono B1.out.size)); clear b2
    go_wp2_with fail
    go_ret2
    exact ⟨by rw [HR.out, ← hq]; rfl, B2.out⟩
  | range =>
    have HR := Lib.hid (show readV s = (Lib.intSat 64 s.data.toList, false) by rw [readV, hp])
    obtain ⟨_, ⟨t, p, h1⟩⟩ := he
    have HQ := Lib.hid (Any.strconv_ParseInt_10_at64_range_var Tryd.lays174 s hs hp t p w h1)
    clear hp ht HI h1
    generalize Lib.intSat 64 s.data.toList = v at HR HQ
    go_enter Tryd.func96, Tryd.ntmps96
    go_wp2_with fail
    refine HQ.out.mono ?_; rintro e w1 ⟨N, rfl, _, _, b1⟩
    have B1 := Lib.hid b1; clear b1
    go_wp2_with fail
    go_ret2
    exact ⟨by rw [HR.out]; rfl, B1.out⟩
  | _ =>
    have HR := Lib.hid (show readV s = (0, false) by rw [readV, hp])
    obtain ⟨⟨t, p, h1⟩, _⟩ := he
    have HQ := Lib.hid (Any.strconv_ParseInt_10_at64_syntax_var Tryd.lays174 s hs hp t p w h1)
    clear hp ht HI h1
    go_enter Tryd.func96, Tryd.ntmps96
    go_wp2_with fail
    refine HQ.out.mono ?_; rintro e w1 ⟨N, rfl, _, _, b1⟩
    have B1 := Lib.hid b1; clear b1
    go_wp2_with fail
    go_ret2
    exact ⟨by rw [HR.out]; rfl, B1.out⟩
end Go.Proofs.YtnbpbidflacoiaaDoor
