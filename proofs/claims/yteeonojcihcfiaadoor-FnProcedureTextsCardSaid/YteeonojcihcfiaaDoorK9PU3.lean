/- Draws of procedures: l25Draw, l25Day, and the drawn arguments. -/
import Derived.Test.YteeonojcihcfiaaDoorRows
import Derived.Test.YteeonojcihcfiaaDoorK9GA
import Derived.WalkKit
import Derived.ProofKit
import Derived.OpenShut
import Derived.BigQuiet
import Derived.Outline
import Derived.WalkSpells
import Derived.WalkLawsBesides
import Derived.Deep.DeepCutAuto
import Derived.Test.YteeonojcihcfiaaDoorK9PU2
import Derived.Deep.LoopGhost
namespace Go.Proofs.YteeonojcihcfiaaDoor
open Go.ChangeShapes Go.WideShapes Go.ChangeAt Go.RowKit

def lastD (xs : List Stp) : Int := ((xs.getLast?).getD (0, 0)).1
def DayOk (xs : List Stp) : Prop := -1 ≤ lastD xs ∧ lastD xs ≤ 1000000000031
theorem lastD_snoc (xs : List Stp) (x : Stp) : lastD (xs ++ [x]) = x.1 := by simp [lastD]
theorem lastD_get {xs : List Stp} (h : 0 < xs.length) : xs[xs.length - 1]'(by omega) = (xs.getLast?).getD (0, 0) := by
  rw [List.getLast?_eq_getElem?]
  simp [List.getElem?_eq_getElem (show xs.length - 1 < xs.length by omega)]
theorem proc_lastD {xs : List Stp} (h : isProc xs = true) : DayOk xs := by
  by_cases hn : 0 < xs.length
  · obtain ⟨zs, x, rfl⟩ : ∃ zs x, xs = zs ++ [x] := ⟨xs.dropLast, xs.getLast (by intro e; simp [e] at hn), (List.dropLast_concat_getLast _).symm⟩
    have := proc_day h
    unfold DayOk
    rw [lastD_snoc]
    omega
  · have : xs = [] := List.length_eq_zero_iff.1 (by omega)
    subst this
    exact ⟨by decide, by decide⟩
def SmallS (xs : List Stp) : Prop := xs.length ≤ 13 ∧ DayOk xs

theorem own_block1 (w : World) (x : Stp) (base : Nat) (hb : base ≤ w.heap.size) : (w.alloc (.cells #[.int .i64 x.1, .int .i64 x.2] 41)).ownsRow base 41 2 (.slice (some ⟨w.heap.size, 0, none⟩) 1 1) 1 (stC [x]) := by
  have h := Blk.new w 41 #[.int .i64 x.1, .int .i64 x.2]
  exact ⟨rfl, .inr ⟨w.heap.size, 1, _, rfl, hb, h, Nat.le_refl _, by unfold maxLen; omega, rfl, rfl⟩⟩

set_option maxRecDepth 100000 in
set_option maxHeartbeats 4000000 in
theorem draw25_any (B g : Nat) (w : World) (hs : Src w B g) (hB : B ≤ w.heap.size) :
    Calls Tryd.prog 31 #[.pointer (some ⟨g, 0, none⟩)] w (DrawnSteps w B g SmallS) := by
  have hgl := hs.lt
  have HS := Lib.hid hs; clear hs
  go_enter Tryd.func31, Tryd.ntmps31
  go_wp2_with fail
  refine (good_any B g _ HS.out hB).mono ?_
  rintro e w1 ⟨xs, A, c, rfl, hp, own1, hs1, ho1⟩
  have hlen := isProc_len hp
  have HD := Lib.hid (proc_lastD hp)
  have HS1 := Lib.hid hs1
  have HO1 := Lib.hid ho1
  have HW1 := Lib.hid own1
  have z1 := ho1.size
  clear hs1 ho1 own1 hp
  go_wp2_with fail
  refine (draw_any 24 B g w1 HS1.out (by omega)).mono ?_
  rintro e w2 ⟨x, rfl, h0, _, _, hs2, ho2⟩
  have z2 := ho2.size
  have HS2 := Lib.hid hs2
  have HO2 := Lib.hid (only_trans HO1.out ho2)
  have HW2 := Lib.hid (own_only HW1.out ho2 hgl)
  clear hs2 ho2
  by_cases hx0 : x = 0
  · have hx : (x == 0) = true := by simpa using hx0
    clear hx0
    go_wp2_with fail
    refine (draw_any 300 B g w2 HS2.out (by omega)).mono ?_
    rintro e w3 ⟨y, rfl, hy0, hy1, _, hs3, ho3⟩
    have hy2 := hy1 (by omega)
    have z3 := ho3.size
    have HS3 := Lib.hid hs3
    have HO3 := Lib.hid (only_trans HO2.out ho3)
    have HW3 := Lib.hid (own_only HW2.out ho3 hgl)
    clear hs3 ho3
    go_wp2_with fail
    refine (draw_any 10 B g w3 HS3.out (by omega)).mono ?_
    rintro e w4 ⟨z, rfl, hz0, hz1, _, hs4, ho4⟩
    have hz2 := hz1 (by omega)
    have z4 := ho4.size
    have HS4 := Lib.hid hs4
    have HO4 := Lib.hid (only_trans HO3.out ho4)
    have HW4 := Lib.hid (own_only HW3.out ho4 hgl)
    clear hs4 ho4
    go_wp2_with fail
    refine (with_n xs xs.length rfl A c _ _ _ (Reads.of_own HW4.out) (by omega)).mono ?_
    rintro e w5 ⟨A5, c5, rfl, own5, b5⟩
    have HS5 := Lib.hid (HS4.out.below b5)
    have HO5 := Lib.hid (only_trans HO4.out (only_of_below b5))
    have HW5 := Lib.hid (own_mono (base' := w.heap.size) own5 (by omega))
    clear b5 own5
    go_wp2_with fail
    go_ret
    refine ⟨xs ++ [(y, z - 1)], A5, c5, by simp, ⟨by simp; omega, by unfold DayOk; rw [lastD_snoc]; dsimp only; omega⟩, by simpa using HW5.out, HS5.out, HO5.out⟩
  · by_cases hx1 : x = 1
    · have hx : (x == 0) = false := by simpa using hx0
      have hx' : (x == 1) = true := by simpa using hx1
      clear hx0 hx1
      go_wp2_with fail
      go_loopg [3] 13 (fun gk v3 wr => ∃ (ys : List Stp) (N : Nat) (A : Option Addr) (c : Nat), gk + N = 14 ∧ v3 = .slice A N c ∧ N ≤ 13 ∧ Hid (N = ys.length) ∧ Hid (DayOk ys) ∧ Hid (wr.ownsRow w.heap.size 41 2 (.slice A N c) N (stC ys)) ∧ Hid (Src wr B g) ∧ Hid (Only w wr g))
      case atStart => exact ⟨[(5, 0)], 1, some ⟨w2.heap.size, 0, none⟩, 1, rfl, rfl, by omega, rfl, ⟨by simp [lastD], by simp [lastD]⟩, own_block1 w2 (5, 0) _ (by omega), HS2.out.alloc _, only_alloc HO2.out _⟩
      case round =>
        obtain ⟨ys, N, A, c, hgk, rfl, hN13, HN, HDy, HW, HS, HO⟩ := hrel
        have zr := HO.out.size
        go_wp2_with fail
        refine (draw_any 2 B g wr HS.out (by omega)).mono ?_
        rintro e w3 ⟨y, rfl, hy0, hy1, _, hs3, ho3⟩
        have hy2 := hy1 (by omega)
        have z3 := ho3.size
        have HS3 := Lib.hid hs3
        have HO3 := Lib.hid (only_trans HO.out ho3)
        have HW3 := Lib.hid (own_only HW.out ho3 hgl)
        clear hs3 ho3 hy1
        by_cases hlt : (N : Int) < 12 + y
        · go_wp2_with fail
          refine (with_n ys N HN.out A c _ _ _ (Reads.of_own HW3.out) (by omega)).mono ?_
          rintro e w4 ⟨A4, c4, rfl, own4, b4⟩
          have HS4 := Lib.hid (HS3.out.below b4)
          have HO4 := Lib.hid (only_trans HO3.out (only_of_below b4))
          have HW4 := Lib.hid (own_mono (base' := w.heap.size) own4 (by omega))
          clear b4 own4
          go_wp2_with fail
          go_roundg (gk - 1)
          case measure => omega
          case rel => exact ⟨ys ++ [(6, 1)], N + 1, A4, c4, by omega, rfl, by omega, by have := HN.out; simp [Hid]; omega, ⟨by rw [lastD_snoc]; decide, by rw [lastD_snoc]; decide⟩, HW4, HS4, HO4⟩
        · go_wp2_with fail
          go_ret
          have e := HN.out
          subst e
          exact ⟨ys, A, c, rfl, ⟨hN13, HDy.out⟩, HW3.out, HS3.out, HO3.out⟩
    · by_cases hx2 : x = 2
      · have hx : (x == 0) = false := by simpa using hx0
        have hx' : (x == 1) = false := by simpa using hx1
        have hx'' : (x == 2) = true := by simpa using hx2
        clear hx0 hx1 hx2
        go_wp2_with fail
        refine (pick_any [1000000000000, 999999999980, -1, 1000000000001] w2.heap.size 4 B g _ (HS2.out.alloc _) (by simp; omega) (by simp) (by simp) (Blk.new _ _ _) (by omega)).mono ?_
        rintro e w3 ⟨y, rfl, hm, hs3, ho3⟩
        have hy : -1 ≤ y ∧ y ≤ 1000000000001 := by simp at hm; omega
        have z3 := ho3.size
        simp at z3
        have HS3 := Lib.hid hs3
        have HO3 := Lib.hid (only_trans (only_alloc HO2.out _) ho3)
        clear hs3 ho3 hm
        go_wp2_with fail
        go_ret
        refine ⟨[(y, 0)], some ⟨w3.heap.size, 0, none⟩, 1, rfl, ⟨by simp, by simp [DayOk, lastD]; omega⟩, ?_, HS3.out.alloc _, only_alloc HO3.out _⟩
        exact own_block1 w3 (y, 0) _ (by omega)
      · have hx : (x == 0) = false := by simpa using hx0
        have hx' : (x == 1) = false := by simpa using hx1
        have hx'' : (x == 2) = false := by simpa using hx2
        clear hx0 hx1 hx2
        go_wp2_with fail
        go_ret
        exact ⟨xs, A, c, rfl, ⟨by omega, HD.out⟩, HW2.out, HS2.out, HO2.out⟩

/-- A code of bytes in memory. -/
def Code8 (w : World) (A : Option Addr) (n : Nat) : Prop := ∃ bs : List UInt8, n = bs.length ∧ n ≤ 4096 ∧ Reads w w.heap.size 1 A n (byC bs)
theorem Code8.below {w w' : World} {A : Option Addr} {n : Nat} (h : Code8 w A n) (hb : Below w.heap.size w w') : Code8 w' A n := by
  obtain ⟨bs, h1, h2, h3⟩ := h
  exact ⟨bs, h1, h2, (h3.below hb).more hb.size⟩
theorem from_code (A : Option Addr) (n c : Nat) (w : World) (h : Code8 w A n) :
    Calls Tryd.prog 32 #[.slice A n c] w fun e w' => ∃ g, e = .returned (.pointer (some ⟨g, 0, none⟩)) ∧ Src w' w.heap.size g ∧ Below w.heap.size w w' := by
  obtain ⟨bs, rfl, h2, h3⟩ := h
  exact from_any bs A c w h3 h2
/-- Drawn steps and a drawn day. -/
def DrawnDay (w : World) (e : Ending) (w' : World) : Prop :=
  ∃ xs A c d, e = .returned (.tuple #[.slice A xs.length c, .int .i64 d]) ∧ SmallS xs ∧ w'.ownsRow w.heap.size 41 2 (.slice A xs.length c) xs.length (stC xs) ∧ Below w.heap.size w w'
def DrawnOut (w : World) (e : Ending) (w' : World) : Prop :=
  ∃ xs A c d o, e = .returned (.tuple #[.slice A xs.length c, .int .i64 d, .int .i64 o]) ∧ SmallS xs ∧ w'.ownsRow w.heap.size 41 2 (.slice A xs.length c) xs.length (stC xs) ∧ Below w.heap.size w w'
end Go.Proofs.YteeonojcihcfiaaDoor
