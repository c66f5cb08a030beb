/- Merged: Points: squared distances, turns, signs, sizes; of the program and of the reference. Homonyms: whether two entries are; the indices of all of a list; the code of entries, an entry and a distance. ClearedEntries: the plain law. The homonyms of an entry in a list, by the reference. The order of precedence, of the reference. ClearedEntries of the reference. HomonymsOf, IsAdmitted and Displaced of the reference. FnPrecedence: the plain law. Lists of numbers that are alike; whether a list holds a number; the test of a great code: helpers of the laws. The homonyms of an entry in a list, by the program: at each of its three questions. The homonyms of an entry in a list, by the program: those that bar it. The homonyms of an entry in a list, by the program: those that it displaces. HomonymsOf, IsAdmitted and Displaced of the program. The stable sort of the program, at indices of entries. The orde -/
import Derived.Test.YtihhpmhigmegjaaGreatDoorRows
import Derived.Test.YtihhpmhigmegjaaGreatDoorL0
import Derived.Test.YtihhpmhigmegjaaGreatDoorM0
import Derived.WalkKit
import Derived.ProofKit
import Derived.OpenShut
import Derived.BigQuiet
import Derived.Outline
import Derived.WalkSpells
import Derived.WalkLawsBesides
import Derived.Deep.DeepCutAuto
import Derived.Test.YtihhpmhigmegjaaGreatDoorA1
import Derived.Test.YtihhpmhigmegjaaGreatDoorM1
import Derived.StillTailTactics
import Derived.Lib.Hide
import Derived.Lib.MinMaxS
import Derived.Lib.QuietBelow
import Derived.Deep.QuietTactic
import Derived.IntWalk
import Derived.Test.YtihhpmhigmegjaaGreatDoorGA
import Derived.Test.YtihhpmhigmegjaaGreatDoorG6
import Derived.Test.YtihhpmhigmegjaaGreatDoorI7
import Derived.Laws.EntriesVeiled
import Derived.Test.YtihhpmhigmegjaaGreatDoorGQ
import Derived.Deep.RegionHeld3
import Derived.Deep.AppendLies
import Derived.Sort.WalkA
import Derived.Sort.WalkB2
import Derived.Sort.WalkB12
import Derived.Ground.NamesProg
import Derived.Shelf.SortM.Plain
import Derived.Shelf.SortM.SortNone
import Derived.Sort.OwnSortedInts
import Derived.Test.YtihhpmhigmegjaaGreatDoorPQC
namespace Go.Proofs.YtihhpmhigmegjaaGreatDoor
open Go.ChangeShapes Go.WideShapes Go.ChangeAt Go.RowKit Go.Sort

def sq (ax ay bx bY : Int) : Int := (ax - bx) * (ax - bx) + (ay - bY) * (ay - bY)
theorem sq_bd {d : Int} (h1 : -6000 ≤ d) (h2 : d ≤ 6000) : 0 ≤ d * d ∧ d * d ≤ 36000000 := by
  refine ⟨by rcases Int.le_total 0 d with h0 | h0
             · exact Int.mul_nonneg h0 h0
             · have := Int.mul_nonneg (show 0 ≤ -d by omega) (show 0 ≤ -d by omega)
               rwa [Int.neg_mul_neg] at this, ?_⟩
  have h : d * d ≤ 6000 * 6000 := by
    rcases Int.le_total 0 d with h0 | h0
    · exact Int.mul_le_mul h2 h2 h0 (by omega)
    · have := Int.mul_le_mul (show -d ≤ 6000 by omega) (show -d ≤ 6000 by omega) (show 0 ≤ -d by omega) (by omega)
      rwa [Int.neg_mul_neg] at this
  simpa using h
theorem mul_bd {u v : Int} (h1 : -6000 ≤ u) (h2 : u ≤ 6000) (h3 : -6000 ≤ v) (h4 : v ≤ 6000) : -36000000 ≤ u * v ∧ u * v ≤ 36000000 := by
  obtain ⟨a1, a2⟩ := sq_bd h1 h2
  obtain ⟨b1, b2⟩ := sq_bd h3 h4
  obtain ⟨p1, _⟩ := sq_bd (d := 0) (by omega) (by omega)
  have s1 : 0 ≤ (u + v) * (u + v) := by
    rcases Int.le_total 0 (u + v) with h | h
    · exact Int.mul_nonneg h h
    · have := Int.mul_nonneg (show 0 ≤ -(u + v) by omega) (show 0 ≤ -(u + v) by omega)
      rwa [Int.neg_mul_neg] at this
  have s2 : 0 ≤ (u - v) * (u - v) := by
    rcases Int.le_total 0 (u - v) with h | h
    · exact Int.mul_nonneg h h
    · have := Int.mul_nonneg (show 0 ≤ -(u - v) by omega) (show 0 ≤ -(u - v) by omega)
      rwa [Int.neg_mul_neg] at this
  have e1 : (u + v) * (u + v) = u * u + 2 * (u * v) + v * v := by
    rw [Int.mul_add, Int.add_mul, Int.add_mul, Int.mul_comm v u]; omega
  have e2 : (u - v) * (u - v) = u * u - 2 * (u * v) + v * v := by
    rw [Int.mul_sub, Int.sub_mul, Int.sub_mul, Int.mul_comm v u]; omega
  omega
theorem sq_comm (a b c d : Int) : sq a b c d = sq c d a b := by
  unfold sq
  rw [show c - a = -(a - c) from by omega, show d - b = -(b - d) from by omega, Int.neg_mul_neg, Int.neg_mul_neg]
/-- A coordinate that a point near a mask can have. -/
def Co (a : Int) : Prop := -3000 ≤ a ∧ a ≤ 3000
theorem sq_all {a b c d : Int} (ha : Co a) (hb : Co b) (hc : Co c) (hd : Co d) : 0 ≤ sq a b c d ∧ sq a b c d ≤ 72000000 := by
  obtain ⟨a1, a2⟩ := ha; obtain ⟨b1, b2⟩ := hb; obtain ⟨c1, c2⟩ := hc; obtain ⟨d1, d2⟩ := hd
  have h1 := sq_bd (d := a - c) (by omega) (by omega)
  have h2 := sq_bd (d := b - d) (by omega) (by omega)
  unfold sq; omega

set_option maxRecDepth 100000 in
theorem specSq (a b c d : Int) (ha : Co a) (hb : Co b) (hc : Co c) (hd : Co d) (w : World) :
    Calls Tryz.prog 134 #[.agg #[.int .i64 a, .int .i64 b], .agg #[.int .i64 c, .int .i64 d]] w fun e w' => e = .returned (.int .i64 (sq a b c d)) ∧ Below w.heap.size w w' := by
  obtain ⟨a1, a2⟩ := ha; obtain ⟨b1, b2⟩ := hb; obtain ⟨c1, c2⟩ := hc; obtain ⟨d1, d2⟩ := hd
  obtain ⟨p1, p2⟩ := sq_bd (d := a - c) (by omega) (by omega)
  obtain ⟨p3, p4⟩ := sq_bd (d := b - d) (by omega) (by omega)
  go_enter Tryz.func134, Tryz.ntmps134
  go_wp2
  go_ret
  exact ⟨rfl, by (repeat (first | exact Below.refl _ _ | assumption | refine Below.drew ?_ | refine below_drewN' ?_ _ | refine Below.alloc ?_ (by (try simp); (try omega)) _ | refine Below.setCell ?_ (by (try simp); (try omega)) _))⟩
set_option maxRecDepth 100000 in
theorem implSq (a b c d : Int) (ha : Co a) (hb : Co b) (hc : Co c) (hd : Co d) (w : World) :
    Calls Tryz.prog 148 #[.agg #[.int .i64 a, .int .i64 b], .agg #[.int .i64 c, .int .i64 d]] w fun e w' => e = .returned (.int .i64 (sq a b c d)) ∧ Below w.heap.size w w' := by
  obtain ⟨a1, a2⟩ := ha; obtain ⟨b1, b2⟩ := hb; obtain ⟨c1, c2⟩ := hc; obtain ⟨d1, d2⟩ := hd
  obtain ⟨p1, p2⟩ := sq_bd (d := a - c) (by omega) (by omega)
  obtain ⟨p3, p4⟩ := sq_bd (d := b - d) (by omega) (by omega)
  go_enter Tryz.func148, Tryz.ntmps148
  go_wp2
  go_ret
  exact ⟨rfl, by (repeat (first | exact Below.refl _ _ | assumption | refine Below.drew ?_ | refine below_drewN' ?_ _ | refine Below.alloc ?_ (by (try simp); (try omega)) _ | refine Below.setCell ?_ (by (try simp); (try omega)) _))⟩
end Go.Proofs.YtihhpmhigmegjaaGreatDoor
namespace Go.Proofs.YtihhpmhigmegjaaGreatDoor
open Go.ChangeShapes Go.WideShapes Go.ChangeAt Go.RowKit

def homB (a b : Ent) (d : Int) : Bool := decide (a.text = b.text) && decide (sq a.x a.y b.x b.y ≤ d * d)
theorem homB_comm (a b : Ent) (d : Int) : homB a b d = homB b a d := by
  unfold homB
  rw [sq_comm]
  have e : decide (a.text = b.text) = decide (b.text = a.text) := decide_eq_decide.2 ⟨Eq.symm, Eq.symm⟩
  rw [e]
/-- The indices below k of the entries with a mark. -/
def wTo (xs : List Ent) (p : Ent → Bool) : Nat → List Int
  | 0 => []
  | k + 1 => match xs[k]? with
    | some b => if p b = true then wTo xs p k ++ [(k : Int)] else wTo xs p k
    | none => wTo xs p k
def whichE (xs : List Ent) (p : Ent → Bool) : List Int := wTo xs p xs.length
theorem wTo_at {xs : List Ent} {p : Ent → Bool} {k : Nat} (h : k < xs.length) : wTo xs p (k + 1) = if p xs[k] = true then wTo xs p k ++ [(k : Int)] else wTo xs p k := by
  rw [wTo, List.getElem?_eq_getElem h]
theorem wTo_len (xs : List Ent) (p : Ent → Bool) : ∀ k, (wTo xs p k).length ≤ k
  | 0 => by simp [wTo]
  | k + 1 => by
    have := wTo_len xs p k
    rw [wTo]
    split
    · split
      · simp; omega
      · omega
    · omega
theorem dd_bd {d : Int} (h : 0 ≤ d ∧ d ≤ 4000) : 0 ≤ d * d ∧ d * d ≤ 36000000 := sq_bd (by omega) (by omega)
set_option maxRecDepth 100000 in
theorem specHom_any (a b : Ent) (ha : entB a = true) (hb : entB b = true) (d : Int) (hd : 0 ≤ d ∧ d ≤ 4000) (w : World) :
    Calls Tryz.prog 77 #[a.val, b.val, .int .i64 d] w fun e w' => e = .returned (.bool (homB a b d)) ∧ Below w.heap.size w w' := by
  obtain ⟨p1, p2, p3⟩ := ent_bd ha
  obtain ⟨p4, p5, p6⟩ := ent_bd hb
  clear ha hb
  have HS := Lib.hid (specSq a.x a.y b.x b.y (by unfold Co; omega) (by unfold Co; omega) (by unfold Co; omega) (by unfold Co; omega))
  have HX := Lib.hid (show homB a b d = (decide (a.text = b.text) && decide (sq a.x a.y b.x b.y ≤ d * d)) from rfl)
  have KN := Lib.hid (blks_two w 45 45 #[.string a.text, .int .i64 a.x, .int .i64 a.y, .int .i64 a.since] #[.string b.text, .int .i64 b.x, .int .i64 b.y, .int .i64 b.since])
  obtain ⟨d1, d2⟩ := dd_bd hd
  have se := str_eq a.text b.text
  unfold Ent.val
  generalize homB a b d = r at HX ⊢
  generalize sq a.x a.y b.x b.y = q at *
  by_cases h : a.text = b.text
  · rw [decide_eq_true h] at HX se
    clear h
    go_enter Tryz.func77, Tryz.ntmps77
    go_wp2_with fail
    generalize hW : (w.alloc (.cells #[.string a.text, .int .i64 a.x, .int .i64 a.y, .int .i64 a.since] 45)).alloc (.cells #[.string b.text, .int .i64 b.x, .int .i64 b.y, .int .i64 b.since] 45) = W
    obtain ⟨ka, kb, bw, hsz⟩ := KN.out W hW.symm
    clear hW hsz ka kb
    refine (HS.out W).mono ?_; rintro e w1 ⟨rfl, b1⟩
    go_wp2_with fail
    go_ret
    exact ⟨ret_bool (by rw [HX.out]; simp), bw.trans (b1.mono bw.size)⟩
  · rw [decide_eq_false h] at HX se
    clear h
    go_enter Tryz.func77, Tryz.ntmps77
    go_wp2_with fail
    go_ret
    exact ⟨ret_bool (by rw [HX.out]; rfl), by (repeat (first | exact Below.refl _ _ | assumption | refine Below.drew ?_ | refine below_drewN' ?_ _ | refine Below.alloc ?_ (by (try simp); (try omega)) _ | refine Below.setCell ?_ (by (try simp); (try omega)) _))⟩
set_option maxRecDepth 100000 in
theorem implHom_any (a b : Ent) (ha : entB a = true) (hb : entB b = true) (d : Int) (hd : 0 ≤ d ∧ d ≤ 4000) (w : World) :
    Calls Tryz.prog 90 #[a.val, b.val, .int .i64 d] w fun e w' => e = .returned (.bool (homB a b d)) ∧ Below w.heap.size w w' := by
  obtain ⟨p1, p2, p3⟩ := ent_bd ha
  obtain ⟨p4, p5, p6⟩ := ent_bd hb
  clear ha hb
  have HS := Lib.hid (implSq a.x a.y b.x b.y (by unfold Co; omega) (by unfold Co; omega) (by unfold Co; omega) (by unfold Co; omega))
  have HX := Lib.hid (show homB a b d = (decide (a.text = b.text) && decide (sq a.x a.y b.x b.y ≤ d * d)) from rfl)
  have KN := Lib.hid (blks_two w 45 45 #[.string a.text, .int .i64 a.x, .int .i64 a.y, .int .i64 a.since] #[.string b.text, .int .i64 b.x, .int .i64 b.y, .int .i64 b.since])
  obtain ⟨d1, d2⟩ := dd_bd hd
  have se := str_eq a.text b.text
  unfold Ent.val
  generalize homB a b d = r at HX ⊢
  generalize sq a.x a.y b.x b.y = q at *
  by_cases h : a.text = b.text
  · rw [decide_eq_true h] at HX se
    clear h
    go_enter Tryz.func90, Tryz.ntmps90
    go_wp2_with fail
    generalize hW : (w.alloc (.cells #[.string a.text, .int .i64 a.x, .int .i64 a.y, .int .i64 a.since] 45)).alloc (.cells #[.string b.text, .int .i64 b.x, .int .i64 b.y, .int .i64 b.since] 45) = W
    obtain ⟨ka, kb, bw, hsz⟩ := KN.out W hW.symm
    clear hW hsz ka kb
    refine (HS.out W).mono ?_; rintro e w1 ⟨rfl, b1⟩
    go_wp2_with fail
    go_ret
    exact ⟨ret_bool (by rw [HX.out]; simp), bw.trans (b1.mono bw.size)⟩
  · rw [decide_eq_false h] at HX se
    clear h
    go_enter Tryz.func90, Tryz.ntmps90
    go_wp2_with fail
    go_ret
    exact ⟨ret_bool (by rw [HX.out]; rfl), by (repeat (first | exact Below.refl _ _ | assumption | refine Below.drew ?_ | refine below_drewN' ?_ _ | refine Below.alloc ?_ (by (try simp); (try omega)) _ | refine Below.setCell ?_ (by (try simp); (try omega)) _))⟩
/-- The code of entries, an entry and a distance. -/
def codeE (xs : List Ent) (ok : Bool) (d : Int) : Int := if (areE xs && ok) = true then (if inB d 0 4000 = true then 0 else 2) else 1
set_option maxRecDepth 100000 in
theorem implCodeE_any (xs : List Ent) (ok : Bool) (d : Int) (A : Option Addr) (c : Nat) (w : World) (h : HasEnt w xs A) (hs : ∀ b ∈ xs, b.text.size ≤ 1048576) :
    Calls Tryz.prog 73 #[.slice A xs.length c, .bool ok, .int .i64 d] w fun e w' => e = .returned (.int .i64 (codeE xs ok d)) ∧ Below w.heap.size w w' := by
  have HA := Lib.hid (implAreE_any xs A c w h hs)
  have HI := Lib.hid (within_any d 0 4000)
  have HX := Lib.hid (show codeE xs ok d = if (areE xs && ok) = true then (if inB d 0 4000 = true then 0 else 2) else 1 from rfl)
  generalize codeE xs ok d = r at HX ⊢
  generalize areE xs = q1 at *
  generalize inB d 0 4000 = q2 at *
  clear h hs
  cases q1 <;> cases ok <;> cases q2
  all_goals
    go_enter Tryz.func73, Tryz.ntmps73
    go_wp2_with fail
    refine HA.out.mono ?_; rintro e w1 ⟨rfl, b1⟩
    go_wp2_with fail
    first
      | (go_ret; exact ⟨ret_int (by rw [HX.out]; rfl), b1⟩)
      | (refine (HI.out _).mono ?_; rintro e w' ⟨rfl, rfl⟩; go_wp2_with fail; go_ret; exact ⟨ret_int (by rw [HX.out]; rfl), b1⟩)
set_option maxRecDepth 100000 in
theorem specCodeE_any (xs : List Ent) (b : Ent) (d : Int) (A : Option Addr) (c : Nat) (w : World) (h : HasEnt w xs A) (hs : ∀ b ∈ xs, b.text.size ≤ 1048576) (hb : b.text.size ≤ 1048576) :
    Calls Tryz.prog 76 #[.slice A xs.length c, b.val, .int .i64 d] w fun e w' => e = .returned (.int .i64 (codeE xs (entB b) d)) ∧ Below w.heap.size w w' := by
  have HA := Lib.hid (fun W (hb : Below w.heap.size w W) => specAreE_any xs A c W (h.below hb) hs)
  have HE := Lib.hid (specEnt_any b hb)
  have HI := Lib.hid (specIn_any d 0 4000)
  have HX := Lib.hid (show codeE xs (entB b) d = if (areE xs && entB b) = true then (if inB d 0 4000 = true then 0 else 2) else 1 from rfl)
  have KN := Lib.hid (blks_one w 45 #[.string b.text, .int .i64 b.x, .int .i64 b.y, .int .i64 b.since])
  generalize codeE xs (entB b) d = r at HX ⊢
  generalize areE xs = q1 at *
  generalize entB b = q3 at *
  generalize inB d 0 4000 = q2 at *
  unfold Ent.val at HE ⊢
  clear h hs hb
  cases q1 <;> cases q3 <;> cases q2
  all_goals
    go_enter Tryz.func76, Tryz.ntmps76
    go_wp2_with fail
    generalize hW : w.alloc (.cells #[.string b.text, .int .i64 b.x, .int .i64 b.y, .int .i64 b.since] 45) = W
    obtain ⟨kb, bw, hsz⟩ := KN.out W hW.symm
    clear hW hsz
    refine (HA.out W bw).mono ?_; rintro e w1 ⟨rfl, b1⟩
    obtain ⟨x0, x1, x2, x3⟩ := cells_4 (kb.below b1 kb.lt)
    have B1 := Lib.hid (bw.trans (b1.mono bw.size)); clear kb b1 bw
    go_wp2_with fail
    first
      | (go_ret; exact ⟨ret_int (by rw [HX.out]; rfl), B1.out⟩)
      | (refine (HE.out _).mono ?_; rintro e w2 ⟨rfl, b2⟩; go_wp2_with fail; first
          | (go_ret; exact ⟨ret_int (by rw [HX.out]; rfl), B1.out.trans (b2.mono B1.out.size)⟩)
          | (refine (HI.out _).mono ?_; rintro e w' ⟨rfl, rfl⟩; go_wp2_with fail; go_ret; exact ⟨ret_int (by rw [HX.out]; rfl), B1.out.trans (b2.mono B1.out.size)⟩))
end Go.Proofs.YtihhpmhigmegjaaGreatDoor
namespace Go.Proofs.YtihhpmhigmegjaaGreatDoor
open Go.ChangeShapes Go.WideShapes Go.ChangeAt Go.RowKit Go.Sort

/-- The indices kept, of a list of indices: each that none of the kept ones bars. -/
def clrL (P : Int → Int → Bool) (O : List Int) : List Int := O.foldl (fun K i => if K.any (fun k => P k i) = true then K else K ++ [i]) []
theorem clrL_nil (P : Int → Int → Bool) : clrL P [] = [] := rfl
theorem clrL_snoc (P : Int → Int → Bool) (O : List Int) (i : Int) : clrL P (O ++ [i]) = if (clrL P O).any (fun k => P k i) = true then clrL P O else clrL P O ++ [i] := by
  unfold clrL
  rw [List.foldl_append]; rfl
theorem clrL_take {P : Int → Int → Bool} {O : List Int} {k : Nat} (h : k < O.length) : clrL P (O.take (k + 1)) = if (clrL P (O.take k)).any (fun v => P v O[k]) = true then clrL P (O.take k) else clrL P (O.take k) ++ [O[k]] := by
  rw [List.take_succ_eq_append_getElem h, clrL_snoc]
theorem clrL_aux (P : Int → Int → Bool) : ∀ (O K : List Int), ∃ T, O.foldl (fun K i => if K.any (fun k => P k i) = true then K else K ++ [i]) K = K ++ T ∧ T.Sublist O
  | [], K => ⟨[], by simp, List.Sublist.refl _⟩
  | a :: O, K => by
    rw [List.foldl_cons]
    split
    · obtain ⟨T, h1, h2⟩ := clrL_aux P O K
      exact ⟨T, h1, h2.cons _⟩
    · obtain ⟨T, h1, h2⟩ := clrL_aux P O (K ++ [a])
      exact ⟨a :: T, by rw [h1, List.append_assoc]; rfl, h2.cons_cons _⟩
theorem clrL_sub (P : Int → Int → Bool) (O : List Int) : (clrL P O).Sublist O := by
  obtain ⟨T, h1, h2⟩ := clrL_aux P O []
  unfold clrL
  rw [h1]; exact h2
theorem clrL_len (P : Int → Int → Bool) (O : List Int) : (clrL P O).length ≤ O.length := (clrL_sub P O).length_le
theorem insR_perm (lt : Int → Int → Bool) (x : Int) (S : List Int) : (insR lt x S).Perm (x :: S) := by
  unfold insR
  refine List.Perm.trans List.perm_middle ?_
  rw [List.take_append_drop]
theorem ordL_perm (lt : Int → Int → Bool) : ∀ k, (ordL lt k).Perm (upL 0 k)
  | 0 => by simp [ordL, upL]
  | k + 1 => by
    rw [upL_snoc]
    refine (insR_perm lt k (ordL lt k)).trans ?_
    exact ((ordL_perm lt k).cons _).trans (List.perm_append_singleton _ _).symm
theorem upL_sorted (a n : Nat) : (upL a n).Pairwise (· < ·) := by
  unfold upL
  rw [List.pairwise_map]
  exact List.Pairwise.imp (fun h => by omega) (List.pairwise_lt_range' (s := a) (n := n) 1)
theorem upL_nodup (a n : Nat) : (upL a n).Nodup := (upL_sorted a n).imp (fun h => by omega)
theorem upL_mem {n : Nat} {v : Int} : v ∈ upL 0 n ↔ 0 ≤ v ∧ v < (n : Int) := by
  unfold upL
  simp only [List.mem_map, List.mem_range']
  constructor
  · rintro ⟨i, ⟨j, h1, h2⟩, rfl⟩; omega
  · rintro ⟨h1, h2⟩; exact ⟨v.toNat, ⟨v.toNat, by omega, by omega⟩, by omega⟩
/-- The indices of the kept entries, in their own order. -/
def inB' (K : List Int) (v : Int) : Bool := K.any (fun k => k == v)
theorem inB'_iff {K : List Int} {v : Int} : inB' K v = true ↔ v ∈ K := by
  unfold inB'
  rw [List.any_eq_true]
  constructor
  · rintro ⟨x, h1, h2⟩; rw [beq_iff_eq] at h2; rwa [← h2]
  · intro h; exact ⟨v, h, by simp⟩
def refTo (K : List Int) (k : Nat) : List Int := (upL 0 k).filter (inB' K)
theorem refTo_next (K : List Int) (k : Nat) : refTo K (k + 1) = if inB' K k = true then refTo K k ++ [(k : Int)] else refTo K k := by
  unfold refTo
  rw [upL_snoc, List.filter_append]
  cases h : inB' K (k : Int) <;> simp [h]
theorem refTo_len (K : List Int) (k : Nat) : (refTo K k).length ≤ k := by
  unfold refTo
  have := List.length_filter_le (inB' K) (upL 0 k)
  rwa [upL_len] at this
theorem sort_ref {P : Int → Int → Bool} {lt : Int → Int → Bool} (n : Nat) : (clrL P (ordL lt n)).mergeSort (fun x y => decide (x ≤ y)) = refTo (clrL P (ordL lt n)) n := by
  have hsub := clrL_sub P (ordL lt n)
  have hperm := ordL_perm lt n
  have hnd : (ordL lt n).Nodup := hperm.nodup_iff.2 (upL_nodup 0 n)
  have hkn : (clrL P (ordL lt n)).Nodup := hnd.sublist hsub
  have hkm : ∀ v ∈ clrL P (ordL lt n), 0 ≤ v ∧ v < (n : Int) := fun v hv => ordL_in lt n v (hsub.subset hv)
  generalize clrL P (ordL lt n) = K at *
  have hrn : (refTo K n).Nodup := (upL_nodup 0 n).sublist List.filter_sublist
  have hp : (K.mergeSort (fun x y => decide (x ≤ y))).Perm (refTo K n) := by
    refine (List.mergeSort_perm K _).trans ?_
    rw [List.perm_ext_iff_of_nodup hkn hrn]
    intro v
    unfold refTo
    rw [List.mem_filter, upL_mem, inB'_iff]
    exact ⟨fun h => ⟨hkm v h, h⟩, fun h => h.2⟩
  have h1 : (K.mergeSort (fun x y => decide (x ≤ y))).Pairwise (· ≤ ·) := by
    have := List.pairwise_mergeSort (le := fun x y : Int => decide (x ≤ y)) (fun a b c h1 h2 => by simp at *; omega) (fun a b => by simp; omega) K
    exact this.imp (fun h => by simpa using h)
  have h2 : (refTo K n).Pairwise (· ≤ ·) := ((upL_sorted 0 n).sublist List.filter_sublist).imp (fun h => by omega)
  exact hp.eq_of_pairwise (fun a b _ _ h1 h2 => by omega) h1 h2
end Go.Proofs.YtihhpmhigmegjaaGreatDoor
namespace Go.Proofs.YtihhpmhigmegjaaGreatDoor
open Go.ChangeShapes Go.WideShapes Go.ChangeAt Go.RowKit Go.Sort

theorem wTo_congr {xs : List Ent} {p q : Ent → Bool} (h : ∀ f ∈ xs, p f = q f) : ∀ k, wTo xs p k = wTo xs q k
  | 0 => rfl
  | k + 1 => by
    rw [wTo, wTo, wTo_congr h k]
    cases hk : xs[k]? with
    | none => rfl
    | some b => simp only [h b (List.mem_of_getElem? hk)]
theorem four_regrown {W0 : World} {g : Nat} {t : TypeId} {a b c d : Value} (h : Blk W0 g t #[a, b, c, d]) :
    (∀ x os, (grow (redrawn W0 x) os).cell? ⟨g, 0, none⟩ = some a) ∧ (∀ x os, (grow (redrawn W0 x) os).cell? ⟨g, 1, none⟩ = some b) ∧ (∀ x os, (grow (redrawn W0 x) os).cell? ⟨g, 2, none⟩ = some c) ∧ (∀ x os, (grow (redrawn W0 x) os).cell? ⟨g, 3, none⟩ = some d) := by
  obtain ⟨h0, h1, h2, h3⟩ := cells_4 h
  exact ⟨cell_regrown h0, cell_regrown h1, cell_regrown h2, cell_regrown h3⟩
set_option maxRecDepth 100000 in
set_option maxHeartbeats 2000000 in
theorem specWhich_any (xs : List Ent) (b : Ent) (dist : Int) (older : Bool) (hx : ∀ f ∈ xs, entB f = true) (hb : entB b = true) (hd : 0 ≤ dist ∧ dist ≤ 4000) (A : Option Addr) (c : Nat) (w : World) (h : HasEnt w xs A) (hm : xs.length ≤ 12) :
    Calls Tryz.prog 79 #[.slice A xs.length c, b.val, .int .i64 dist, .bool older] w fun e w' => ∃ v, e = .returned v ∧ w'.ownsRow w.heap.size 2 1 v (whichE xs (fun f => homB f b dist && (decide (cmpE f b ≤ 0) == older))).length (inC (whichE xs (fun f => homB f b dist && (decide (cmpE f b ≤ 0) == older)))) ∧ Below w.heap.size w w' := by
  obtain ⟨i0, hi0, hz0, hz1, hz2⟩ := info_parts infoInt
  have H := Lib.hid h; clear h
  have HX := Lib.hid hx; clear hx
  have HB := Lib.hid hb; clear hb
  have KN := Lib.hid (blks_two w 45 2 #[.string b.text, .int .i64 b.x, .int .i64 b.y, .int .i64 b.since] #[])
  have HHm := Lib.hid (fun f hf => specHom_any f b hf HB.out dist hd)
  have HCm := Lib.hid (fun f hf => specCmpE_any f b hf HB.out)
  obtain ⟨P, hP⟩ : ∃ P : Ent → Bool, (fun f => homB f b dist && (decide (cmpE f b ≤ 0) == older)) = P := ⟨_, rfl⟩
  have HPf := Lib.hid (fun f => (congrFun hP f).symm)
  rw [hP]
  clear hP
  have HL := Lib.hid (show whichE xs P = wTo xs P xs.length from rfl)
  generalize whichE xs P = LL at HL ⊢
  unfold Ent.val at HHm HCm ⊢
  go_enter Tryz.func79, Tryz.ntmps79
  go_upto_region 2 with (fail)
  generalize hW : (w.alloc (.cells #[.string b.text, .int .i64 b.x, .int .i64 b.y, .int .i64 b.since] 45)).alloc (.cells #[] 2) = W
  obtain ⟨kb, ke, bw, hsz⟩ := KN.out W hW.symm
  have OW := Lib.hid (show W.ownsRow w.heap.size 2 1 (.slice (some ⟨w.heap.size + 1, 0, none⟩) 0 0) 0 (inC []) by
    have := World.ownsRow_made (e := 2) (base := w.heap.size) (size := 1) (w.alloc (.cells #[.string b.text, .int .i64 b.x, .int .i64 b.y, .int .i64 b.since] 45)) #[] 0 (by simp) (by decide) rfl
    rw [hW] at this
    simpa [inC] using this)
  clear hW hsz ke
  have KB := Lib.hid kb; have BW0 := Lib.hid bw; have LB := Lib.hid kb.lt; clear kb bw
  go_wp2_with fail
  go_loopw [9, 10] (fun v9 v10 wr => ∃ (k n : Nat) (B : Option Addr) (d : Nat), k ≤ xs.length ∧ n ≤ k ∧ Hid ((wTo xs P k).length = n) ∧ v9 = .slice B n d ∧ Hid (wr.ownsRow w.heap.size 2 1 (.slice B n d) n (inC (wTo xs P k))) ∧ Hid (Blk wr w.heap.size 45 #[.string b.text, .int .i64 b.x, .int .i64 b.y, .int .i64 b.since] ∧ ∀ g, (Value.slice B n d).ownBlock = some g → w.heap.size < g) ∧ Hid (Below w.heap.size w wr) ∧ v10 = .int .i64 k) (fun _ i _ => xs.length - (intOf i).toNat)
  case atStart => exact ⟨0, 0, _, _, by omega, by omega, rfl, rfl, OW.out, ⟨KB.out, fun g hg => by simp [Value.ownBlock] at hg; omega⟩, BW0.out, rfl⟩
  case round =>
    obtain ⟨k, n, B, d, hk, hnk, HN, rfl, HO, HK, BW, rfl⟩ := hrel
    by_cases hlt : k < xs.length
    · obtain ⟨ab, ao, rfl, hadb, hcell⟩ := (H.out.below BW.out).1.2 (by omega)
      obtain ⟨e0, e1, e2, e3⟩ := enC_get xs k hlt
      have c0 := hcell _ _ e0
      have c1 := hcell _ _ e1
      have c2 := hcell _ _ e2
      have c3 := hcell _ _ e3
      rw [← Nat.add_assoc] at c1 c2 c3
      clear hcell e0 e1 e2 e3
      have HW1 := Lib.hid (wTo_at (xs := xs) (p := P) hlt)
      have HH1 := Lib.hid (HHm.out xs[k] (HX.out _ (List.getElem_mem hlt)))
      have HC1 := Lib.hid (HCm.out xs[k] (HX.out _ (List.getElem_mem hlt)))
      have HP1 := Lib.hid (HPf.out xs[k])
      generalize xs[k] = f at c0 c1 c2 c3 HW1 HH1 HC1 HP1
      go_upto_region 5 with (fail)
      have k0 := cell_regrown c0
      have k1 := cell_regrown c1
      have k2 := cell_regrown c2
      have k3 := cell_regrown c3
      obtain ⟨x0, x1, x2, x3⟩ := four_regrown HK.out.1
      clear c0 c1 c2 c3
      generalize cmpE f b = q at HC1 HP1
      have r1 : ∀ d os, Calls Tryz.prog 77 #[.agg #[.string f.text, .int .i64 f.x, .int .i64 f.y, .int .i64 f.since], .agg #[.string b.text, .int .i64 b.x, .int .i64 b.y, .int .i64 b.since], .int .i64 dist] (grow (redrawn wr d) os) (fun e w'' => e = .returned (.bool (homB f b dist)) ∧ ∃ p : Regrown, w'' = grow (redrawn wr p.d) p.os) := fun d os => Calls.regrown_of (HH1.out _)
      have r2 : ∀ d os, Calls Tryz.prog 96 #[.agg #[.string f.text, .int .i64 f.x, .int .i64 f.y, .int .i64 f.since], .agg #[.string b.text, .int .i64 b.x, .int .i64 b.y, .int .i64 b.since]] (grow (redrawn wr d) os) (fun e w'' => e = .returned (.int .i64 q) ∧ ∃ p : Regrown, w'' = grow (redrawn wr p.d) p.os) := fun d os => Calls.regrown_of (HC1.out _)
      cases q1 : homB f b dist
      · have HL1 := Lib.hid (show wTo xs P (k + 1) = wTo xs P k by rw [HW1.out, HP1.out, q1]; rfl)
        rw [q1] at r1
        clear q1 r2
        refine wp_region_quiet_below (by kernel_rfl) (by kernel_rfl) ?_; (repeat (first | go_big_quiet_step ((first | with_reducible exact r1 _ _)))); refine wpQuiet_nil ?_; intro _ hw'; obtain ⟨⟨dq, osq⟩, rfl⟩ := hw'
        have HK2 := Lib.hid (HK.out.1.below (below_regrown wr dq osq) HK.out.1.lt)
        have O2 := Lib.hid (own_below HO.out (below_regrown wr dq osq))
        have B2 := Lib.hid (BW.out.trans ((below_regrown wr dq osq).mono BW.out.size))
        generalize grow (redrawn wr dq) osq = w2 at HK2 O2 B2 ⊢
        clear r1 k0 k1 k2 k3 x0 x1 x2 x3
        go_wp2_with fail
        go_roundw
        case rel => exact ⟨k + 1, n, B, d, by omega, by omega, by rw [HL1.out]; exact HN.out, rfl, by rw [HL1.out]; exact O2.out, ⟨HK2.out, HK.out.2⟩, B2.out, by go_num⟩
        case measure => simp [intOf]; omega
      · by_cases hq : q ≤ 0
        all_goals
          cases older
        · have HL1 := Lib.hid (show wTo xs P (k + 1) = wTo xs P k by rw [HW1.out, HP1.out, q1, decide_eq_true hq]; rfl)
          rw [q1] at r1
          clear q1
          refine wp_region_quiet_below (by kernel_rfl) (by kernel_rfl) ?_; (repeat (first | go_big_quiet_step ((first | with_reducible exact r1 _ _ | with_reducible exact r2 _ _)))); refine wpQuiet_nil ?_; intro _ hw'; obtain ⟨⟨dq, osq⟩, rfl⟩ := hw'
          have HK2 := Lib.hid (HK.out.1.below (below_regrown wr dq osq) HK.out.1.lt)
          have O2 := Lib.hid (own_below HO.out (below_regrown wr dq osq))
          have B2 := Lib.hid (BW.out.trans ((below_regrown wr dq osq).mono BW.out.size))
          generalize grow (redrawn wr dq) osq = w2 at HK2 O2 B2 ⊢
          clear r1 r2 k0 k1 k2 k3 x0 x1 x2 x3
          go_wp2_with fail
          go_roundw
          case rel => exact ⟨k + 1, n, B, d, by omega, by omega, by rw [HL1.out]; exact HN.out, rfl, by rw [HL1.out]; exact O2.out, ⟨HK2.out, HK.out.2⟩, B2.out, by go_num⟩
          case measure => simp [intOf]; omega
        · have HL1 := Lib.hid (show wTo xs P (k + 1) = wTo xs P k ++ [(k : Int)] by rw [HW1.out, HP1.out, q1, decide_eq_true hq]; rfl)
          rw [q1] at r1
          clear q1
          refine wp_region_quiet_below (by kernel_rfl) (by kernel_rfl) ?_; (repeat (first | go_big_quiet_step ((first | with_reducible exact r1 _ _ | with_reducible exact r2 _ _)))); refine wpQuiet_nil ?_; intro _ hw'; obtain ⟨⟨dq, osq⟩, rfl⟩ := hw'
          have HK2 := Lib.hid (HK.out.1.below (below_regrown wr dq osq) HK.out.1.lt)
          have O2 := Lib.hid (own_below HO.out (below_regrown wr dq osq))
          have B2 := Lib.hid (BW.out.trans ((below_regrown wr dq osq).mono BW.out.size))
          generalize grow (redrawn wr dq) osq = w2 at HK2 O2 B2 ⊢
          clear r1 r2 k0 k1 k2 k3 x0 x1 x2 x3
          go_wp2_with (at_builtin; refine wpList_append_any _ rfl (.tmp 36) (.tmp 38) _ rfl w.heap.size 2 i0 _ 1 8 Tryz.underlying31 hi0 hz0 hz1 hz2 rfl (by omega) (.slice B n d) n (inC (wTo xs P k)) rfl (O2.out.alloc _) _ (some ⟨w2.heap.size, 0, none⟩) 1 1 [.int .i64 k] rfl (new_in1 _ _ _) (by simp [Value.oneCell']) (by simp only [maxLen]; omega) (by omega) (by have := B2.out.size; simp; omega) ?_; intro v4 w4 hown4 hg4 hat4; obtain ⟨B4, d4, rfl, _⟩ := own_shape hown4)
          go_roundw
          case rel => exact ⟨k + 1, n + 1, B4, d4, by omega, by omega, by have := HN.out; rw [HL1.out]; simp [Hid, this], rfl, by rw [HL1.out, inC_snoc]; exact hown4, ⟨(HK2.out.alloc _).grown hg4 (fun e => by have := HK.out.2 _ e.symm; omega), fun g hg => by
              rcases hat4 with h4 | h4
              · rw [h4] at hg; exact HK.out.2 g hg
              · rw [h4] at hg; have := HK2.out.lt; injection hg with hg; subst hg; simp; omega⟩, below_own (B2.out.alloc B2.out.size _) (O2.out.alloc _) hg4 (Nat.le_refl _) (by have := B2.out.size; simp; omega), by go_num⟩
          case measure => simp [intOf]; omega
        · have HL1 := Lib.hid (show wTo xs P (k + 1) = wTo xs P k ++ [(k : Int)] by rw [HW1.out, HP1.out, q1, decide_eq_false hq]; rfl)
          rw [q1] at r1
          clear q1
          refine wp_region_quiet_below (by kernel_rfl) (by kernel_rfl) ?_; (repeat (first | go_big_quiet_step ((first | with_reducible exact r1 _ _ | with_reducible exact r2 _ _)))); refine wpQuiet_nil ?_; intro _ hw'; obtain ⟨⟨dq, osq⟩, rfl⟩ := hw'
          have HK2 := Lib.hid (HK.out.1.below (below_regrown wr dq osq) HK.out.1.lt)
          have O2 := Lib.hid (own_below HO.out (below_regrown wr dq osq))
          have B2 := Lib.hid (BW.out.trans ((below_regrown wr dq osq).mono BW.out.size))
          generalize grow (redrawn wr dq) osq = w2 at HK2 O2 B2 ⊢
          clear r1 r2 k0 k1 k2 k3 x0 x1 x2 x3
          go_wp2_with (at_builtin; refine wpList_append_any _ rfl (.tmp 36) (.tmp 38) _ rfl w.heap.size 2 i0 _ 1 8 Tryz.underlying31 hi0 hz0 hz1 hz2 rfl (by omega) (.slice B n d) n (inC (wTo xs P k)) rfl (O2.out.alloc _) _ (some ⟨w2.heap.size, 0, none⟩) 1 1 [.int .i64 k] rfl (new_in1 _ _ _) (by simp [Value.oneCell']) (by simp only [maxLen]; omega) (by omega) (by have := B2.out.size; simp; omega) ?_; intro v4 w4 hown4 hg4 hat4; obtain ⟨B4, d4, rfl, _⟩ := own_shape hown4)
          go_roundw
          case rel => exact ⟨k + 1, n + 1, B4, d4, by omega, by omega, by have := HN.out; rw [HL1.out]; simp [Hid, this], rfl, by rw [HL1.out, inC_snoc]; exact hown4, ⟨(HK2.out.alloc _).grown hg4 (fun e => by have := HK.out.2 _ e.symm; omega), fun g hg => by
              rcases hat4 with h4 | h4
              · rw [h4] at hg; exact HK.out.2 g hg
              · rw [h4] at hg; have := HK2.out.lt; injection hg with hg; subst hg; simp; omega⟩, below_own (B2.out.alloc B2.out.size _) (O2.out.alloc _) hg4 (Nat.le_refl _) (by have := B2.out.size; simp; omega), by go_num⟩
          case measure => simp [intOf]; omega
        · have HL1 := Lib.hid (show wTo xs P (k + 1) = wTo xs P k by rw [HW1.out, HP1.out, q1, decide_eq_false hq]; rfl)
          rw [q1] at r1
          clear q1
          refine wp_region_quiet_below (by kernel_rfl) (by kernel_rfl) ?_; (repeat (first | go_big_quiet_step ((first | with_reducible exact r1 _ _ | with_reducible exact r2 _ _)))); refine wpQuiet_nil ?_; intro _ hw'; obtain ⟨⟨dq, osq⟩, rfl⟩ := hw'
          have HK2 := Lib.hid (HK.out.1.below (below_regrown wr dq osq) HK.out.1.lt)
          have O2 := Lib.hid (own_below HO.out (below_regrown wr dq osq))
          have B2 := Lib.hid (BW.out.trans ((below_regrown wr dq osq).mono BW.out.size))
          generalize grow (redrawn wr dq) osq = w2 at HK2 O2 B2 ⊢
          clear r1 r2 k0 k1 k2 k3 x0 x1 x2 x3
          go_wp2_with fail
          go_roundw
          case rel => exact ⟨k + 1, n, B, d, by omega, by omega, by rw [HL1.out]; exact HN.out, rfl, by rw [HL1.out]; exact O2.out, ⟨HK2.out, HK.out.2⟩, B2.out, by go_num⟩
          case measure => simp [intOf]; omega
    · obtain rfl : k = xs.length := by omega
      have HN' := HN.out
      go_wp2_with fail
      go_ret
      exact ⟨_, rfl, by rw [HL.out, HN']; exact HO.out, BW.out⟩
end Go.Proofs.YtihhpmhigmegjaaGreatDoor
namespace Go.Proofs.YtihhpmhigmegjaaGreatDoor
open Go.ChangeShapes Go.WideShapes Go.ChangeAt Go.RowKit Go.Sort

theorem made_a (w : World) (t : TypeId) : (w.alloc (.cells #[] t)).ownsRow w.heap.size t 1 (.slice (some ⟨w.heap.size, 0, none⟩) 0 0) 0 [] := World.ownsRow_made (e := t) (size := 1) w #[] 0 (Nat.le_refl _) (by decide) rfl
theorem made_b (w : World) (o : Obj) (t : TypeId) : ((w.alloc o).alloc (.cells #[] t)).ownsRow (w.heap.size + 1) t 1 (.slice (some ⟨w.heap.size + 1, 0, none⟩) 0 0) 0 [] := by
  have := made_a (w.alloc o) t
  simpa using this
theorem one_new (w : World) (t : TypeId) (u : Value) : Reads (w.alloc (.cells #[u] t)) (w.heap.size + 1) 1 (some ⟨w.heap.size, 0, none⟩) 1 [u] :=
  ⟨rfl, fun _ => ⟨w.heap.size, 0, rfl, by omega, fun j v hv => by
    rw [Nat.zero_add, (Blk.new w t #[u]).cell]; simpa using hv⟩⟩
theorem one_a (w : World) (t : TypeId) (u : Value) (o : Obj) : Reads ((w.alloc (.cells #[u] t)).alloc o) (w.heap.size + 1) 1 (some ⟨w.heap.size, 0, none⟩) 1 [u] := (one_new w t u).alloc (by simp) o
theorem one_b (w : World) (o : Obj) (t : TypeId) (u : Value) : Reads ((w.alloc o).alloc (.cells #[u] t)) (w.heap.size + 1 + 1) 1 (some ⟨w.heap.size + 1, 0, none⟩) 1 [u] := by
  have := one_new (w.alloc o) t u
  simpa using this
theorem one_grown {w w1 : World} {g : Nat} {u : Value} {row : Option Nat} (h : Reads w (g + 1) 1 (some ⟨g, 0, none⟩) 1 [u]) (hg : w.grownBy w1 row) (hl : g < w.heap.size) (hr : row ≠ some g) : Reads w1 (g + 1) 1 (some ⟨g, 0, none⟩) 1 [u] :=
  ⟨rfl, fun _ => ⟨g, 0, rfl, by omega, fun j x hx => by
    obtain ⟨b, off, e, _, hc⟩ := h.2 (by omega)
    cases e
    exact (World.cell?_of_block (hg.block g hl (fun e => hr e.symm))).trans (hc j x hx)⟩⟩
theorem inC_gt (S : List Int) (j : Nat) : (inC S)[j]? = S[j]?.map (Value.int .i64) := by unfold inC; rw [List.getElem?_map]
theorem inC_leng (S : List Int) : (inC S).length = S.length := by simp [inC]
/-- A part of a row. -/
theorem own_part {w : World} {base : Nat} {t : TypeId} {g n d : Nat} {S : List Int} (h : w.ownsRow base t 1 (.slice (some ⟨g, 0, none⟩) n d) n (inC S)) (hn : S.length = n) (hg : g < w.heap.size) (a b : Nat) (hab : a + b ≤ n) (T : List Int) (hT : T.length = b) (hS : ∀ j, j < b → S[a + j]? = T[j]?) : Reads w w.heap.size 1 (some ⟨g, a, none⟩) b (inC T) :=
  ⟨by rw [inC_leng, hT, Nat.mul_one], fun _ => ⟨g, a, rfl, hg, fun j u hu => by
    have hj : j < b := by
      have := (List.getElem?_eq_some_iff.1 hu).1
      rw [inC_leng, hT] at this
      exact this
    rw [h.cellAt (a + j) (by omega), inC_gt, hS j hj, ← inC_gt]
    exact hu⟩⟩
set_option maxRecDepth 100000 in
set_option maxHeartbeats 4000000 in
theorem specOrd_any (xs : List Ent) (hx : ∀ f ∈ xs, entB f = true) (A : Option Addr) (c : Nat) (w : World) (h : HasEnt w xs A) (hm : xs.length ≤ 12) :
    Calls Tryz.prog 94 #[.slice A xs.length c] w fun e w' => ∃ v, e = .returned v ∧ w'.ownsRow w.heap.size 2 1 v (ordL (ltE xs) xs.length).length (inC (ordL (ltE xs) xs.length)) ∧ Below w.heap.size w w' := by
  obtain ⟨i0, hi0, hz0, hz1, hz2⟩ := info_parts infoInt
  have H := Lib.hid h; clear h
  have HCp := Lib.hid (fun i k (hi : i < xs.length) (hk : k < xs.length) => specCmpE_any xs[i] xs[k] (hx _ (List.getElem_mem hi)) (hx _ (List.getElem_mem hk)))
  have HLl := Lib.hid (ordL_len (ltE xs) xs.length)
  obtain ⟨lt, hlt⟩ : ∃ lt, ltE xs = lt := ⟨_, rfl⟩
  have HLt := Lib.hid (show ∀ (i k : Nat) (hi : i < xs.length) (hk : k < xs.length), lt i k = decide (cmpE xs[i] xs[k] < 0) by intro i k hi hk; rw [← hlt, ltE, atE_eq hi, atE_eq hk])
  rw [HLl.out, hlt]
  clear hlt hx
  go_enter Tryz.func94, Tryz.ntmps94
  go_wp2_with fail
  go_loopw [3, 4] (fun v3 v4 wr => ∃ (k g d : Nat), k ≤ xs.length ∧ v3 = .slice (some ⟨g, 0, none⟩) k d ∧ k ≤ d ∧ g < wr.heap.size ∧ Hid (wr.ownsRow w.heap.size 2 1 (.slice (some ⟨g, 0, none⟩) k d) k (inC (ordL lt k))) ∧ Hid (Below w.heap.size w wr) ∧ v4 = .int .i64 k) (fun _ i _ => xs.length - (intOf i).toNat)
  case atStart => exact ⟨0, _, 0, by omega, rfl, by omega, by simp, made_a w _, (Below.refl _ _).alloc (Nat.le_refl _) _, rfl⟩
  case round =>
    obtain ⟨k, g, d, hk, rfl, hkd, hgl, HO, BW, rfl⟩ := hrel
    by_cases hlt : k < xs.length
    · have HSl := Lib.hid (ordL_len lt k)
      have HSi := Lib.hid (ordL_in lt k)
      have HNx := Lib.hid (ord_next lt k)
      generalize ordL lt k = S at *
      rw [HSl.out] at HNx
      go_wp2_with fail
      go_loopw [5] (fun v5 wr => ∃ j : Nat, j ≤ k ∧ g < wr.heap.size ∧ Hid (wr.ownsRow w.heap.size 2 1 (.slice (some ⟨g, 0, none⟩) k d) k (inC S)) ∧ Hid (posR lt k S j = posR lt k S k) ∧ Hid (Below w.heap.size w wr) ∧ v5 = .int .i64 j) (fun a _ => (intOf a).toNat)
      case atStart => exact ⟨k, Nat.le_refl _, hgl, HO.out, rfl, BW.out, rfl⟩
      case round =>
        clear HO BW
        obtain ⟨j, hj, hgl, HO, HPo, BW, rfl⟩ := hrel
        have hSl : S.length = k := HSl.out
        obtain ⟨ab, ao, rfl, hadb, hcell⟩ := (H.out.below BW.out).1.2 (by omega)
        obtain ⟨e0, e1, e2, e3⟩ := enC_get xs k hlt
        have c0 := cell_regrown (hcell _ _ e0)
        have c1 := cell_regrown (hcell _ _ e1)
        have c2 := cell_regrown (hcell _ _ e2)
        have c3 := cell_regrown (hcell _ _ e3)
        simp only [← Nat.add_assoc] at c1 c2 c3
        clear e0 e1 e2 e3
        cases j with
        | zero =>
          have HX := Lib.hid (show midL S k 0 = ordL lt (k + 1) by rw [← HNx.out, ← HPo.out]; rfl)
          go_upto_region 6 with (fail)
          refine wp_region_quiet_below (by kernel_rfl) (by kernel_rfl) ?_; (repeat (first | go_big_quiet_step (fail))); refine wpQuiet_nil ?_; intro _ hw'; obtain ⟨⟨dq, osq⟩, rfl⟩ := hw'
          have O2 := Lib.hid (own_below HO.out (below_regrown wr dq osq))
          have B2 := Lib.hid (BW.out.trans ((below_regrown wr dq osq).mono BW.out.size))
          have hg2 : g < (grow (redrawn wr dq) osq).heap.size := by have := (below_regrown wr dq osq).size; omega
          (try clear hcell)
          clear c0 c1 c2 c3 HO BW hgl hadb
          generalize grow (redrawn wr dq) osq = w2 at O2 B2 hg2 ⊢
          clear wr
          generalize w2 = wr at *
          have R1 := Lib.hid (own_part O2.out HSl.out hg2 0 (0) (by omega) (S.take (0)) (by rw [List.length_take]; omega) (fun i hi => by rw [Nat.zero_add, List.getElem?_take_of_lt hi]))
          have R2 := Lib.hid (own_part O2.out HSl.out hg2 (0) (k - (0)) (by omega) (S.drop (0)) (by rw [List.length_drop]; omega) (fun i hi => by rw [List.getElem?_drop]))
          have HXl := Lib.hid (show inC (S.take (0)) ++ [.int .i64 k] ++ inC (S.drop (0)) = inC (ordL lt (k + 1)) by rw [← HX.out]; unfold midL; simp [inC])
          have hs0 : (0 : Int) ≤ (0 : Int) := by omega
          have hs1 : (0 : Int) ≤ (d : Int) := by omega
          have hs2 : (0 : Int) ≤ ((k : Nat) : Int) := by omega
          have hs3 : ((k : Nat) : Int) ≤ (d : Int) := by omega
          have hs4 : (0 : Int).toNat = 0 := by omega
          go_upto_region 8 with (fail)
          go_region_held3 (fun w' => wr.heap.size ≤ w'.heap.size)
            (first | exact k0 | exact Nat.le_refl _ | (simp; done) | (simp; omega))
            (first | (refine step_append_any _ (by rfl) (.tmp 35) (.tmp 38) _ (by rfl) wr.heap.size 2 i0 _ 1 8 Tryz.underlying31 hi0 hz0 hz1 hz2 rfl (by omega) (.slice (some ⟨wr.heap.size, 0, none⟩) 0 0) 0 [] (by rfl) (World.ownsRow.drew ((made_a wr _).alloc _)) wr.heap.size (some ⟨g, 0, none⟩) (0) d (inC (S.take (0))) (by rfl) (R1.out.below ((((Below.refl wr.heap.size wr).alloc (Nat.le_refl _) (.cells #[] 2)).alloc (by simp) (.cells #[.int .i64 k] 2))).drew) (inC_one _) (by simp only [maxLen]; omega) (by omega) (by first | (simp; done) | (simp; omega)) ?_; intro v1 w1 hown1' hg1 hat1; have hown1 := (show w1.ownsRow wr.heap.size 2 1 v1 (0) (inC (S.take (0))) by simpa using hown1'); clear hown1'; obtain ⟨A1, cc1, rfl, _⟩ := own_shape hown1; have hb1 : Below wr.heap.size wr w1 := below_own ((((Below.refl wr.heap.size wr).alloc (Nat.le_refl _) (.cells #[] 2)).alloc (by simp) (.cells #[.int .i64 k] 2))).drew (World.ownsRow.drew ((made_a wr _).alloc _)) hg1 (Nat.le_refl _) (by first | (simp; done) | (simp; omega)); have k0 := hb1.size; have rc1 : Reads w1 ((wr.heap.size + 1) + 1) 1 (some ⟨(wr.heap.size + 1), 0, none⟩) 1 [.int .i64 k] := one_grown (Reads.drew (one_b wr (.cells #[] 2) 2 (.int .i64 k))) hg1 (by first | (simp; done) | (simp; omega)) (by simp [Value.ownBlock])) | (refine step_append_any _ (by rfl) (.tmp 35) (.tmp 38) _ (by rfl) wr.heap.size 2 i0 _ 1 8 Tryz.underlying31 hi0 hz0 hz1 hz2 rfl (by omega) (.slice (some ⟨wr.heap.size + 1, 0, none⟩) 0 0) 0 [] (by rfl) (World.ownsRow.drew (own_mono (made_b wr (.cells #[.int .i64 k] 2) _) (by simp))) wr.heap.size (some ⟨g, 0, none⟩) (0) d (inC (S.take (0))) (by rfl) (R1.out.below ((((Below.refl wr.heap.size wr).alloc (Nat.le_refl _) (.cells #[.int .i64 k] 2)).alloc (by simp) (.cells #[] 2))).drew) (inC_one _) (by simp only [maxLen]; omega) (by omega) (by first | (simp; done) | (simp; omega)) ?_; intro v1 w1 hown1' hg1 hat1; have hown1 := (show w1.ownsRow wr.heap.size 2 1 v1 (0) (inC (S.take (0))) by simpa using hown1'); clear hown1'; obtain ⟨A1, cc1, rfl, _⟩ := own_shape hown1; have hb2 : Below wr.heap.size wr w1 := below_own ((((Below.refl wr.heap.size wr).alloc (Nat.le_refl _) (.cells #[.int .i64 k] 2)).alloc (by simp) (.cells #[] 2))).drew (World.ownsRow.drew (own_mono (made_b wr (.cells #[.int .i64 k] 2) _) (by simp))) hg1 (Nat.le_refl _) (by first | (simp; done) | (simp; omega)); have k0 := hb2.size; have rc2 : Reads w1 (wr.heap.size + 1) 1 (some ⟨wr.heap.size, 0, none⟩) 1 [.int .i64 k] := one_grown (Reads.drew (one_a wr 2 (.int .i64 k) (.cells #[] 2))) hg1 (by first | (simp; done) | (simp; omega)) (by simp [Value.ownBlock])) | (refine step_append_any _ (by rfl) (.tmp 35) (.tmp 38) _ (by rfl) wr.heap.size 2 i0 _ 1 8 Tryz.underlying31 hi0 hz0 hz1 hz2 rfl (by omega) (.slice (some ⟨wr.heap.size, 0, none⟩) 0 0) 0 [] (by rfl) (World.ownsRow.drew (made_a wr _)) wr.heap.size (some ⟨g, 0, none⟩) (0) d (inC (S.take (0))) (by rfl) (R1.out.below (((Below.refl wr.heap.size wr).alloc (Nat.le_refl _) (.cells #[] 2))).drew) (inC_one _) (by simp only [maxLen]; omega) (by omega) (by first | (simp; done) | (simp; omega)) ?_; intro v1 w1 hown1' hg1 hat1; have hown1 := (show w1.ownsRow wr.heap.size 2 1 v1 (0) (inC (S.take (0))) by simpa using hown1'); clear hown1'; obtain ⟨A1, cc1, rfl, _⟩ := own_shape hown1; have hb0 : Below wr.heap.size wr w1 := below_own (((Below.refl wr.heap.size wr).alloc (Nat.le_refl _) (.cells #[] 2))).drew (World.ownsRow.drew (made_a wr _)) hg1 (Nat.le_refl _) (by first | (simp; done) | (simp; omega)); have k0 := hb0.size) | (refine step_append_any _ (by rfl) (.tmp 39) (.tmp 41) _ (by rfl) wr.heap.size 2 i0 _ 1 8 Tryz.underlying31 hi0 hz0 hz1 hz2 rfl (by omega) (.slice A1 (0) cc1) (0) (inC (S.take (0))) (by rfl) (hown1.alloc _) _ (some ⟨w1.heap.size, 0, none⟩) 1 1 [.int .i64 k] (by rfl) (new_in1 w1 _ _) (by simp [Value.oneCell']) (by simp only [maxLen]; omega) (by omega) (by have := hb0.size; simp; omega) ?_; intro v2 w2 hown2 hg2 hat2; have hb : Below wr.heap.size wr w2 := below_own (hb0.alloc hb0.size _) (hown1.alloc _) hg2 (Nat.le_refl _) (by have := hb0.size; simp; omega); obtain ⟨A2, cc2, rfl, _⟩ := own_shape hown2; have k0 := hb.size) | (refine step_append_any _ (by rfl) (.tmp 39) (.tmp 41) _ (by rfl) wr.heap.size 2 i0 _ 1 8 Tryz.underlying31 hi0 hz0 hz1 hz2 rfl (by omega) (.slice A1 (0) cc1) (0) (inC (S.take (0))) (by rfl) hown1 _ (some ⟨(wr.heap.size + 1), 0, none⟩) 1 1 [.int .i64 k] (by rfl) rc1 (by simp [Value.oneCell']) (by simp only [maxLen]; omega) (by omega) hb1.size ?_; intro v2 w2 hown2 hg2 hat2; have hb : Below wr.heap.size wr w2 := below_own hb1 hown1 hg2 (Nat.le_refl _) hb1.size; obtain ⟨A2, cc2, rfl, _⟩ := own_shape hown2; have k0 := hb.size) | (refine step_append_any _ (by rfl) (.tmp 39) (.tmp 41) _ (by rfl) wr.heap.size 2 i0 _ 1 8 Tryz.underlying31 hi0 hz0 hz1 hz2 rfl (by omega) (.slice A1 (0) cc1) (0) (inC (S.take (0))) (by rfl) hown1 _ (some ⟨wr.heap.size, 0, none⟩) 1 1 [.int .i64 k] (by rfl) rc2 (by simp [Value.oneCell']) (by simp only [maxLen]; omega) (by omega) hb2.size ?_; intro v2 w2 hown2 hg2 hat2; have hb : Below wr.heap.size wr w2 := below_own hb2 hown1 hg2 (Nat.le_refl _) hb2.size; obtain ⟨A2, cc2, rfl, _⟩ := own_shape hown2; have k0 := hb.size) | (refine step_append_any _ (by rfl) (.tmp 42) (.tmp 45) _ (by rfl) wr.heap.size 2 i0 _ 1 8 Tryz.underlying31 hi0 hz0 hz1 hz2 rfl (by omega) (.slice A2 ((0) + 1) cc2) ((0) + 1) (inC (S.take (0)) ++ [.int .i64 k]) (by rfl) hown2 wr.heap.size (some ⟨g, (0), none⟩) (k - (0)) (d - (0)) (inC (S.drop (0))) (by rfl) (R2.out.below hb) (inC_one _) (by simp only [maxLen]; omega) (by omega) hb.size ?_; intro v3 w3 hown3 hg3 hat3; have hb3 : Below wr.heap.size wr w3 := below_own hb hown2 hg3 (Nat.le_refl _) hb.size; obtain ⟨A3, cc3, rfl, _⟩ := own_shape hown3; have k0 := hb3.size) | fail)
          all_goals
            have hown4 : w3.ownsRow wr.heap.size 2 1 (.slice A3 (k + 1) cc3) (k + 1) (inC (ordL lt (k + 1))) := by
              have hh := hown3
              rw [HXl.out] at hh
              rw [show 0 + 1 + (k - (0)) = k + 1 by omega] at hh
              exact hh
            clear hown3
            obtain ⟨g3, d3, hv, hbg3, hgl3⟩ := hown4.form (by omega)
            simp only [Value.slice.injEq, true_and] at hv
            obtain ⟨rfl, rfl⟩ := hv
            have hc3 := Lib.hid (own_shape hown4)
            have O3 := Lib.hid (own_mono hown4 B2.out.size); have B3 := Lib.hid (B2.out.trans (hb3.mono B2.out.size))
            clear hown4 hb3 hs0 hs1 hs2 hs3 hs4
            go_wp2_with fail
            go_roundw
            case rel => exact ⟨k + 1, g3, cc3, by omega, (by first | rfl | (congr 1; omega)), by obtain ⟨_, _, e, h⟩ := hc3.out; simp only [Value.slice.injEq, true_and] at e; omega, hgl3, O3.out, B3.out, by go_num⟩
            case measure => simp [intOf]; omega
        | succ jp =>
          have hjS : jp < S.length := by omega
          have hgo := posR_go (lt := lt) (x := (k : Int)) hjS
          have hstop := posR_stop (lt := lt) (x := (k : Int)) hjS
          obtain ⟨hv0, hv1⟩ := HSi.out S[jp] (List.getElem_mem hjS)
          obtain ⟨v, hv⟩ : ∃ v : Nat, S[jp] = (v : Int) := ⟨S[jp].toNat, by omega⟩
          rw [hv] at hgo hstop hv1
          have hvn : v < xs.length := by omega
          have cb := HO.out.cellAt jp (by omega)
          have hcb : (inC S)[jp]? = some (.int .i64 v) := by rw [inC_gt, List.getElem?_eq_getElem hjS, hv]; rfl
          rw [hcb] at cb
          have lb := cell_regrown cb
          obtain ⟨e0, e1, e2, e3⟩ := enC_get xs v hvn
          have d0 := cell_regrown (hcell _ _ e0)
          have d1 := cell_regrown (hcell _ _ e1)
          have d2 := cell_regrown (hcell _ _ e2)
          have d3 := cell_regrown (hcell _ _ e3)
          simp only [← Nat.add_assoc] at d1 d2 d3
          have HL1 := HLt.out k v hlt hvn
          have HC1 := Lib.hid (HCp.out k v hlt hvn)
          generalize xs[k] = a at c0 c1 c2 c3 HL1 HC1
          generalize xs[v] = b at d0 d1 d2 d3 HL1 HC1
          unfold Ent.val at HC1
          generalize cmpE a b = q at HL1 HC1
          have r1 : ∀ d os, Calls Tryz.prog 96 #[.agg #[.string a.text, .int .i64 a.x, .int .i64 a.y, .int .i64 a.since], .agg #[.string b.text, .int .i64 b.x, .int .i64 b.y, .int .i64 b.since]] (grow (redrawn wr d) os) (fun e w'' => e = .returned (.int .i64 q) ∧ ∃ p : Regrown, w'' = grow (redrawn wr p.d) p.os) := fun d os => Calls.regrown_of (HC1.out _)
          have hw1 : IntKind.i64.wrap (jp : Int) = (jp : Int) := IntWalk.i64_in _ (by omega)
          have HGo := Lib.hid hgo; have HStop := Lib.hid hstop
          clear hcell e0 e1 e2 e3 hgo hstop cb hcb hv hv0 hv1 HC1
          by_cases hq : q < 0
          · rw [decide_eq_true hq] at HL1
            have HPo2 := Lib.hid ((HGo.out HL1).symm.trans HPo.out)
            clear HL1 HPo
            go_upto_region 6 with (fail)
            refine wp_region_quiet_below (by kernel_rfl) (by kernel_rfl) ?_; (repeat (first | go_big_quiet_step ((first | with_reducible exact r1 _ _)))); refine wpQuiet_nil ?_; intro _ hw'; obtain ⟨⟨dq, osq⟩, rfl⟩ := hw'
            have O2 := Lib.hid (own_below HO.out (below_regrown wr dq osq))
            have B2 := Lib.hid (BW.out.trans ((below_regrown wr dq osq).mono BW.out.size))
            have G2 := (below_regrown wr dq osq).size
            clear r1 lb c0 c1 c2 c3 d0 d1 d2 d3
            generalize grow (redrawn wr dq) osq = w2 at O2 B2 G2 ⊢
            go_wp2_with fail
            go_roundw
            case rel => exact ⟨jp, by omega, by omega, O2.out, HPo2.out, B2.out, by go_num⟩
            case measure => simp [intOf]
          · rw [decide_eq_false hq] at HL1
            have HX := Lib.hid (show midL S k (jp + 1) = ordL lt (k + 1) by rw [← HNx.out, ← HPo.out, HStop.out HL1])
            clear HL1
            go_upto_region 6 with (fail)
            refine wp_region_quiet_below (by kernel_rfl) (by kernel_rfl) ?_; (repeat (first | go_big_quiet_step ((first | with_reducible exact r1 _ _)))); refine wpQuiet_nil ?_; intro _ hw'; obtain ⟨⟨dq, osq⟩, rfl⟩ := hw'
            clear r1 lb d0 d1 d2 d3
            by_cases hd : d = jp + 1
            · obtain rfl : k = jp + 1 := by omega
              subst hd
              have O2 := Lib.hid (own_below HO.out (below_regrown wr dq osq))
              have B2 := Lib.hid (BW.out.trans ((below_regrown wr dq osq).mono BW.out.size))
              have hg2 : g < (grow (redrawn wr dq) osq).heap.size := by have := (below_regrown wr dq osq).size; omega
              (try clear hcell)
              clear c0 c1 c2 c3 HO BW hgl hadb
              generalize grow (redrawn wr dq) osq = w2 at O2 B2 hg2 ⊢
              clear wr
              generalize w2 = wr at *
              have R1 := Lib.hid (own_part O2.out HSl.out hg2 0 (jp + 1) (by omega) (S.take (jp + 1)) (by rw [List.length_take]; omega) (fun i hi => by rw [Nat.zero_add, List.getElem?_take_of_lt hi]))
              have hdr : S.drop (jp + 1) = [] := List.drop_eq_nil_of_le (by have := HSl.out; omega)
              have HXl := Lib.hid (show inC (S.take (jp + 1)) ++ [.int .i64 (((jp + 1) : Nat) : Int)] ++ [] = inC (ordL lt ((jp + 1) + 1)) by rw [← HX.out]; unfold midL; rw [hdr]; simp [inC])
              have hs0 : (0 : Int) ≤ ((jp : Int) + 1 : Int) := by omega
              have hs1 : ((jp : Int) + 1 : Int) ≤ ((jp + 1 : Nat) : Int) := by omega
              have hs2 : ((jp : Int) + 1 : Int) ≤ (((jp + 1) : Nat) : Int) := by omega
              have hs3 : (((jp + 1) : Nat) : Int) ≤ ((jp + 1 : Nat) : Int) := by omega
              have hs4 : ((jp : Int) + 1 : Int).toNat = jp + 1 := by omega
              go_upto_region 8 with (fail)
              go_region_held3 (fun w' => wr.heap.size ≤ w'.heap.size)
                (first | exact k0 | exact Nat.le_refl _ | (simp; done) | (simp; omega))
                (first | (refine step_append_any _ (by rfl) (.tmp 35) (.tmp 38) _ (by rfl) wr.heap.size 2 i0 _ 1 8 Tryz.underlying31 hi0 hz0 hz1 hz2 rfl (by omega) (.slice (some ⟨wr.heap.size, 0, none⟩) 0 0) 0 [] (by rfl) (World.ownsRow.drew ((made_a wr _).alloc _)) wr.heap.size (some ⟨g, 0, none⟩) (jp + 1) (jp + 1) (inC (S.take (jp + 1))) (by rfl) (R1.out.below ((((Below.refl wr.heap.size wr).alloc (Nat.le_refl _) (.cells #[] 2)).alloc (by simp) (.cells #[.int .i64 ((jp + 1 : Nat) : Int)] 2))).drew) (inC_one _) (by simp only [maxLen]; omega) (by omega) (by first | (simp; done) | (simp; omega)) ?_; intro v1 w1 hown1' hg1 hat1; have hown1 := (show w1.ownsRow wr.heap.size 2 1 v1 (jp + 1) (inC (S.take (jp + 1))) by simpa using hown1'); clear hown1'; obtain ⟨A1, cc1, rfl, _⟩ := own_shape hown1; have hb1 : Below wr.heap.size wr w1 := below_own ((((Below.refl wr.heap.size wr).alloc (Nat.le_refl _) (.cells #[] 2)).alloc (by simp) (.cells #[.int .i64 ((jp + 1 : Nat) : Int)] 2))).drew (World.ownsRow.drew ((made_a wr _).alloc _)) hg1 (Nat.le_refl _) (by first | (simp; done) | (simp; omega)); have k0 := hb1.size; have rc1 : Reads w1 ((wr.heap.size + 1) + 1) 1 (some ⟨(wr.heap.size + 1), 0, none⟩) 1 [.int .i64 ((jp + 1 : Nat) : Int)] := one_grown (Reads.drew (one_b wr (.cells #[] 2) 2 (.int .i64 ((jp + 1 : Nat) : Int)))) hg1 (by first | (simp; done) | (simp; omega)) (by simp [Value.ownBlock])) | (refine step_append_any _ (by rfl) (.tmp 35) (.tmp 38) _ (by rfl) wr.heap.size 2 i0 _ 1 8 Tryz.underlying31 hi0 hz0 hz1 hz2 rfl (by omega) (.slice (some ⟨wr.heap.size + 1, 0, none⟩) 0 0) 0 [] (by rfl) (World.ownsRow.drew (own_mono (made_b wr (.cells #[.int .i64 ((jp + 1 : Nat) : Int)] 2) _) (by simp))) wr.heap.size (some ⟨g, 0, none⟩) (jp + 1) (jp + 1) (inC (S.take (jp + 1))) (by rfl) (R1.out.below ((((Below.refl wr.heap.size wr).alloc (Nat.le_refl _) (.cells #[.int .i64 ((jp + 1 : Nat) : Int)] 2)).alloc (by simp) (.cells #[] 2))).drew) (inC_one _) (by simp only [maxLen]; omega) (by omega) (by first | (simp; done) | (simp; omega)) ?_; intro v1 w1 hown1' hg1 hat1; have hown1 := (show w1.ownsRow wr.heap.size 2 1 v1 (jp + 1) (inC (S.take (jp + 1))) by simpa using hown1'); clear hown1'; obtain ⟨A1, cc1, rfl, _⟩ := own_shape hown1; have hb2 : Below wr.heap.size wr w1 := below_own ((((Below.refl wr.heap.size wr).alloc (Nat.le_refl _) (.cells #[.int .i64 ((jp + 1 : Nat) : Int)] 2)).alloc (by simp) (.cells #[] 2))).drew (World.ownsRow.drew (own_mono (made_b wr (.cells #[.int .i64 ((jp + 1 : Nat) : Int)] 2) _) (by simp))) hg1 (Nat.le_refl _) (by first | (simp; done) | (simp; omega)); have k0 := hb2.size; have rc2 : Reads w1 (wr.heap.size + 1) 1 (some ⟨wr.heap.size, 0, none⟩) 1 [.int .i64 ((jp + 1 : Nat) : Int)] := one_grown (Reads.drew (one_a wr 2 (.int .i64 ((jp + 1 : Nat) : Int)) (.cells #[] 2))) hg1 (by first | (simp; done) | (simp; omega)) (by simp [Value.ownBlock])) | (refine step_append_any _ (by rfl) (.tmp 35) (.tmp 38) _ (by rfl) wr.heap.size 2 i0 _ 1 8 Tryz.underlying31 hi0 hz0 hz1 hz2 rfl (by omega) (.slice (some ⟨wr.heap.size, 0, none⟩) 0 0) 0 [] (by rfl) (World.ownsRow.drew (made_a wr _)) wr.heap.size (some ⟨g, 0, none⟩) (jp + 1) (jp + 1) (inC (S.take (jp + 1))) (by rfl) (R1.out.below (((Below.refl wr.heap.size wr).alloc (Nat.le_refl _) (.cells #[] 2))).drew) (inC_one _) (by simp only [maxLen]; omega) (by omega) (by first | (simp; done) | (simp; omega)) ?_; intro v1 w1 hown1' hg1 hat1; have hown1 := (show w1.ownsRow wr.heap.size 2 1 v1 (jp + 1) (inC (S.take (jp + 1))) by simpa using hown1'); clear hown1'; obtain ⟨A1, cc1, rfl, _⟩ := own_shape hown1; have hb0 : Below wr.heap.size wr w1 := below_own (((Below.refl wr.heap.size wr).alloc (Nat.le_refl _) (.cells #[] 2))).drew (World.ownsRow.drew (made_a wr _)) hg1 (Nat.le_refl _) (by first | (simp; done) | (simp; omega)); have k0 := hb0.size) | (refine step_append_any _ (by rfl) (.tmp 39) (.tmp 41) _ (by rfl) wr.heap.size 2 i0 _ 1 8 Tryz.underlying31 hi0 hz0 hz1 hz2 rfl (by omega) (.slice A1 (jp + 1) cc1) (jp + 1) (inC (S.take (jp + 1))) (by rfl) (hown1.alloc _) _ (some ⟨w1.heap.size, 0, none⟩) 1 1 [.int .i64 ((jp + 1 : Nat) : Int)] (by rfl) (new_in1 w1 _ _) (by simp [Value.oneCell']) (by simp only [maxLen]; omega) (by omega) (by have := hb0.size; simp; omega) ?_; intro v2 w2 hown2 hg2 hat2; have hb : Below wr.heap.size wr w2 := below_own (hb0.alloc hb0.size _) (hown1.alloc _) hg2 (Nat.le_refl _) (by have := hb0.size; simp; omega); obtain ⟨A2, cc2, rfl, _⟩ := own_shape hown2; have k0 := hb.size) | (refine step_append_any _ (by rfl) (.tmp 39) (.tmp 41) _ (by rfl) wr.heap.size 2 i0 _ 1 8 Tryz.underlying31 hi0 hz0 hz1 hz2 rfl (by omega) (.slice A1 (jp + 1) cc1) (jp + 1) (inC (S.take (jp + 1))) (by rfl) hown1 _ (some ⟨(wr.heap.size + 1), 0, none⟩) 1 1 [.int .i64 ((jp + 1 : Nat) : Int)] (by rfl) rc1 (by simp [Value.oneCell']) (by simp only [maxLen]; omega) (by omega) hb1.size ?_; intro v2 w2 hown2 hg2 hat2; have hb : Below wr.heap.size wr w2 := below_own hb1 hown1 hg2 (Nat.le_refl _) hb1.size; obtain ⟨A2, cc2, rfl, _⟩ := own_shape hown2; have k0 := hb.size) | (refine step_append_any _ (by rfl) (.tmp 39) (.tmp 41) _ (by rfl) wr.heap.size 2 i0 _ 1 8 Tryz.underlying31 hi0 hz0 hz1 hz2 rfl (by omega) (.slice A1 (jp + 1) cc1) (jp + 1) (inC (S.take (jp + 1))) (by rfl) hown1 _ (some ⟨wr.heap.size, 0, none⟩) 1 1 [.int .i64 ((jp + 1 : Nat) : Int)] (by rfl) rc2 (by simp [Value.oneCell']) (by simp only [maxLen]; omega) (by omega) hb2.size ?_; intro v2 w2 hown2 hg2 hat2; have hb : Below wr.heap.size wr w2 := below_own hb2 hown1 hg2 (Nat.le_refl _) hb2.size; obtain ⟨A2, cc2, rfl, _⟩ := own_shape hown2; have k0 := hb.size) | (refine step_append_any _ (by rfl) (.tmp 42) (.tmp 45) _ (by rfl) wr.heap.size 2 i0 _ 1 8 Tryz.underlying31 hi0 hz0 hz1 hz2 rfl (by omega) (.slice A2 ((jp + 1) + 1) cc2) ((jp + 1) + 1) (inC (S.take (jp + 1)) ++ [.int .i64 ((jp + 1 : Nat) : Int)]) (by rfl) hown2 wr.heap.size (some ⟨g, 0, none⟩) 0 0 [] (by rfl) (Reads.nil_ (B := wr.heap.size)) (by simp) (by simp only [maxLen]; omega) (by omega) hb.size ?_; intro v3 w3 hown3 hg3 hat3; have hb3 : Below wr.heap.size wr w3 := below_own hb hown2 hg3 (Nat.le_refl _) hb.size; obtain ⟨A3, cc3, rfl, _⟩ := own_shape hown3; have k0 := hb3.size) | fail)
              all_goals
                have hown4 : w3.ownsRow wr.heap.size 2 1 (.slice A3 ((jp + 1) + 1) cc3) ((jp + 1) + 1) (inC (ordL lt ((jp + 1) + 1))) := by
                  have hh := hown3
                  rw [HXl.out] at hh
                  rw [show jp + 1 + 1 + 0 = (jp + 1) + 1 by omega] at hh
                  exact hh
                clear hown3
                obtain ⟨g3, d3, hv, hbg3, hgl3⟩ := hown4.form (by omega)
                simp only [Value.slice.injEq, true_and] at hv
                obtain ⟨rfl, rfl⟩ := hv
                have hc3 := Lib.hid (own_shape hown4)
                have O3 := Lib.hid (own_mono hown4 B2.out.size); have B3 := Lib.hid (B2.out.trans (hb3.mono B2.out.size))
                clear hown4 hb3 hs0 hs1 hs2 hs3 hs4
                go_wp2_with fail
                go_roundw
                case rel => exact ⟨(jp + 1) + 1, g3, cc3, by omega, (by first | rfl | (congr 1; omega)), by obtain ⟨_, _, e, h⟩ := hc3.out; simp only [Value.slice.injEq, true_and] at e; omega, hgl3, O3.out, B3.out, by go_num⟩
                case measure => simp [intOf]; omega
            · have O2 := Lib.hid (own_below HO.out (below_regrown wr dq osq))
              have B2 := Lib.hid (BW.out.trans ((below_regrown wr dq osq).mono BW.out.size))
              have hg2 : g < (grow (redrawn wr dq) osq).heap.size := by have := (below_regrown wr dq osq).size; omega
              (try clear hcell)
              clear c0 c1 c2 c3 HO BW hgl hadb
              generalize grow (redrawn wr dq) osq = w2 at O2 B2 hg2 ⊢
              clear wr
              generalize w2 = wr at *
              have R1 := Lib.hid (own_part O2.out HSl.out hg2 0 (jp + 1) (by omega) (S.take (jp + 1)) (by rw [List.length_take]; omega) (fun i hi => by rw [Nat.zero_add, List.getElem?_take_of_lt hi]))
              have R2 := Lib.hid (own_part O2.out HSl.out hg2 (jp + 1) (k - (jp + 1)) (by omega) (S.drop (jp + 1)) (by rw [List.length_drop]; omega) (fun i hi => by rw [List.getElem?_drop]))
              have HXl := Lib.hid (show inC (S.take (jp + 1)) ++ [.int .i64 k] ++ inC (S.drop (jp + 1)) = inC (ordL lt (k + 1)) by rw [← HX.out]; unfold midL; simp [inC])
              have hs0 : (0 : Int) ≤ ((jp : Int) + 1 : Int) := by omega
              have hs1 : ((jp : Int) + 1 : Int) ≤ (d : Int) := by omega
              have hs2 : ((jp : Int) + 1 : Int) ≤ ((k : Nat) : Int) := by omega
              have hs3 : ((k : Nat) : Int) ≤ (d : Int) := by omega
              have hs4 : ((jp : Int) + 1 : Int).toNat = jp + 1 := by omega
              go_upto_region 8 with (fail)
              go_region_held3 (fun w' => wr.heap.size ≤ w'.heap.size)
                (first | exact k0 | exact Nat.le_refl _ | (simp; done) | (simp; omega))
                (first | (refine step_append_any _ (by rfl) (.tmp 35) (.tmp 38) _ (by rfl) wr.heap.size 2 i0 _ 1 8 Tryz.underlying31 hi0 hz0 hz1 hz2 rfl (by omega) (.slice (some ⟨wr.heap.size, 0, none⟩) 0 0) 0 [] (by rfl) (World.ownsRow.drew ((made_a wr _).alloc _)) wr.heap.size (some ⟨g, 0, none⟩) (jp + 1) d (inC (S.take (jp + 1))) (by rfl) (R1.out.below ((((Below.refl wr.heap.size wr).alloc (Nat.le_refl _) (.cells #[] 2)).alloc (by simp) (.cells #[.int .i64 k] 2))).drew) (inC_one _) (by simp only [maxLen]; omega) (by omega) (by first | (simp; done) | (simp; omega)) ?_; intro v1 w1 hown1' hg1 hat1; have hown1 := (show w1.ownsRow wr.heap.size 2 1 v1 (jp + 1) (inC (S.take (jp + 1))) by simpa using hown1'); clear hown1'; obtain ⟨A1, cc1, rfl, _⟩ := own_shape hown1; have hb1 : Below wr.heap.size wr w1 := below_own ((((Below.refl wr.heap.size wr).alloc (Nat.le_refl _) (.cells #[] 2)).alloc (by simp) (.cells #[.int .i64 k] 2))).drew (World.ownsRow.drew ((made_a wr _).alloc _)) hg1 (Nat.le_refl _) (by first | (simp; done) | (simp; omega)); have k0 := hb1.size; have rc1 : Reads w1 ((wr.heap.size + 1) + 1) 1 (some ⟨(wr.heap.size + 1), 0, none⟩) 1 [.int .i64 k] := one_grown (Reads.drew (one_b wr (.cells #[] 2) 2 (.int .i64 k))) hg1 (by first | (simp; done) | (simp; omega)) (by simp [Value.ownBlock])) | (refine step_append_any _ (by rfl) (.tmp 35) (.tmp 38) _ (by rfl) wr.heap.size 2 i0 _ 1 8 Tryz.underlying31 hi0 hz0 hz1 hz2 rfl (by omega) (.slice (some ⟨wr.heap.size + 1, 0, none⟩) 0 0) 0 [] (by rfl) (World.ownsRow.drew (own_mono (made_b wr (.cells #[.int .i64 k] 2) _) (by simp))) wr.heap.size (some ⟨g, 0, none⟩) (jp + 1) d (inC (S.take (jp + 1))) (by rfl) (R1.out.below ((((Below.refl wr.heap.size wr).alloc (Nat.le_refl _) (.cells #[.int .i64 k] 2)).alloc (by simp) (.cells #[] 2))).drew) (inC_one _) (by simp only [maxLen]; omega) (by omega) (by first | (simp; done) | (simp; omega)) ?_; intro v1 w1 hown1' hg1 hat1; have hown1 := (show w1.ownsRow wr.heap.size 2 1 v1 (jp + 1) (inC (S.take (jp + 1))) by simpa using hown1'); clear hown1'; obtain ⟨A1, cc1, rfl, _⟩ := own_shape hown1; have hb2 : Below wr.heap.size wr w1 := below_own ((((Below.refl wr.heap.size wr).alloc (Nat.le_refl _) (.cells #[.int .i64 k] 2)).alloc (by simp) (.cells #[] 2))).drew (World.ownsRow.drew (own_mono (made_b wr (.cells #[.int .i64 k] 2) _) (by simp))) hg1 (Nat.le_refl _) (by first | (simp; done) | (simp; omega)); have k0 := hb2.size; have rc2 : Reads w1 (wr.heap.size + 1) 1 (some ⟨wr.heap.size, 0, none⟩) 1 [.int .i64 k] := one_grown (Reads.drew (one_a wr 2 (.int .i64 k) (.cells #[] 2))) hg1 (by first | (simp; done) | (simp; omega)) (by simp [Value.ownBlock])) | (refine step_append_any _ (by rfl) (.tmp 35) (.tmp 38) _ (by rfl) wr.heap.size 2 i0 _ 1 8 Tryz.underlying31 hi0 hz0 hz1 hz2 rfl (by omega) (.slice (some ⟨wr.heap.size, 0, none⟩) 0 0) 0 [] (by rfl) (World.ownsRow.drew (made_a wr _)) wr.heap.size (some ⟨g, 0, none⟩) (jp + 1) d (inC (S.take (jp + 1))) (by rfl) (R1.out.below (((Below.refl wr.heap.size wr).alloc (Nat.le_refl _) (.cells #[] 2))).drew) (inC_one _) (by simp only [maxLen]; omega) (by omega) (by first | (simp; done) | (simp; omega)) ?_; intro v1 w1 hown1' hg1 hat1; have hown1 := (show w1.ownsRow wr.heap.size 2 1 v1 (jp + 1) (inC (S.take (jp + 1))) by simpa using hown1'); clear hown1'; obtain ⟨A1, cc1, rfl, _⟩ := own_shape hown1; have hb0 : Below wr.heap.size wr w1 := below_own (((Below.refl wr.heap.size wr).alloc (Nat.le_refl _) (.cells #[] 2))).drew (World.ownsRow.drew (made_a wr _)) hg1 (Nat.le_refl _) (by first | (simp; done) | (simp; omega)); have k0 := hb0.size) | (refine step_append_any _ (by rfl) (.tmp 39) (.tmp 41) _ (by rfl) wr.heap.size 2 i0 _ 1 8 Tryz.underlying31 hi0 hz0 hz1 hz2 rfl (by omega) (.slice A1 (jp + 1) cc1) (jp + 1) (inC (S.take (jp + 1))) (by rfl) (hown1.alloc _) _ (some ⟨w1.heap.size, 0, none⟩) 1 1 [.int .i64 k] (by rfl) (new_in1 w1 _ _) (by simp [Value.oneCell']) (by simp only [maxLen]; omega) (by omega) (by have := hb0.size; simp; omega) ?_; intro v2 w2 hown2 hg2 hat2; have hb : Below wr.heap.size wr w2 := below_own (hb0.alloc hb0.size _) (hown1.alloc _) hg2 (Nat.le_refl _) (by have := hb0.size; simp; omega); obtain ⟨A2, cc2, rfl, _⟩ := own_shape hown2; have k0 := hb.size) | (refine step_append_any _ (by rfl) (.tmp 39) (.tmp 41) _ (by rfl) wr.heap.size 2 i0 _ 1 8 Tryz.underlying31 hi0 hz0 hz1 hz2 rfl (by omega) (.slice A1 (jp + 1) cc1) (jp + 1) (inC (S.take (jp + 1))) (by rfl) hown1 _ (some ⟨(wr.heap.size + 1), 0, none⟩) 1 1 [.int .i64 k] (by rfl) rc1 (by simp [Value.oneCell']) (by simp only [maxLen]; omega) (by omega) hb1.size ?_; intro v2 w2 hown2 hg2 hat2; have hb : Below wr.heap.size wr w2 := below_own hb1 hown1 hg2 (Nat.le_refl _) hb1.size; obtain ⟨A2, cc2, rfl, _⟩ := own_shape hown2; have k0 := hb.size) | (refine step_append_any _ (by rfl) (.tmp 39) (.tmp 41) _ (by rfl) wr.heap.size 2 i0 _ 1 8 Tryz.underlying31 hi0 hz0 hz1 hz2 rfl (by omega) (.slice A1 (jp + 1) cc1) (jp + 1) (inC (S.take (jp + 1))) (by rfl) hown1 _ (some ⟨wr.heap.size, 0, none⟩) 1 1 [.int .i64 k] (by rfl) rc2 (by simp [Value.oneCell']) (by simp only [maxLen]; omega) (by omega) hb2.size ?_; intro v2 w2 hown2 hg2 hat2; have hb : Below wr.heap.size wr w2 := below_own hb2 hown1 hg2 (Nat.le_refl _) hb2.size; obtain ⟨A2, cc2, rfl, _⟩ := own_shape hown2; have k0 := hb.size) | (refine step_append_any _ (by rfl) (.tmp 42) (.tmp 45) _ (by rfl) wr.heap.size 2 i0 _ 1 8 Tryz.underlying31 hi0 hz0 hz1 hz2 rfl (by omega) (.slice A2 ((jp + 1) + 1) cc2) ((jp + 1) + 1) (inC (S.take (jp + 1)) ++ [.int .i64 k]) (by rfl) hown2 wr.heap.size (some ⟨g, (jp + 1), none⟩) (k - (jp + 1)) (d - (jp + 1)) (inC (S.drop (jp + 1))) (by rfl) (R2.out.below hb) (inC_one _) (by simp only [maxLen]; omega) (by omega) hb.size ?_; intro v3 w3 hown3 hg3 hat3; have hb3 : Below wr.heap.size wr w3 := below_own hb hown2 hg3 (Nat.le_refl _) hb.size; obtain ⟨A3, cc3, rfl, _⟩ := own_shape hown3; have k0 := hb3.size) | fail)
              all_goals
                have hown4 : w3.ownsRow wr.heap.size 2 1 (.slice A3 (k + 1) cc3) (k + 1) (inC (ordL lt (k + 1))) := by
                  have hh := hown3
                  rw [HXl.out] at hh
                  rw [show jp + 1 + 1 + (k - (jp + 1)) = k + 1 by omega] at hh
                  exact hh
                clear hown3
                obtain ⟨g3, d3, hv, hbg3, hgl3⟩ := hown4.form (by omega)
                simp only [Value.slice.injEq, true_and] at hv
                obtain ⟨rfl, rfl⟩ := hv
                have hc3 := Lib.hid (own_shape hown4)
                have O3 := Lib.hid (own_mono hown4 B2.out.size); have B3 := Lib.hid (B2.out.trans (hb3.mono B2.out.size))
                clear hown4 hb3 hs0 hs1 hs2 hs3 hs4
                go_wp2_with fail
                go_roundw
                case rel => exact ⟨k + 1, g3, cc3, by omega, (by first | rfl | (congr 1; omega)), by obtain ⟨_, _, e, h⟩ := hc3.out; simp only [Value.slice.injEq, true_and] at e; omega, hgl3, O3.out, B3.out, by go_num⟩
                case measure => simp [intOf]; omega
    · obtain rfl : k = xs.length := by omega
      go_wp2_with fail
      go_ret
      exact ⟨_, rfl, HO.out, BW.out⟩
end Go.Proofs.YtihhpmhigmegjaaGreatDoor
namespace Go.Proofs.YtihhpmhigmegjaaGreatDoor
open Go.ChangeShapes Go.WideShapes Go.ChangeAt Go.RowKit Go.Sort

def cP (xs : List Ent) (d : Int) (k i : Int) : Bool := homB (atE xs k) (atE xs i) d
def keptL (xs : List Ent) (d : Int) : List Int := clrL (cP xs d) (ordL (ltE xs) xs.length)
/-- The indices of the entries that are left. -/
def clV (xs : List Ent) (d : Int) : List Int := if codeE xs true d = 0 then refTo (keptL xs d) xs.length else []
theorem clV_len (xs : List Ent) (d : Int) : (clV xs d).length ≤ xs.length := by
  unfold clV
  split
  · exact refTo_len _ _
  · simp
theorem codeT {xs : List Ent} {d : Int} : codeE xs true d = if areE xs = true then (if inB d 0 4000 = true then 0 else 2) else 1 := by unfold codeE; rw [Bool.and_true]
theorem any_take {K : List Int} (p : Int → Bool) {j : Nat} (h : j < K.length) : (K.take (j + 1)).any p = ((K.take j).any p || p K[j]) := by
  rw [List.take_succ_eq_append_getElem h, List.any_append]; simp
set_option maxRecDepth 100000 in
theorem hasI_any (K : List Int) (x : Int) (A : Option Addr) (c : Nat) (w : World) (hr : Reads w w.heap.size 1 A K.length (inC K)) (hm : K.length ≤ 9223372036854775807) :
    Calls Tryz.prog 95 #[.slice A K.length c, .int .i64 x] w fun e w' => e = .returned (.bool (inB' K x)) ∧ w = w' := by
  have HR := Lib.hid hr; clear hr
  go_enter Tryz.func95, Tryz.ntmps95
  go_wp2_with fail
  go_loopw [5] (fun v5 wr => ∃ k : Nat, k ≤ K.length ∧ Hid ((K.take k).any (fun v => v == x) = false) ∧ wr = w ∧ v5 = .int .i64 k) (fun i _ => K.length - (intOf i).toNat)
  case atStart => exact ⟨0, Nat.zero_le _, rfl, rfl, rfl⟩
  case round =>
    obtain ⟨k, hk, HN, rfl, rfl⟩ := hrel
    by_cases hlt : k < K.length
    · obtain ⟨ab, ao, rfl, hadb, hcell⟩ := HR.out.2 (by omega)
      have c0 := hcell k (.int .i64 K[k]) (by unfold inC; rw [List.getElem?_map, List.getElem?_eq_getElem hlt]; rfl)
      have HT := Lib.hid (any_take (fun v => v == x) hlt)
      have HM := Lib.hid (show K[k] ∈ K from List.getElem_mem hlt)
      clear hcell
      generalize K[k] = y at c0 HT HM
      by_cases hy : y = x
      · subst hy
        have HX := Lib.hid (inB'_iff.2 HM.out)
        go_wp2_with fail
        go_ret
        exact ⟨ret_bool HX.out.symm, by first | rfl | trivial⟩
      · have HF := Lib.hid (show (K.take (k + 1)).any (fun v => v == x) = false by rw [HT.out, HN.out, beq_eq_false_iff_ne.2 hy]; rfl)
        go_wp2_with fail
        go_roundw
        case rel => exact ⟨k + 1, by omega, HF.out, by first | rfl | trivial, by go_num⟩
        case measure => simp [intOf]; omega
    · obtain rfl : k = K.length := by omega
      have HX := Lib.hid (show inB' K x = false by have := HN.out; rw [List.take_length] at this; exact this)
      go_wp2_with fail
      go_ret
      exact ⟨ret_bool HX.out.symm, by first | rfl | trivial⟩
set_option maxRecDepth 100000 in
set_option maxHeartbeats 4000000 in
theorem specClr_any (xs : List Ent) (dist : Int) (hs : ∀ b ∈ xs, b.text.size ≤ 1048576) (A : Option Addr) (c : Nat) (w : World) (h : HasEnt w xs A) :
    Calls Tryz.prog 35 #[.slice A xs.length c, .int .i64 dist] w fun e w' => ∃ v, e = .returned (.tuple #[v, .int .i64 (codeE xs true dist)]) ∧ w'.ownsRow w.heap.size 2 1 v (clV xs dist).length (inC (clV xs dist)) ∧ Below w.heap.size w w' := by
  have HA := Lib.hid (specAreE_any xs A c w h hs)
  have HI := Lib.hid (specIn_any dist 0 4000)
  cases ha : areE xs
  · have HC := Lib.hid (show codeE xs true dist = 1 by rw [codeT, ha]; rfl)
    have HV := Lib.hid (show clV xs dist = [] by unfold clV; rw [if_neg (by rw [HC.out]; decide)])
    rw [ha] at HA
    clear h hs ha
    generalize clV xs dist = L at HV ⊢
    generalize codeE xs true dist = code at HC ⊢
    go_enter Tryz.func35, Tryz.ntmps35
    go_wp2_with fail
    refine HA.out.mono ?_; rintro e w1 ⟨rfl, b1⟩
    go_wp2_with fail
    go_ret2
    exact ⟨_, by rw [HC.out]; (first | done | rfl), by rw [HV.out]; exact World.ownsRow_nil _ _ _ _, b1⟩
  · cases hi : inB dist 0 4000
    · have HC := Lib.hid (show codeE xs true dist = 2 by rw [codeT, ha, hi]; rfl)
      have HV := Lib.hid (show clV xs dist = [] by unfold clV; rw [if_neg (by rw [HC.out]; decide)])
      rw [ha] at HA
      rw [hi] at HI
      clear h hs ha hi
      generalize clV xs dist = L at HV ⊢
      generalize codeE xs true dist = code at HC ⊢
      go_enter Tryz.func35, Tryz.ntmps35
      go_wp2_with fail
      refine HA.out.mono ?_; rintro e w1 ⟨rfl, b1⟩
      have B1 := Lib.hid b1; clear b1
      go_wp2_with fail
      refine (HI.out _).mono ?_; rintro e w' ⟨rfl, rfl⟩
      go_wp2_with fail
      go_ret2
      exact ⟨_, by rw [HC.out]; (first | done | rfl), by rw [HV.out]; exact World.ownsRow_nil _ _ _ _, B1.out⟩
    · have HC := Lib.hid (show codeE xs true dist = 0 by rw [codeT, ha, hi]; rfl)
      have HV := Lib.hid (show clV xs dist = refTo (keptL xs dist) xs.length by unfold clV; rw [if_pos HC.out])
      obtain ⟨hx, hm⟩ : (∀ f ∈ xs, entB f = true) ∧ xs.length ≤ 12 := by
        simp only [areE, Bool.and_eq_true, List.all_eq_true, decide_eq_true_eq] at ha
        exact ⟨ha.1, by omega⟩
      have hd : 0 ≤ dist ∧ dist ≤ 4000 := by simp only [inB, Bool.and_eq_true, decide_eq_true_eq] at hi; omega
      have HOd := Lib.hid (fun W (hb : Below w.heap.size w W) => specOrd_any xs hx A c W (h.below hb) hm)
      have HHm := Lib.hid (fun i k (hi : i < xs.length) (hk : k < xs.length) => specHom_any xs[i] xs[k] (hx _ (List.getElem_mem hi)) (hx _ (List.getElem_mem hk)) dist hd)
      rw [ha] at HA
      rw [hi] at HI
      have H := Lib.hid h
      clear h hs ha hi hx hd
      obtain ⟨i0, hi0, hz0, hz1, hz2⟩ := info_parts infoInt
      have HOi := Lib.hid (ordL_in (ltE xs) xs.length)
      have HOl := Lib.hid (ordL_len (ltE xs) xs.length)
      have HKp := Lib.hid (show keptL xs dist = clrL (cP xs dist) (ordL (ltE xs) xs.length) from rfl)
      obtain ⟨P, hP⟩ : ∃ P, cP xs dist = P := ⟨_, rfl⟩
      have HPp := Lib.hid (show ∀ (i k : Nat) (hi : i < xs.length) (hk : k < xs.length), P i k = homB xs[i] xs[k] dist by intro i k hi hk; rw [← hP, cP, atE_eq hi, atE_eq hk])
      rw [hP] at HKp
      clear hP
      generalize keptL xs dist = KK at HKp HV
      generalize ordL (ltE xs) xs.length = O at *
      generalize clV xs dist = L at HV ⊢
      generalize codeE xs true dist = code at HC ⊢
      have hOl : O.length = xs.length := HOl.out
      rw [hOl] at HOd
      clear hOl
      go_enter Tryz.func35, Tryz.ntmps35
      go_wp2_with fail
      refine HA.out.mono ?_; rintro e w1 ⟨rfl, b1⟩
      have B1 := Lib.hid b1; clear b1
      go_wp2_with fail
      refine (HI.out _).mono ?_; rintro e w' ⟨rfl, rfl⟩
      go_upto_region 6 with (fail)
      generalize hW : w1.alloc (.cells #[] 2) = W1
      have OW := Lib.hid (show W1.ownsRow w.heap.size 2 1 (.slice (some ⟨w1.heap.size, 0, none⟩) 0 0) 0 (inC []) by
        have := World.ownsRow_made (e := 2) (base := w.heap.size) (size := 1) w1 #[] 0 B1.out.size (by decide) rfl
        rw [← hW]
        simpa [inC] using this)
      have BW1 := Lib.hid (show Below w.heap.size w W1 by rw [← hW]; exact B1.out.alloc B1.out.size _)
      have LW1 := Lib.hid (show w1.heap.size < W1.heap.size by rw [← hW]; simp)
      clear hW
      go_wp2_with fail
      refine (HOd.out W1 BW1.out).mono ?_; rintro e w2 ⟨v, rfl, own2, b2⟩
      obtain ⟨A2, c2, rfl, _⟩ := own_shape own2
      have O2 := Lib.hid own2
      have K2 := Lib.hid (own_below OW.out b2)
      have B2 := Lib.hid (BW1.out.trans (b2.mono BW1.out.size))
      have N2 := Lib.hid (show ∀ q, (Value.slice A2 xs.length c2).ownBlock = some q → w1.heap.size < q ∧ q < w2.heap.size from fun q hq => by have := own_lt own2 q hq; have := LW1.out; omega)
      clear own2 b2
      go_wp2_with fail
      go_loopw [6, 8] (fun v6 v8 wr => ∃ (k m : Nat) (B : Option Addr) (d : Nat), k ≤ xs.length ∧ Hid ((clrL P (O.take k)).length = m) ∧ v6 = .slice B m d ∧ Hid (wr.ownsRow w.heap.size 2 1 (.slice B m d) m (inC (clrL P (O.take k)))) ∧ Hid (wr.ownsRow w.heap.size 2 1 (.slice A2 xs.length c2) xs.length (inC O)) ∧ Hid (∀ q, (Value.slice B m d).ownBlock = some q → (Value.slice A2 xs.length c2).ownBlock ≠ some q) ∧ Hid (Below w.heap.size w wr) ∧ v8 = .int .i64 k) (fun _ i _ => xs.length - (intOf i).toNat)
      case atStart => exact ⟨0, 0, _, 0, by omega, rfl, rfl, K2.out, own_mono O2.out BW1.out.size, fun q hq ho => by simp [Value.ownBlock] at hq; have := N2.out q ho; omega, B2.out, rfl⟩
      case round =>
        obtain ⟨k, m, B, d, hk, HN, rfl, HK, HO, HD, BW, rfl⟩ := hrel
        by_cases hlt : k < xs.length
        · have hkO : k < O.length := by have := HOl.out; omega
          have HNx := Lib.hid (clrL_take (P := P) hkO)
          have HKm := Lib.hid (fun v (hv : v ∈ clrL P (O.take k)) => HOi.out v (List.mem_of_mem_take ((clrL_sub P (O.take k)).subset hv)))
          have HKl := Lib.hid (Nat.le_trans (clrL_len P (O.take k)) (by rw [List.length_take]; exact Nat.min_le_left k O.length))
          obtain ⟨ho0, ho1⟩ := HOi.out O[k] (List.getElem_mem hkO)
          obtain ⟨ov, hov⟩ : ∃ v : Nat, O[k] = (v : Int) := ⟨O[k].toNat, by omega⟩
          have hovn : ov < xs.length := by omega
          have HOc := Lib.hid (show (inC O)[k]? = some (.int .i64 ov) by unfold inC; rw [List.getElem?_map, List.getElem?_eq_getElem hkO, hov]; rfl)
          rw [hov] at HNx
          clear ho0 ho1 hov hkO
          generalize clrL P (O.take k) = K at *
          have hKl : K.length = m := HN.out
          have hmk : m ≤ k := by have := HKl.out; omega
          go_wp2_with fail
          go_loopw [9, 10] (fun v9 v10 wr => ∃ (j : Nat) (fr : Bool), j ≤ m ∧ Hid (wr.ownsRow w.heap.size 2 1 (.slice B m d) m (inC K)) ∧ Hid (wr.ownsRow w.heap.size 2 1 (.slice A2 xs.length c2) xs.length (inC O)) ∧ Hid (Below w.heap.size w wr) ∧ Hid (fr = !((K.take j).any fun v => P v ov)) ∧ v9 = .bool fr ∧ v10 = .int .i64 j) (fun _ b _ => m - (intOf b).toNat)
          case atStart => exact ⟨0, true, by omega, HK.out, HO.out, BW.out, rfl, rfl, rfl⟩
          case round =>
            clear HK HO BW
            obtain ⟨j, fr, hj, HK, HO, BW, HF, rfl, rfl⟩ := hrel
            by_cases hjm : j < m
            · have hjK : j < K.length := by omega
              have HT := Lib.hid (any_take (fun v => P v ov) hjK)
              obtain ⟨kb, ko, rfl, hkb, hkc⟩ := (Reads.of_own HK.out).2 (by omega)
              obtain ⟨ob, oo, rfl, hob, hoc⟩ := (Reads.of_own HO.out).2 (by omega)
              obtain ⟨ab, ao, rfl, hadb, hcell⟩ := (H.out.below BW.out).1.2 (by omega)
              obtain ⟨hv0, hv1⟩ := HKm.out K[j] (List.getElem_mem hjK)
              obtain ⟨kv, hkv⟩ : ∃ v : Nat, K[j] = (v : Int) := ⟨K[j].toNat, by omega⟩
              have hkvn : kv < xs.length := by omega
              have ck := cell_regrown (hkc j (.int .i64 kv) (by unfold inC; rw [List.getElem?_map, List.getElem?_eq_getElem hjK, hkv]; rfl))
              have co := cell_regrown (hoc k (.int .i64 ov) HOc.out)
              obtain ⟨e0, e1, e2, e3⟩ := enC_get xs kv hkvn
              obtain ⟨g0, g1, g2, g3⟩ := enC_get xs ov hovn
              have c0 := cell_regrown (hcell _ _ e0)
              have c1 := cell_regrown (hcell _ _ e1)
              have c2' := cell_regrown (hcell _ _ e2)
              have c3 := cell_regrown (hcell _ _ e3)
              have d0 := cell_regrown (hcell _ _ g0)
              have d1 := cell_regrown (hcell _ _ g1)
              have d2 := cell_regrown (hcell _ _ g2)
              have d3 := cell_regrown (hcell _ _ g3)
              simp only [← Nat.add_assoc] at c1 c2' c3 d1 d2 d3
              rw [hkv] at HT
              have HP1 := Lib.hid (HPp.out kv ov hkvn hovn)
              have HC1 := Lib.hid (HHm.out kv ov hkvn hovn)
              clear hkc hoc hcell e0 e1 e2 e3 g0 g1 g2 g3 hv0 hv1 hkv
              generalize xs[kv] = f at c0 c1 c2' c3 HP1 HC1
              generalize xs[ov] = u at d0 d1 d2 d3 HP1 HC1
              unfold Ent.val at HC1
              generalize homB f u dist = q at HP1 HC1
              have r1 : ∀ d os, Calls Tryz.prog 77 #[.agg #[.string f.text, .int .i64 f.x, .int .i64 f.y, .int .i64 f.since], .agg #[.string u.text, .int .i64 u.x, .int .i64 u.y, .int .i64 u.since], .int .i64 dist] (grow (redrawn wr d) os) (fun e w'' => e = .returned (.bool q) ∧ ∃ p : Regrown, w'' = grow (redrawn wr p.d) p.os) := fun d os => Calls.regrown_of (HC1.out _)
              rw [HP1.out] at HT
              clear HC1 HP1
              cases fr
              · have HT2 := Lib.hid (show (K.take (j + 1)).any (fun v => P v ov) = true by rw [HT.out]; have := HF.out; revert this; cases (K.take j).any (fun v => P v ov) <;> simp)
                go_upto_region 14 with (fail)
                refine wp_region_quiet_below (by kernel_rfl) (by kernel_rfl) ?_; (repeat (first | go_big_quiet_step ((first | with_reducible exact r1 _ _)))); refine wpQuiet_nil ?_; intro _ hw'; obtain ⟨⟨dq, osq⟩, rfl⟩ := hw'
                have O2' := Lib.hid (own_below HO.out (below_regrown wr dq osq))
                have K2' := Lib.hid (own_below HK.out (below_regrown wr dq osq))
                have B2' := Lib.hid (BW.out.trans ((below_regrown wr dq osq).mono BW.out.size))
                clear r1 ck co c0 c1 c2' c3 d0 d1 d2 d3
                generalize grow (redrawn wr dq) osq = w3 at O2' K2' B2' ⊢
                go_wp2_with fail
                go_roundw
                case rel => exact ⟨j + 1, _, by omega, K2'.out, O2'.out, B2'.out, by show _ = _; rw [HT2.out]; (first | done | rfl | (cases q <;> rfl)), rfl, by go_num⟩
                case measure => simp [intOf]; omega
              · have HT2 := Lib.hid (show (K.take (j + 1)).any (fun v => P v ov) = q by rw [HT.out]; have := HF.out; revert this; cases (K.take j).any (fun v => P v ov) <;> simp)
                go_upto_region 14 with (fail)
                refine wp_region_quiet_below (by kernel_rfl) (by kernel_rfl) ?_; (repeat (first | go_big_quiet_step ((first | with_reducible exact r1 _ _)))); refine wpQuiet_nil ?_; intro _ hw'; obtain ⟨⟨dq, osq⟩, rfl⟩ := hw'
                have O2' := Lib.hid (own_below HO.out (below_regrown wr dq osq))
                have K2' := Lib.hid (own_below HK.out (below_regrown wr dq osq))
                have B2' := Lib.hid (BW.out.trans ((below_regrown wr dq osq).mono BW.out.size))
                clear r1 ck co c0 c1 c2' c3 d0 d1 d2 d3
                generalize grow (redrawn wr dq) osq = w3 at O2' K2' B2' ⊢
                go_wp2_with fail
                go_roundw
                case rel => exact ⟨j + 1, _, by omega, K2'.out, O2'.out, B2'.out, by show _ = _; rw [HT2.out]; (first | done | rfl | (cases q <;> rfl)), rfl, by go_num⟩
                case measure => simp [intOf]; omega
            · obtain rfl : j = m := by omega
              have HF2 := Lib.hid (show fr = !(K.any fun v => P v ov) by have := HF.out; rw [List.take_of_length_le (by omega)] at this; exact this)
              cases fr
              case true =>
                have hf : K.any (fun v => P v ov) = false := by have := HF2.out; revert this; cases K.any (fun v => P v ov) <;> simp
                rw [hf] at HNx
                clear hf
                obtain ⟨ob, oo, rfl, hob, hoc⟩ := (Reads.of_own HO.out).2 (by omega)
                have co := hoc k (.int .i64 ov) HOc.out
                clear hoc hob
                go_wp2_with (at_builtin; refine wpList_append_any _ rfl (.tmp 55) (.tmp 60) _ rfl w.heap.size 2 i0 _ 1 8 Tryz.underlying31 hi0 hz0 hz1 hz2 rfl (by omega) (.slice B j d) j (inC K) rfl (HK.out.alloc _) _ (some ⟨wr.heap.size, 0, none⟩) 1 1 [.int .i64 ov] rfl (new_in1 _ _ _) (by simp [Value.oneCell']) (by simp only [maxLen]; omega) (by omega) (by have := BW.out.size; simp; omega) ?_; intro v4 w4 hown4 hg4 hat4; obtain ⟨B4, d4, rfl, _⟩ := own_shape hown4)
                go_roundw
                case rel => exact ⟨k + 1, j + 1, B4, d4, by omega, by have := HN.out; rw [HNx.out]; simp [Hid, this], rfl, by rw [HNx.out]; (try simp only [Bool.false_eq_true, if_false]); rw [inC_snoc]; exact hown4,
                  (HO.out.alloc _).kept hg4 (by
                    rcases ho : (Value.slice (some ⟨ob, oo, none⟩) xs.length c2).ownBlock with _ | q
                    · exact .inl rfl
                    · exact .inr (fun e => HD.out q e.symm ho)),
                  (fun q hq ho => by
                    rcases hat4 with h4 | h4
                    · rw [h4] at hq; exact HD.out q hq ho
                    · rw [h4] at hq
                      have h5 := (own_lt HO.out q ho).2
                      injection hq with hq
                      simp at hq; omega),
                  below_own (BW.out.alloc BW.out.size _) (HK.out.alloc _) hg4 (Nat.le_refl _) (by have := BW.out.size; simp; omega), by go_num⟩
                case measure => simp [intOf]; omega
              case false =>
                have hf : K.any (fun v => P v ov) = true := by have := HF2.out; revert this; cases K.any (fun v => P v ov) <;> simp
                rw [hf] at HNx
                clear hf
                go_wp2_with fail
                go_roundw
                case rel => exact ⟨k + 1, j, B, d, by omega, by rw [HNx.out]; exact HN.out, rfl, by rw [HNx.out]; exact HK.out, HO.out, HD.out, BW.out, by go_num⟩
                case measure => simp [intOf]; omega
        · obtain rfl : k = xs.length := by omega
          have htk : O.take xs.length = O := List.take_of_length_le (by have := HOl.out; omega)
          rw [htk, ← HKp.out] at HN HK
          obtain rfl := HN.out
          have HKl := Lib.hid (show KK.length ≤ xs.length by rw [HKp.out]; have := clrL_len P O; have := HOl.out; omega)
          have hkl := HKl.out
          clear htk HO HD
          go_upto_region 18 with (fail)
          generalize hW : wr.alloc (.cells #[] 2) = W5
          have OW5 := Lib.hid (show W5.ownsRow wr.heap.size 2 1 (.slice (some ⟨wr.heap.size, 0, none⟩) 0 0) 0 (inC []) by
            have := World.ownsRow_made (e := 2) (base := wr.heap.size) (size := 1) wr #[] 0 (Nat.le_refl _) (by decide) rfl
            rw [← hW]
            simpa [inC] using this)
          have B5 := Lib.hid (show Below wr.heap.size wr W5 by rw [← hW]; exact (Below.refl _ _).alloc (Nat.le_refl _) _)
          clear hW
          go_wp2_with fail
          go_loopw [11, 12] (fun v11 v12 w6 => ∃ (i m2 : Nat) (B2 : Option Addr) (d2 : Nat), i ≤ xs.length ∧ Hid ((refTo KK i).length = m2) ∧ v11 = .slice B2 m2 d2 ∧ Hid (w6.ownsRow wr.heap.size 2 1 (.slice B2 m2 d2) m2 (inC (refTo KK i))) ∧ Hid (Below wr.heap.size wr w6) ∧ v12 = .int .i64 i) (fun _ i _ => xs.length - (intOf i).toNat)
          case atStart => exact ⟨0, 0, _, 0, by omega, rfl, rfl, OW5.out, B5.out, rfl⟩
          case round =>
            obtain ⟨i, m2, B2, d2, hi, HM, rfl, HW2, BX, rfl⟩ := hrel
            have hm2 : m2 ≤ i := by have := HM.out; have := refTo_len KK i; omega
            by_cases hin : i < xs.length
            · have HNx := Lib.hid (refTo_next KK i)
              have HH := Lib.hid (hasI_any KK i B d wr (Reads.of_own (own_below HK.out BX.out)) (by omega))
              cases hb : inB' KK (i : Int)
              · rw [hb] at HNx HH
                clear hb
                go_wp2_with fail
                refine HH.out.mono ?_; rintro e w' ⟨rfl, rfl⟩
                go_wp2_with fail
                go_roundw
                case rel => exact ⟨i + 1, m2, B2, d2, by omega, by rw [HNx.out]; exact HM.out, rfl, by rw [HNx.out]; exact HW2.out, BX.out, by go_num⟩
                case measure => simp [intOf]; omega
              · rw [hb] at HNx HH
                clear hb
                go_wp2_with fail
                refine HH.out.mono ?_; rintro e w' ⟨rfl, rfl⟩
                go_wp2_with (at_builtin; refine wpList_append_any _ rfl (.tmp 72) (.tmp 74) _ rfl _ 2 i0 _ 1 8 Tryz.underlying31 hi0 hz0 hz1 hz2 rfl (by omega) (.slice B2 m2 d2) m2 (inC (refTo KK i)) rfl (HW2.out.alloc _) _ (some ⟨wr.heap.size, 0, none⟩) 1 1 [.int .i64 i] rfl (new_in1 _ _ _) (by simp [Value.oneCell']) (by simp only [maxLen]; omega) (by omega) (by have := BX.out.size; simp; omega) ?_; intro v4 w4 hown4 hg4 hat4; obtain ⟨B4, d4, rfl, _⟩ := own_shape hown4)
                go_roundw
                case rel => exact ⟨i + 1, m2 + 1, B4, d4, by omega, by have := HM.out; rw [HNx.out]; simp [Hid, this], rfl, by rw [HNx.out]; (try simp only [if_true]); rw [inC_snoc]; exact hown4, below_own (BX.out.alloc BX.out.size _) (HW2.out.alloc _) hg4 (Nat.le_refl _) (by have := BX.out.size; simp; omega), by go_num⟩
                case measure => simp [intOf]; omega
            · obtain rfl : i = xs.length := by omega
              have HM' := HM.out
              go_wp2_with fail
              go_ret2
              exact ⟨_, by rw [HC.out]; (first | done | rfl), by rw [HV.out, HM']; exact own_mono HW2.out BW.out.size, BW.out.trans (BX.out.mono BW.out.size)⟩
end Go.Proofs.YtihhpmhigmegjaaGreatDoor
namespace Go.Proofs.YtihhpmhigmegjaaGreatDoor
open Go.ChangeShapes Go.WideShapes Go.ChangeAt Go.RowKit Go.Sort

/-- The results: the indices, and the code. -/
def rowE (xs : List Ent) (b : Ent) (d : Int) (p : Ent → Bool) : List Int := if codeE xs (entB b) d = 0 then whichE xs p else []
def pAll (b : Ent) (d : Int) (f : Ent) : Bool := homB b f d && true
def pBar (b : Ent) (d : Int) (f : Ent) : Bool := homB b f d && decide (cmpE f b ≤ 0)
def pDis (b : Ent) (d : Int) (f : Ent) : Bool := homB b f d && decide (cmpE b f < 0)
theorem rowE_len (xs : List Ent) (b : Ent) (d : Int) (p : Ent → Bool) : (rowE xs b d p).length ≤ xs.length := by
  unfold rowE
  split
  · exact wTo_len _ _ _
  · simp
theorem codeE_zero {xs : List Ent} {ok : Bool} {d : Int} (h : codeE xs ok d = 0) : (∀ f ∈ xs, entB f = true) ∧ xs.length ≤ 12 ∧ ok = true ∧ 0 ≤ d ∧ d ≤ 4000 := by
  unfold codeE at h
  split at h
  · rename_i h1
    split at h
    · rename_i h2
      simp only [areE, Bool.and_eq_true, List.all_eq_true, decide_eq_true_eq] at h1
      simp only [inB, Bool.and_eq_true, decide_eq_true_eq] at h2
      exact ⟨h1.1.1, by omega, h1.2, by omega, by omega⟩
    · cases h
  · cases h
def admB (xs : List Ent) (b : Ent) (d : Int) : Bool := (codeE xs (entB b) d == 0) && decide ((rowE xs b d (pBar b d)).length = 0)
set_option maxRecDepth 100000 in
set_option maxHeartbeats 2000000 in
theorem specHomL_any (xs : List Ent) (b : Ent) (dist : Int) (hs : ∀ b ∈ xs, b.text.size ≤ 1048576) (hb : b.text.size ≤ 1048576) (A : Option Addr) (c : Nat) (w : World) (h : HasEnt w xs A) :
    Calls Tryz.prog 26 #[.slice A xs.length c, b.val, .int .i64 dist] w fun e w' => ∃ v, e = .returned (.tuple #[v, .int .i64 (codeE xs (entB b) dist)]) ∧ w'.ownsRow w.heap.size 2 1 v (rowE xs b dist (pAll b dist)).length (inC (rowE xs b dist (pAll b dist))) ∧ Below w.heap.size w w' := by
  obtain ⟨i0, hi0, hz0, hz1, hz2⟩ := info_parts infoInt
  have HC0 := Lib.hid (fun W (hb' : Below w.heap.size w W) => specCodeE_any xs b dist A c W (h.below hb') hs hb)
  have H := Lib.hid h; clear h
  have KN := Lib.hid (blks_one w 45 #[.string b.text, .int .i64 b.x, .int .i64 b.y, .int .i64 b.since])
  have KZ := Lib.hid (fun h => codeE_zero (xs := xs) (ok := entB b) (d := dist) h)
  have HL := Lib.hid (show rowE xs b dist (pAll b dist) = if codeE xs (entB b) dist = 0 then whichE xs (pAll b dist) else [] from rfl)
  generalize rowE xs b dist (pAll b dist) = LL at HL ⊢
  generalize hcz : codeE xs (entB b) dist = cz at HC0 HL KZ ⊢
  clear hcz hs hb
  by_cases hz : cz = 0
  · obtain ⟨hx, hm, hb, hd⟩ := KZ.out hz
    rw [if_pos hz] at HL
    subst hz
    have HX := Lib.hid hx; clear hx
    have HB := Lib.hid hb; clear hb
    have HHm := Lib.hid (fun f hf => specHom_any f b hf HB.out dist hd)
    obtain ⟨P, hP⟩ : ∃ P : Ent → Bool, pAll b dist = P := ⟨_, rfl⟩
    have HPf := Lib.hid (show ∀ f, P f = homB f b dist from fun f => by rw [← hP, pAll, Bool.and_true, homB_comm])
    rw [hP] at HL
    clear hP
    unfold Ent.val at HHm HC0 ⊢
    go_enter Tryz.func26, Tryz.ntmps26
    go_wp2_with fail
    generalize hW : w.alloc (.cells #[.string b.text, .int .i64 b.x, .int .i64 b.y, .int .i64 b.since] 45) = W
    obtain ⟨kb, bw, hsz⟩ := KN.out W hW.symm
    clear hW hsz
    refine (HC0.out W bw).mono ?_; rintro e w1 ⟨rfl, b1⟩
    have KB := Lib.hid (kb.below b1 kb.lt); have BW0 := Lib.hid (bw.trans (b1.mono bw.size)); clear kb bw b1
    go_upto_region 5 with (fail)
    generalize hW : w1.alloc (.cells #[] 2) = W1
    have OW := Lib.hid (show W1.ownsRow w.heap.size 2 1 (.slice (some ⟨w1.heap.size, 0, none⟩) 0 0) 0 (inC []) by
      have := World.ownsRow_made (e := 2) (base := w.heap.size) (size := 1) w1 #[] 0 BW0.out.size (by decide) rfl
      rw [← hW]
      simpa [inC] using this)
    have KB1 := Lib.hid (show Blk W1 w.heap.size 45 #[.string b.text, .int .i64 b.x, .int .i64 b.y, .int .i64 b.since] by rw [← hW]; exact KB.out.alloc _)
    have BW1 := Lib.hid (show Below w.heap.size w W1 by rw [← hW]; exact BW0.out.alloc BW0.out.size _)
    clear hW
    have LB1 := Lib.hid KB.out.lt
    go_wp2_with fail
    go_loopw [9, 10] (fun v9 v10 wr => ∃ (k n : Nat) (B : Option Addr) (d : Nat), k ≤ xs.length ∧ n ≤ k ∧ Hid ((wTo xs P k).length = n) ∧ v9 = .slice B n d ∧ Hid (wr.ownsRow w.heap.size 2 1 (.slice B n d) n (inC (wTo xs P k))) ∧ Hid (Blk wr w.heap.size 45 #[.string b.text, .int .i64 b.x, .int .i64 b.y, .int .i64 b.since] ∧ ∀ g, (Value.slice B n d).ownBlock = some g → w.heap.size < g) ∧ Hid (Below w.heap.size w wr) ∧ v10 = .int .i64 k) (fun _ i _ => xs.length - (intOf i).toNat)
    case atStart => exact ⟨0, 0, _, _, by omega, by omega, rfl, rfl, OW.out, ⟨KB1.out, fun g hg => by simp [Value.ownBlock] at hg; have := LB1.out; omega⟩, BW1.out, rfl⟩
    case round =>
      obtain ⟨k, n, B, d, hk, hnk, HN, rfl, HO, HK, BW, rfl⟩ := hrel
      by_cases hlt : k < xs.length
      · obtain ⟨ab, ao, rfl, hadb, hcell⟩ := (H.out.below BW.out).1.2 (by omega)
        obtain ⟨e0, e1, e2, e3⟩ := enC_get xs k hlt
        have c0 := hcell _ _ e0
        have c1 := hcell _ _ e1
        have c2 := hcell _ _ e2
        have c3 := hcell _ _ e3
        rw [← Nat.add_assoc] at c1 c2 c3
        clear hcell e0 e1 e2 e3
        have HW1 := Lib.hid (wTo_at (xs := xs) (p := P) hlt)
        have HH1 := Lib.hid (HHm.out xs[k] (HX.out _ (List.getElem_mem hlt)))
        have HP1 := Lib.hid (HPf.out xs[k])
        generalize xs[k] = f at c0 c1 c2 c3 HW1 HH1 HP1
        go_upto_region 8 with (fail)
        have k0 := cell_regrown c0
        have k1 := cell_regrown c1
        have k2 := cell_regrown c2
        have k3 := cell_regrown c3
        obtain ⟨x0, x1, x2, x3⟩ := four_regrown HK.out.1
        clear c0 c1 c2 c3
        have r1 : ∀ d os, Calls Tryz.prog 77 #[.agg #[.string f.text, .int .i64 f.x, .int .i64 f.y, .int .i64 f.since], .agg #[.string b.text, .int .i64 b.x, .int .i64 b.y, .int .i64 b.since], .int .i64 dist] (grow (redrawn wr d) os) (fun e w'' => e = .returned (.bool (homB f b dist)) ∧ ∃ p : Regrown, w'' = grow (redrawn wr p.d) p.os) := fun d os => Calls.regrown_of (HH1.out _)
        cases q1 : homB f b dist
        · have HL1 := Lib.hid (show wTo xs P (k + 1) = wTo xs P k by rw [HW1.out, HP1.out, q1]; rfl)
          rw [q1] at r1
          clear q1
          refine wp_region_quiet_below (by kernel_rfl) (by kernel_rfl) ?_; (repeat (first | go_big_quiet_step ((first | with_reducible exact r1 _ _)))); refine wpQuiet_nil ?_; intro _ hw'; obtain ⟨⟨dq, osq⟩, rfl⟩ := hw'
          have HK2 := Lib.hid (HK.out.1.below (below_regrown wr dq osq) HK.out.1.lt)
          have O2 := Lib.hid (own_below HO.out (below_regrown wr dq osq))
          have B2 := Lib.hid (BW.out.trans ((below_regrown wr dq osq).mono BW.out.size))
          generalize grow (redrawn wr dq) osq = w2 at HK2 O2 B2 ⊢
          clear r1 k0 k1 k2 k3 x0 x1 x2 x3
          go_wp2_with fail
          go_roundw
          case rel => exact ⟨k + 1, n, B, d, by omega, by omega, by rw [HL1.out]; exact HN.out, rfl, by rw [HL1.out]; exact O2.out, ⟨HK2.out, HK.out.2⟩, B2.out, by go_num⟩
          case measure => simp [intOf]; omega
        · have HL1 := Lib.hid (show wTo xs P (k + 1) = wTo xs P k ++ [(k : Int)] by rw [HW1.out, HP1.out, q1]; rfl)
          rw [q1] at r1
          clear q1
          refine wp_region_quiet_below (by kernel_rfl) (by kernel_rfl) ?_; (repeat (first | go_big_quiet_step ((first | with_reducible exact r1 _ _)))); refine wpQuiet_nil ?_; intro _ hw'; obtain ⟨⟨dq, osq⟩, rfl⟩ := hw'
          have HK2 := Lib.hid (HK.out.1.below (below_regrown wr dq osq) HK.out.1.lt)
          have O2 := Lib.hid (own_below HO.out (below_regrown wr dq osq))
          have B2 := Lib.hid (BW.out.trans ((below_regrown wr dq osq).mono BW.out.size))
          generalize grow (redrawn wr dq) osq = w2 at HK2 O2 B2 ⊢
          clear r1 k0 k1 k2 k3 x0 x1 x2 x3
          go_wp2_with (at_builtin; refine wpList_append_any _ rfl (.tmp 32) (.tmp 34) _ rfl w.heap.size 2 i0 _ 1 8 Tryz.underlying31 hi0 hz0 hz1 hz2 rfl (by omega) (.slice B n d) n (inC (wTo xs P k)) rfl (O2.out.alloc _) _ (some ⟨w2.heap.size, 0, none⟩) 1 1 [.int .i64 k] rfl (new_in1 _ _ _) (by simp [Value.oneCell']) (by simp only [maxLen]; omega) (by omega) (by have := B2.out.size; simp; omega) ?_; intro v4 w4 hown4 hg4 hat4; obtain ⟨B4, d4, rfl, _⟩ := own_shape hown4)
          go_roundw
          case rel => exact ⟨k + 1, n + 1, B4, d4, by omega, by omega, by have := HN.out; rw [HL1.out]; simp [Hid, this], rfl, by rw [HL1.out, inC_snoc]; exact hown4, ⟨(HK2.out.alloc _).grown hg4 (fun e => by have := HK.out.2 _ e.symm; omega), fun g hg => by
              rcases hat4 with h4 | h4
              · rw [h4] at hg; exact HK.out.2 g hg
              · rw [h4] at hg; have := HK2.out.lt; injection hg with hg; subst hg; simp; omega⟩, below_own (B2.out.alloc B2.out.size _) (O2.out.alloc _) hg4 (Nat.le_refl _) (by have := B2.out.size; simp; omega), by go_num⟩
          case measure => simp [intOf]; omega
      · obtain rfl : k = xs.length := by omega
        have HN' := HN.out
        have HLL := Lib.hid (show LL = wTo xs P xs.length from HL.out)
        go_wp2_with fail
        go_ret2
        exact ⟨_, rfl, by rw [HLL.out, HN']; exact HO.out, BW.out⟩
  · rw [if_neg hz] at HL
    have hne : (cz != 0) = true := by rw [bne_iff_ne]; exact hz
    clear hz
    unfold Ent.val at HC0 ⊢
    go_enter Tryz.func26, Tryz.ntmps26
    go_wp2_with fail
    generalize hW : w.alloc (.cells #[.string b.text, .int .i64 b.x, .int .i64 b.y, .int .i64 b.since] 45) = W
    obtain ⟨kb, bw, hsz⟩ := KN.out W hW.symm
    clear hW hsz
    refine (HC0.out W bw).mono ?_; rintro e w1 ⟨rfl, b1⟩
    go_wp2_with fail
    go_ret2
    exact ⟨_, rfl, by rw [HL.out]; exact World.ownsRow_nil _ _ _ _, bw.trans (b1.mono bw.size)⟩
set_option maxRecDepth 100000 in
set_option maxHeartbeats 1000000 in
theorem specDis_any (xs : List Ent) (b : Ent) (dist : Int) (hs : ∀ b ∈ xs, b.text.size ≤ 1048576) (hb : b.text.size ≤ 1048576) (A : Option Addr) (c : Nat) (w : World) (h : HasEnt w xs A) :
    Calls Tryz.prog 30 #[.slice A xs.length c, b.val, .int .i64 dist] w fun e w' => ∃ v, e = .returned (.tuple #[v, .int .i64 (codeE xs (entB b) dist)]) ∧ w'.ownsRow w.heap.size 2 1 v (rowE xs b dist (pDis b dist)).length (inC (rowE xs b dist (pDis b dist))) ∧ Below w.heap.size w w' := by
  have HC0 := Lib.hid (fun W (hb' : Below w.heap.size w W) => specCodeE_any xs b dist A c W (h.below hb') hs hb)
  have KN := Lib.hid (blks_one w 45 #[.string b.text, .int .i64 b.x, .int .i64 b.y, .int .i64 b.since])
  by_cases hz : codeE xs (entB b) dist = 0
  · obtain ⟨hx, hm, hb, hd⟩ := codeE_zero hz
    have HW := Lib.hid (fun W (hb' : Below w.heap.size w W) => specWhich_any xs b dist false hx hb hd A c W (h.below hb') hm)
    have HE := Lib.hid (show rowE xs b dist (pDis b dist) = whichE xs (fun f => homB f b dist && (decide (cmpE f b ≤ 0) == false)) by
      rw [rowE, if_pos hz]
      exact wTo_congr (fun f _ => by
        unfold pDis
        rw [homB_comm, cmpE_anti b f]
        congr 1
        by_cases h0 : cmpE f b ≤ 0
        · rw [decide_eq_true h0, decide_eq_false (by omega)]; rfl
        · rw [decide_eq_false h0, decide_eq_true (by omega)]; rfl) _)
    generalize rowE xs b dist (pDis b dist) = LL at HE ⊢
    rw [← HE.out] at HW
    rw [hz] at HC0 ⊢
    clear hz hx hb hd hs h HE
    unfold Ent.val at HC0 HW ⊢
    go_enter Tryz.func30, Tryz.ntmps30
    go_wp2_with fail
    generalize hW : w.alloc (.cells #[.string b.text, .int .i64 b.x, .int .i64 b.y, .int .i64 b.since] 45) = W
    obtain ⟨kb, bw, hsz⟩ := KN.out W hW.symm
    clear hW hsz
    refine (HC0.out W bw).mono ?_; rintro e w1 ⟨rfl, b1⟩
    obtain ⟨x0, x1, x2, x3⟩ := cells_4 (kb.below b1 kb.lt)
    have B1 := Lib.hid (bw.trans (b1.mono bw.size)); clear kb bw b1
    go_wp2_with fail
    refine (HW.out w1 B1.out).mono ?_; rintro e w2 ⟨v, rfl, own2, b2⟩
    have O2 := Lib.hid own2; have B2 := Lib.hid b2; clear own2 b2
    go_wp2_with fail
    go_ret2
    exact ⟨_, rfl, own_mono O2.out B1.out.size, B1.out.trans (B2.out.mono B1.out.size)⟩
  · have HE := Lib.hid (show rowE xs b dist (pDis b dist) = [] by rw [rowE, if_neg hz])
    generalize rowE xs b dist (pDis b dist) = LL at HE ⊢
    generalize codeE xs (entB b) dist = cz at HC0 hz ⊢
    have hne : (cz != 0) = true := by rw [bne_iff_ne]; exact hz
    clear hz hs h hb
    unfold Ent.val at HC0 ⊢
    go_enter Tryz.func30, Tryz.ntmps30
    go_wp2_with fail
    generalize hW : w.alloc (.cells #[.string b.text, .int .i64 b.x, .int .i64 b.y, .int .i64 b.since] 45) = W
    obtain ⟨kb, bw, hsz⟩ := KN.out W hW.symm
    clear hW hsz
    refine (HC0.out W bw).mono ?_; rintro e w1 ⟨rfl, b1⟩
    go_wp2_with fail
    go_ret2
    exact ⟨_, rfl, by rw [HE.out]; exact World.ownsRow_nil _ _ _ _, bw.trans (b1.mono bw.size)⟩
set_option maxRecDepth 100000 in
set_option maxHeartbeats 1000000 in
theorem specAdm_any (xs : List Ent) (b : Ent) (dist : Int) (hs : ∀ b ∈ xs, b.text.size ≤ 1048576) (hb : b.text.size ≤ 1048576) (A : Option Addr) (c : Nat) (w : World) (h : HasEnt w xs A) :
    Calls Tryz.prog 28 #[.slice A xs.length c, b.val, .int .i64 dist] w fun e w' => e = .returned (.tuple #[.bool (admB xs b dist), .int .i64 (codeE xs (entB b) dist)]) ∧ Below w.heap.size w w' := by
  have HC0 := Lib.hid (fun W (hb' : Below w.heap.size w W) => specCodeE_any xs b dist A c W (h.below hb') hs hb)
  have KN := Lib.hid (blks_one w 45 #[.string b.text, .int .i64 b.x, .int .i64 b.y, .int .i64 b.since])
  by_cases hz : codeE xs (entB b) dist = 0
  · obtain ⟨hx, hm, hb, hd⟩ := codeE_zero hz
    have HW := Lib.hid (fun W (hb' : Below w.heap.size w W) => specWhich_any xs b dist true hx hb hd A c W (h.below hb') hm)
    have HE := Lib.hid (show rowE xs b dist (pBar b dist) = whichE xs (fun f => homB f b dist && (decide (cmpE f b ≤ 0) == true)) by
      rw [rowE, if_pos hz]
      exact wTo_congr (fun f _ => by
        unfold pBar
        rw [homB_comm]
        cases decide (cmpE f b ≤ 0) <;> rfl) _)
    have HR := Lib.hid (show admB xs b dist = decide ((rowE xs b dist (pBar b dist)).length = 0) by rw [admB, hz]; rfl)
    generalize admB xs b dist = r at HR ⊢
    generalize rowE xs b dist (pBar b dist) = LL at HE HR
    rw [← HE.out] at HW
    rw [hz] at HC0 ⊢
    clear hz hx hb hd hs h HE
    unfold Ent.val at HC0 HW ⊢
    go_enter Tryz.func28, Tryz.ntmps28
    go_wp2_with fail
    generalize hW : w.alloc (.cells #[.string b.text, .int .i64 b.x, .int .i64 b.y, .int .i64 b.since] 45) = W
    obtain ⟨kb, bw, hsz⟩ := KN.out W hW.symm
    clear hW hsz
    refine (HC0.out W bw).mono ?_; rintro e w1 ⟨rfl, b1⟩
    obtain ⟨x0, x1, x2, x3⟩ := cells_4 (kb.below b1 kb.lt)
    have B1 := Lib.hid (bw.trans (b1.mono bw.size)); clear kb bw b1
    go_wp2_with fail
    refine (HW.out w1 B1.out).mono ?_; rintro e w2 ⟨v, rfl, own2, b2⟩
    obtain ⟨A2, c2, rfl, _⟩ := own_shape own2
    have B2 := Lib.hid b2; clear own2 b2
    go_wp2_with fail
    go_ret2
    exact ⟨by rw [HR.out]; (first | done | rfl | (by_cases h0 : LL.length = 0 <;> simp [h0]) | (simp; omega)), B1.out.trans (B2.out.mono B1.out.size)⟩
  · have HE := Lib.hid (show admB xs b dist = false by
      have : (codeE xs (entB b) dist == 0) = false := by simpa using hz
      rw [admB, this, Bool.false_and])
    generalize admB xs b dist = r at HE ⊢
    generalize codeE xs (entB b) dist = cz at HC0 hz ⊢
    have hne : (cz != 0) = true := by rw [bne_iff_ne]; exact hz
    clear hz hs h hb
    unfold Ent.val at HC0 ⊢
    go_enter Tryz.func28, Tryz.ntmps28
    go_wp2_with fail
    generalize hW : w.alloc (.cells #[.string b.text, .int .i64 b.x, .int .i64 b.y, .int .i64 b.since] 45) = W
    obtain ⟨kb, bw, hsz⟩ := KN.out W hW.symm
    clear hW hsz
    refine (HC0.out W bw).mono ?_; rintro e w1 ⟨rfl, b1⟩
    go_wp2_with fail
    go_ret2
    exact ⟨by rw [HE.out]; first | done | rfl, bw.trans (b1.mono bw.size)⟩
end Go.Proofs.YtihhpmhigmegjaaGreatDoor
namespace Go.Proofs.YtihhpmhigmegjaaGreatDoor
open Go.ChangeShapes Go.WideShapes Go.ChangeAt Go.RowKit Go.Sort

theorem cmpE_zero (a b : Ent) : cmpE a b = 0 ↔ a = b := by
  rw [cmpE_eq]
  have h1 := cmpI_zero a.since b.since
  have h2 := cmpS_eq a.text b.text
  have h3 := cmpI_zero a.x b.x
  have h4 := cmpI_zero a.y b.y
  constructor
  · intro h
    by_cases q1 : cmpI a.since b.since = 0
    · rw [if_pos q1] at h
      by_cases q2 : cmpS a.text b.text = 0
      · rw [if_pos q2] at h
        by_cases q3 : cmpI a.x b.x = 0
        · rw [if_pos q3] at h
          obtain ⟨t, x, y, s⟩ := a
          obtain ⟨t', x', y', s'⟩ := b
          dsimp only at h1 h2 h3 h4 q1 q2 q3 h
          rw [h1.1 q1, h2.1 q2, h3.1 q3, h4.1 h]
        · rw [if_neg q3] at h; exact absurd h q3
      · rw [if_neg q2] at h; exact absurd h q2
    · rw [if_neg q1] at h; exact absurd h q1
  · rintro rfl
    rw [if_pos (h1.2 rfl), if_pos (h2.2 rfl), if_pos (h3.2 rfl)]; exact h4.2 rfl
/-- Neighbours are in order. -/
def nbr (lt : Int → Int → Bool) (S : List Int) : Prop := ∀ j a b, S[j]? = some a → S[j + 1]? = some b → lt b a = false
theorem posR_spec (lt : Int → Int → Bool) (x : Int) (S : List Int) : ∀ j, j ≤ S.length → (∀ a, 0 < posR lt x S j → S[posR lt x S j - 1]? = some a → lt x a = false) ∧ (∀ a, posR lt x S j < j → S[posR lt x S j]? = some a → lt x a = true)
  | 0, _ => ⟨fun a h => absurd h (by simp [posR]), fun a h => absurd h (by omega)⟩
  | j + 1, hj => by
    have ih := posR_spec lt x S j (by omega)
    have hle := posR_le lt x S j
    have hg := getD_at (S := S) (j := j) (by omega)
    cases hl : lt x S[j]
    · rw [posR_stop (by omega) hl]
      refine ⟨fun a _ ha => ?_, fun a h => absurd h (by omega)⟩
      rw [Nat.add_sub_cancel, List.getElem?_eq_getElem (by omega)] at ha
      cases ha; exact hl
    · rw [posR_go (by omega) hl]
      refine ⟨ih.1, fun a h ha => ?_⟩
      by_cases hp : posR lt x S j < j
      · exact ih.2 a hp ha
      · obtain hp : posR lt x S j = j := by omega
        rw [hp, List.getElem?_eq_getElem (by omega)] at ha
        cases ha; exact hl
theorem nbr_ins {lt : Int → Int → Bool} (has : ∀ a b, lt a b = true → lt b a = false) {x : Int} {S : List Int} (h : nbr lt S) : nbr lt (insR lt x S) := by
  have hle := posR_le lt x S S.length
  obtain ⟨h1, h2⟩ := posR_spec lt x S S.length (Nat.le_refl _)
  unfold insR
  generalize posR lt x S S.length = p at *
  have ht : (S.take p).length = p := by rw [List.length_take]; omega
  have at_lo : ∀ j, j < p → (S.take p ++ x :: S.drop p)[j]? = S[j]? := fun j hj => by
    rw [List.getElem?_append_left (by omega), List.getElem?_take_of_lt hj]
  have at_p : (S.take p ++ x :: S.drop p)[p]? = some x := by
    rw [List.getElem?_append_right (by omega), ht, Nat.sub_self]; rfl
  have at_hi : ∀ j, p < j → (S.take p ++ x :: S.drop p)[j]? = S[j - 1]? := fun j hj => by
    rw [List.getElem?_append_right (by omega), ht]
    obtain ⟨d, rfl⟩ : ∃ d, j = p + 1 + d := ⟨j - (p + 1), by omega⟩
    rw [show p + 1 + d - p = d + 1 by omega, List.getElem?_cons_succ, List.getElem?_drop]
    congr 1; omega
  intro j a b ha hb
  by_cases hj : j + 1 < p
  · rw [at_lo j (by omega)] at ha; rw [at_lo (j + 1) hj] at hb; exact h j a b ha hb
  · by_cases hj2 : j + 1 = p
    · rw [at_lo j (by omega)] at ha; rw [hj2, at_p] at hb
      cases hb
      exact h1 a (by omega) (by rw [show p - 1 = j by omega]; exact ha)
    · by_cases hj3 : j = p
      · subst hj3
        rw [at_p] at ha; rw [at_hi (j + 1) (by omega), Nat.add_sub_cancel] at hb
        cases ha
        have hlt : j < S.length := (List.getElem?_eq_some_iff.1 hb).1
        exact has _ _ (h2 b hlt hb)
      · rw [at_hi j (by omega)] at ha; rw [at_hi (j + 1) (by omega)] at hb
        exact h (j - 1) a b ha (by rw [show j - 1 + 1 = j + 1 - 1 by omega]; exact hb)
theorem nbr_ord {lt : Int → Int → Bool} (has : ∀ a b, lt a b = true → lt b a = false) : ∀ k, nbr lt (ordL lt k)
  | 0 => fun j a b h => by simp [ordL] at h
  | k + 1 => nbr_ins has (nbr_ord has k)
theorem ltE_asym (xs : List Ent) (a b : Int) (h : ltE xs a b = true) : ltE xs b a = false := by
  unfold ltE at *
  have := cmpE_anti (atE xs a) (atE xs b)
  rw [decide_eq_true_eq] at h
  rw [decide_eq_false_iff_not]; omega
theorem ord_nbr (xs : List Ent) {j : Nat} (h : j + 1 < (ordL (ltE xs) xs.length).length) : cmpE (atE xs ((ordL (ltE xs) xs.length)[j]'(by omega))) (atE xs (ordL (ltE xs) xs.length)[j + 1]) ≤ 0 := by
  have := nbr_ord (ltE_asym xs) xs.length j _ _ (List.getElem?_eq_getElem (by omega)) (List.getElem?_eq_getElem h)
  have hanti := cmpE_anti (atE xs ((ordL (ltE xs) xs.length)[j]'(by omega))) (atE xs (ordL (ltE xs) xs.length)[j + 1])
  generalize (ordL (ltE xs) xs.length)[j]'(by omega) = a at this hanti ⊢
  generalize (ordL (ltE xs) xs.length)[j + 1] = b at this hanti ⊢
  unfold ltE at this
  rw [decide_eq_false_iff_not] at this
  omega
/-- Kept ones do not bar each other; each other one is barred by a kept one. -/
theorem clrL_law {P : Int → Int → Bool} (hs : ∀ a b, P a b = P b a) (O : List Int) : (∀ a ∈ clrL P O, ∀ b ∈ clrL P O, a ≠ b → P a b = false) ∧ (∀ a ∈ O, a ∉ clrL P O → ∃ k ∈ clrL P O, P k a = true) := by
  suffices ∀ n (O : List Int), O.length = n → (∀ a ∈ clrL P O, ∀ b ∈ clrL P O, a ≠ b → P a b = false) ∧ (∀ a ∈ O, a ∉ clrL P O → ∃ k ∈ clrL P O, P k a = true) from this _ O rfl
  intro n
  induction n with
  | zero =>
    intro O h
    obtain rfl := List.eq_nil_of_length_eq_zero h
    exact ⟨fun a h => by simp [clrL_nil] at h, fun a h => by simp at h⟩
  | succ n ih =>
    intro O h
    obtain ⟨T, i, rfl⟩ : ∃ T i, O = T ++ [i] := ⟨O.dropLast, O.getLast (by intro e; rw [e] at h; simp at h), (List.dropLast_concat_getLast _).symm⟩
    obtain ⟨h1, h2⟩ := ih T (by simpa using h)
    rw [clrL_snoc]
    cases hq : (clrL P T).any (fun k => P k i)
    · rw [if_neg (by decide)]
      rw [List.any_eq_false] at hq
      refine ⟨fun a ha b hb hab => ?_, fun a ha hn => ?_⟩
      · rw [List.mem_append, List.mem_singleton] at ha hb
        rcases ha with ha | rfl
        · rcases hb with hb | rfl
          · exact h1 a ha b hb hab
          · simpa using hq a ha
        · rcases hb with hb | rfl
          · rw [hs]; simpa using hq b hb
          · exact absurd rfl hab
      · rw [List.mem_append, List.mem_singleton] at ha hn
        rcases ha with ha | rfl
        · obtain ⟨k, hk, hp⟩ := h2 a ha (fun h => hn (.inl h))
          exact ⟨k, List.mem_append_left _ hk, hp⟩
        · exact absurd (.inr rfl) hn
    · rw [if_pos rfl]
      refine ⟨h1, fun a ha hn => ?_⟩
      rw [List.mem_append, List.mem_singleton] at ha
      rcases ha with ha | rfl
      · exact h2 a ha hn
      · obtain ⟨k, hk, hp⟩ := List.any_eq_true.1 hq
        exact ⟨k, hk, hp⟩
theorem wTo_mem (xs : List Ent) (p : Ent → Bool) (v : Int) : ∀ n, n ≤ xs.length → (v ∈ wTo xs p n ↔ ∃ k, k < n ∧ v = (k : Int) ∧ p (atE xs k) = true)
  | 0, _ => by simp [wTo]
  | n + 1, hn => by
    rw [wTo_at (by omega), ← atE_eq (show n < xs.length by omega)]
    have ih := wTo_mem xs p v n (by omega)
    constructor
    · intro h
      have : v ∈ wTo xs p n ∨ (v = (n : Int) ∧ p (atE xs n) = true) := by
        split at h
        · rcases List.mem_append.1 h with h | h
          · exact .inl h
          · exact .inr ⟨by simpa using h, by assumption⟩
        · exact .inl h
      rcases this with h | ⟨h, hp⟩
      · obtain ⟨k, a, b, c⟩ := ih.1 h; exact ⟨k, by omega, b, c⟩
      · exact ⟨n, by omega, h, hp⟩
    · rintro ⟨k, hk, rfl, hp⟩
      by_cases e : k = n
      · subst e; rw [if_pos hp]; exact List.mem_append_right _ (by simp)
      · have := ih.2 ⟨k, by omega, rfl, hp⟩
        split
        · exact List.mem_append_left _ this
        · exact this
theorem refTo_mem {K : List Int} {n : Nat} (h : ∀ v ∈ K, 0 ≤ v ∧ v < (n : Int)) (v : Int) : v ∈ refTo K n ↔ v ∈ K := by
  unfold refTo
  rw [List.mem_filter, upL_mem, inB'_iff]
  exact ⟨fun h => h.2, fun hv => ⟨h v hv, hv⟩⟩
/-- Whether an index other than i of a list is one of another list. -/
def metB (H C : List Int) (i : Int) : Bool := H.any (fun v => !(v == i) && inB' C v)
theorem clr_met {xs : List Ent} {d : Int} (hz : codeE xs true d = 0) {i : Nat} (hi : i < xs.length) : inB' (clV xs d) i = !(metB (rowE xs xs[i] d (pAll xs[i] d)) (clV xs d) i) := by
  obtain ⟨hx, hl, _, hd0, hd1⟩ := codeE_zero hz
  have hei : entB xs[i] = true := hx _ (List.getElem_mem hi)
  have hr : rowE xs xs[i] d (pAll xs[i] d) = wTo xs (pAll xs[i] d) xs.length := by
    unfold rowE; rw [hei, if_pos hz]; rfl
  have hc : clV xs d = refTo (keptL xs d) xs.length := by unfold clV; rw [if_pos hz]
  have hO : ∀ v ∈ ordL (ltE xs) xs.length, 0 ≤ v ∧ v < (xs.length : Int) := ordL_in _ _
  have hK : ∀ v ∈ keptL xs d, 0 ≤ v ∧ v < (xs.length : Int) := fun v hv => hO v ((clrL_sub _ _).subset hv)
  obtain ⟨l1, l2⟩ := clrL_law (P := cP xs d) (fun a b => by unfold cP; exact homB_comm _ _ _) (ordL (ltE xs) xs.length)
  have hiO : (i : Int) ∈ ordL (ltE xs) xs.length := (ordL_perm (ltE xs) xs.length).mem_iff.2 (upL_mem.2 ⟨by omega, by omega⟩)
  have hmem : ∀ v, inB' (clV xs d) v = true ↔ v ∈ keptL xs d := fun v => by rw [inB'_iff, hc, refTo_mem hK]
  cases hm : metB (rowE xs xs[i] d (pAll xs[i] d)) (clV xs d) i
  · rw [Bool.not_false, hmem]
    refine Decidable.byContradiction fun hn => ?_
    obtain ⟨k, hk, hp⟩ := l2 i hiO hn
    have hki : k ≠ (i : Int) := fun e => hn (by rw [← e]; exact hk)
    have hkb := hK k hk
    obtain ⟨m, rfl⟩ : ∃ m : Nat, k = m := ⟨k.toNat, by omega⟩
    have : metB (rowE xs xs[i] d (pAll xs[i] d)) (clV xs d) i = true := by
      unfold metB
      rw [List.any_eq_true]
      refine ⟨m, ?_, ?_⟩
      · rw [hr, wTo_mem xs _ _ _ (Nat.le_refl _)]
        refine ⟨m, by omega, rfl, ?_⟩
        unfold pAll
        rw [Bool.and_true, homB_comm, ← atE_eq hi]; exact hp
      · rw [Bool.and_eq_true, hmem]
        exact ⟨by simpa using hki, hk⟩
    rw [hm] at this; cases this
  · rw [Bool.not_true]
    unfold metB at hm
    obtain ⟨v, hv, hb⟩ := List.any_eq_true.1 hm
    rw [Bool.and_eq_true, hmem] at hb
    rw [hr, wTo_mem xs _ _ _ (Nat.le_refl _)] at hv
    obtain ⟨m, hm2, rfl, hp⟩ := hv
    unfold pAll at hp
    rw [Bool.and_true, homB_comm, ← atE_eq hi] at hp
    cases hin : inB' (clV xs d) i
    · rfl
    · have := l1 _ hb.2 _ ((hmem _).1 hin) (by simpa using hb.1)
      unfold cP at this
      rw [this] at hp; cases hp
theorem metB_take (H C : List Int) (i : Int) {k : Nat} (h : k < H.length) : metB (H.take (k + 1)) C i = (metB (H.take k) C i || (!(H[k] == i) && inB' C H[k])) := by
  unfold metB
  rw [List.take_succ_eq_append_getElem h, List.any_append]; simp
end Go.Proofs.YtihhpmhigmegjaaGreatDoor
namespace Go.Proofs.YtihhpmhigmegjaaGreatDoor
open Go.ChangeShapes Go.WideShapes Go.ChangeAt Go.RowKit Go.Sort

theorem inC_num (L : List Int) (k : Nat) (h : k < L.length) : (inC L)[k]? = some (.int .i64 L[k]) := by simp [inC, h]
set_option maxRecDepth 100000 in
theorem likeInts_same (L : List Int) (hm : L.length ≤ 1048576) (A A' : Option Addr) (c c' : Nat) (w : World) (hr : Reads w w.heap.size 1 A L.length (inC L)) (hr' : Reads w w.heap.size 1 A' L.length (inC L)) :
    Calls Tryz.prog 19 #[.slice A L.length c, .slice A' L.length c'] w fun e w' => e = .returned (.bool true) ∧ Below w.heap.size w w' := by
  have HR := Lib.hid hr; have HR' := Lib.hid hr'; clear hr hr'
  go_enter Tryz.func19, Tryz.ntmps19
  go_wp2_with fail
  go_loopw [5] (fun v5 wr => ∃ k : Nat, k ≤ L.length ∧ Hid (Below w.heap.size w wr) ∧ v5 = .int .i64 k) (fun i _ => L.length - (intOf i).toNat)
  case atStart => exact ⟨0, by omega, Below.refl _ _, rfl⟩
  case round =>
    obtain ⟨k, hk, BW, rfl⟩ := hrel
    by_cases hlt : k < L.length
    · obtain ⟨ab, ao, rfl, hadb, hcell⟩ := (HR.out.below BW.out).2 (by omega)
      obtain ⟨ab', ao', rfl, hadb', hcell'⟩ := (HR'.out.below BW.out).2 (by omega)
      have c0 := cell_regrown (hcell _ _ (inC_num L k hlt))
      have c1 := cell_regrown (hcell' _ _ (inC_num L k hlt))
      clear hcell hcell'
      generalize L[k] = x at c0 c1
      go_upto_region 6 with (fail)
      refine wp_region_quiet_below (by kernel_rfl) (by kernel_rfl) ?_; (repeat (first | go_big_quiet_step (fail))); refine wpQuiet_nil ?_; intro _ hw'; obtain ⟨⟨dq, osq⟩, rfl⟩ := hw'
      have B2 := Lib.hid (BW.out.trans ((below_regrown wr dq osq).mono BW.out.size))
      generalize grow (redrawn wr dq) osq = w2 at B2 ⊢
      clear c0 c1
      go_wp2_with fail
      go_roundw
      case rel => exact ⟨k + 1, by omega, B2.out, by go_num⟩
      case measure => simp [intOf]; omega
    · obtain rfl : k = L.length := by omega
      go_wp2_with fail
      go_ret
      exact ⟨rfl, BW.out⟩
theorem inB'_cons (x : Int) (R : List Int) (v : Int) : inB' (x :: R) v = ((x == v) || inB' R v) := rfl
theorem inB'_drop (L : List Int) (v : Int) {k : Nat} (h : k < L.length) : inB' (L.drop k) v = ((L[k] == v) || inB' (L.drop (k + 1)) v) := by rw [List.drop_eq_getElem_cons h, inB'_cons]
set_option maxRecDepth 100000 in
theorem hasInt_any (L : List Int) (v : Int) (hm : L.length ≤ 1048576) (A : Option Addr) (c : Nat) (w : World) (hr : Reads w w.heap.size 1 A L.length (inC L)) :
    Calls Tryz.prog 23 #[.slice A L.length c, .int .i64 v] w fun e w' => e = .returned (.bool (inB' L v)) ∧ Below w.heap.size w w' := by
  have HR := Lib.hid hr; clear hr
  have HD := Lib.hid (fun k (h : k < L.length) => inB'_drop L v h)
  have HE := Lib.hid (show inB' (L.drop L.length) v = false by rw [List.drop_length]; rfl)
  obtain ⟨r, hr⟩ : ∃ r, inB' L v = r := ⟨_, rfl⟩
  have H0 := Lib.hid (show inB' (L.drop 0) v = r from hr)
  rw [hr]
  clear hr
  go_enter Tryz.func23, Tryz.ntmps23
  go_wp2_with fail
  go_loopw [5] (fun v5 wr => ∃ k : Nat, k ≤ L.length ∧ Hid (inB' (L.drop k) v = r) ∧ Hid (Below w.heap.size w wr) ∧ v5 = .int .i64 k) (fun i _ => L.length - (intOf i).toNat)
  case atStart => exact ⟨0, by omega, H0.out, Below.refl _ _, rfl⟩
  case round =>
    obtain ⟨k, hk, HK, BW, rfl⟩ := hrel
    by_cases hlt : k < L.length
    · obtain ⟨ab, ao, rfl, hadb, hcell⟩ := (HR.out.below BW.out).2 (by omega)
      have c0 := hcell _ _ (inC_num L k hlt)
      have HN := Lib.hid ((HD.out k hlt).symm.trans HK.out)
      clear hcell
      generalize L[k] = x at c0 HN
      by_cases hne : x = v
      · have HR1 := Lib.hid (show true = r by have := HN.out; rw [hne] at this; simpa using this)
        subst hne
        go_wp2_with fail
        go_ret
        exact ⟨ret_bool HR1.out, BW.out⟩
      · have HK1 := Lib.hid (show inB' (L.drop (k + 1)) v = r by have := HN.out; rw [show (x == v) = false by simpa using hne, Bool.false_or] at this; exact this)
        clear HN HK
        go_wp2_with fail
        go_roundw
        case rel => exact ⟨k + 1, by omega, HK1.out, BW.out, by go_num⟩
        case measure => simp [intOf]; omega
    · obtain rfl : k = L.length := by omega
      have HR1 := Lib.hid (show false = r from HE.out.symm.trans HK.out)
      clear HK
      go_wp2_with fail
      go_ret
      exact ⟨ret_bool HR1.out, BW.out⟩
set_option maxRecDepth 100000 in
theorem big_any (A : Option Addr) (n c : Nat) (hn : n ≤ 9223372036854775807) (w : World) :
    Calls Tryz.prog 6 #[.slice A n c] w fun e w' => e = .returned (.bool (decide ((4096 : Int) < n))) ∧ w = w' := by
  go_enter Tryz.func6, Tryz.ntmps6
  go_wp2
  go_ret
  exact ⟨rfl, rfl⟩
end Go.Proofs.YtihhpmhigmegjaaGreatDoor
namespace Go.Proofs.YtihhpmhigmegjaaGreatDoor
open Go.ChangeShapes Go.WideShapes Go.ChangeAt Go.RowKit
set_option maxRecDepth 100000 in
set_option maxHeartbeats 2000000 in
theorem homAll_any (p : Ent → Bool) (xs : List Ent) (b : Ent) (dist : Int) (hx : ∀ f ∈ xs, entB f = true) (hb : entB b = true) (hd : 0 ≤ dist ∧ dist ≤ 4000)  (A : Option Addr) (c : Nat) (w : World) (h : HasEnt w xs A) (hm : xs.length ≤ 12)
    (hcl : ∀ f ∈ xs, ∀ W, Below w.heap.size w W → Calls Tryz.prog 75 #[f.val] W fun e w' => e = .returned (.bool (p f)) ∧ Below W.heap.size W w') :
    Calls Tryz.prog 74 #[.slice A xs.length c, b.val, .int .i64 dist, .func (.func 75) #[] #[]] w fun e w' => ∃ v, e = .returned v ∧ w'.ownsRow w.heap.size 2 1 v (whichE xs (fun f => homB b f dist && p f)).length (inC (whichE xs (fun f => homB b f dist && p f))) ∧ Below w.heap.size w w' := by
  obtain ⟨i0, hi0, hz0, hz1, hz2⟩ := info_parts infoInt
  have H := Lib.hid h; clear h
  have HX := Lib.hid hx; clear hx
  have HCl := Lib.hid hcl; clear hcl
  have HB := Lib.hid hb; clear hb
  have KN := Lib.hid (blks_one w 45 #[.string b.text, .int .i64 b.x, .int .i64 b.y, .int .i64 b.since])
  have HHm := Lib.hid (fun f hf => implHom_any b f HB.out hf dist hd)
  have HL := Lib.hid (show whichE xs (fun f => homB b f dist && p f) = wTo xs (fun f => homB b f dist && p f) xs.length from rfl)
  generalize whichE xs (fun f => homB b f dist && p f) = LL at HL ⊢
  unfold Ent.val at HHm HCl ⊢
  go_enter Tryz.func74, Tryz.ntmps74
  go_upto_region 2 with (fail)
  generalize hW : w.alloc (.cells #[.string b.text, .int .i64 b.x, .int .i64 b.y, .int .i64 b.since] 45) = W
  obtain ⟨kb, bw, hsz⟩ := KN.out W hW.symm
  clear hW hsz
  have KB := Lib.hid kb; have BW0 := Lib.hid bw; have LB := Lib.hid kb.lt; clear kb bw
  go_wp2_with fail
  go_loopw [9, 14] (fun v9 v14 wr => ∃ (k n : Nat) (B : Option Addr) (d : Nat), k ≤ xs.length ∧ n ≤ k ∧ Hid ((wTo xs (fun f => homB b f dist && p f) k).length = n) ∧ v9 = .slice B n d ∧ Hid (wr.ownsRow W.heap.size 2 1 (.slice B n d) n (inC (wTo xs (fun f => homB b f dist && p f) k))) ∧ Hid (Below W.heap.size W wr) ∧ v14 = .int .i64 k) (fun _ i _ => xs.length - (intOf i).toNat)
  case atStart => exact ⟨0, 0, none, 0, by omega, by omega, rfl, rfl, World.ownsRow_nil _ _ _ _, Below.refl _ _, rfl⟩
  case round =>
    obtain ⟨k, n, B, d, hk, hnk, HN, rfl, HO, BW, rfl⟩ := hrel
    by_cases hlt : k < xs.length
    · obtain ⟨ab, ao, rfl, hadb, hcell⟩ := (H.out.below (BW0.out.trans (BW.out.mono BW0.out.size))).1.2 (by omega)
      obtain ⟨e0, e1, e2, e3⟩ := enC_get xs k hlt
      have c0 := hcell _ _ e0
      have c1 := hcell _ _ e1
      have c2 := hcell _ _ e2
      have c3 := hcell _ _ e3
      rw [← Nat.add_assoc] at c1 c2 c3
      clear hcell e0 e1 e2 e3
      have HW1 := Lib.hid (wTo_at (xs := xs) (p := fun f => homB b f dist && p f) hlt)
      have HH1 := Lib.hid (HHm.out xs[k] (HX.out _ (List.getElem_mem hlt)))
      have HC1 := Lib.hid (HCl.out xs[k] (List.getElem_mem hlt))
      have T3 := Lib.hid (blks_one wr 45 #[.string xs[k].text, .int .i64 xs[k].x, .int .i64 xs[k].y, .int .i64 xs[k].since])
      generalize xs[k] = f at c0 c1 c2 c3 HW1 HH1 HC1 T3
      obtain ⟨x0, x1, x2, x3⟩ := cells_4 (KB.out.below BW.out LB.out)
      go_upto_region 5 with (fail)
      generalize hW2 : wr.alloc (.cells #[.string f.text, .int .i64 f.x, .int .i64 f.y, .int .i64 f.since] 45) = W2
      obtain ⟨kf, bf, hsz⟩ := T3.out W2 hW2.symm
      clear hW2 hsz c0 c1 c2 c3 x0 x1 x2 x3
      have BF := Lib.hid (BW.out.trans (bf.mono BW.out.size))
      have OF := Lib.hid (own_below HO.out bf)
      obtain ⟨x0, x1, x2, x3⟩ := cells_4 (KB.out.below BF.out LB.out)
      obtain ⟨y0, y1, y2, y3⟩ := cells_4 kf
      have KF := Lib.hid kf; clear kf bf
      cases q1 : homB b f dist
      · have HL1 := Lib.hid (show wTo xs (fun f => homB b f dist && p f) (k + 1) = wTo xs (fun f => homB b f dist && p f) k by rw [HW1.out, q1]; rfl)
        rw [q1] at HH1
        clear q1
        go_wp2_with fail
        refine (HH1.out _).mono ?_; rintro e w1 ⟨rfl, b1⟩
        go_wp2_with fail
        go_roundw
        case rel => exact ⟨k + 1, n, B, d, by omega, by omega, by rw [HL1.out]; exact HN.out, rfl, by rw [HL1.out]; exact own_below OF.out b1, BF.out.trans (b1.mono BF.out.size), by go_num⟩
        case measure => simp [intOf]; omega
      · cases q2 : p f
        · have HL1 := Lib.hid (show wTo xs (fun f => homB b f dist && p f) (k + 1) = wTo xs (fun f => homB b f dist && p f) k by rw [HW1.out, q1, q2]; rfl)
          rw [q1] at HH1
          rw [q2] at HC1
          clear q1 q2
          go_wp2_with fail
          refine (HH1.out _).mono ?_; rintro e w1 ⟨rfl, b1⟩
          have B1 := Lib.hid (BF.out.trans (b1.mono BF.out.size)); have O1 := Lib.hid (own_below OF.out b1)
          obtain ⟨y0, y1, y2, y3⟩ := cells_4 (KF.out.below b1 KF.out.lt)
          clear b1
          go_wp2_with fail
          refine (HC1.out w1 (BW0.out.trans (B1.out.mono BW0.out.size))).mono ?_; rintro e w2 ⟨rfl, b2⟩
          go_wp2_with fail
          go_roundw
          case rel => exact ⟨k + 1, n, B, d, by omega, by omega, by rw [HL1.out]; exact HN.out, rfl, by rw [HL1.out]; exact own_below O1.out b2, B1.out.trans (b2.mono B1.out.size), by go_num⟩
          case measure => simp [intOf]; omega
        · have HL1 := Lib.hid (show wTo xs (fun f => homB b f dist && p f) (k + 1) = wTo xs (fun f => homB b f dist && p f) k ++ [(k : Int)] by rw [HW1.out, q1, q2]; rfl)
          rw [q1] at HH1
          rw [q2] at HC1
          clear q1 q2
          go_wp2_with fail
          refine (HH1.out _).mono ?_; rintro e w1 ⟨rfl, b1⟩
          have B1 := Lib.hid (BF.out.trans (b1.mono BF.out.size)); have O1 := Lib.hid (own_below OF.out b1)
          obtain ⟨y0, y1, y2, y3⟩ := cells_4 (KF.out.below b1 KF.out.lt)
          clear b1
          go_wp2_with fail
          refine (HC1.out w1 (BW0.out.trans (B1.out.mono BW0.out.size))).mono ?_; rintro e w2 ⟨rfl, b2⟩
          have B2 := Lib.hid (B1.out.trans (b2.mono B1.out.size)); have O2 := Lib.hid (own_below O1.out b2)
          clear b2
          go_wp2_with (at_builtin; refine wpList_append_any _ rfl (.tmp 28) (.tmp 30) _ rfl W.heap.size 2 i0 _ 1 8 Tryz.underlying31 hi0 hz0 hz1 hz2 rfl (by omega) (.slice B n d) n (inC (wTo xs (fun f => homB b f dist && p f) k)) rfl (O2.out.alloc _) _ (some ⟨w2.heap.size, 0, none⟩) 1 1 [.int .i64 k] rfl (new_in1 _ _ _) (by simp [Value.oneCell']) (by simp only [maxLen]; omega) (by omega) (by have := B2.out.size; simp; omega) ?_; intro v4 w4 hown4 hg4 hat4; obtain ⟨B4, d4, rfl, _⟩ := own_shape hown4)
          go_roundw
          case rel => exact ⟨k + 1, n + 1, B4, d4, by omega, by omega, by have := HN.out; rw [HL1.out]; simp [Hid, this], rfl, by rw [HL1.out, inC_snoc]; exact hown4, below_own (B2.out.alloc B2.out.size _) (O2.out.alloc _) hg4 (Nat.le_refl _) (by have := B2.out.size; simp; omega), by go_num⟩
          case measure => simp [intOf]; omega
    · obtain rfl : k = xs.length := by omega
      have HN' := HN.out
      go_wp2_with fail
      go_ret
      exact ⟨_, rfl, by rw [HL.out, HN']; exact own_mono HO.out BW0.out.size, BW0.out.trans (BW.out.mono BW0.out.size)⟩
end Go.Proofs.YtihhpmhigmegjaaGreatDoor
namespace Go.Proofs.YtihhpmhigmegjaaGreatDoor
open Go.ChangeShapes Go.WideShapes Go.ChangeAt Go.RowKit
set_option maxRecDepth 100000 in
set_option maxHeartbeats 2000000 in
theorem homBar_any (p : Ent → Bool) (xs : List Ent) (b : Ent) (dist : Int) (hx : ∀ f ∈ xs, entB f = true) (hb : entB b = true) (hd : 0 ≤ dist ∧ dist ≤ 4000) (g : Nat) (A : Option Addr) (c : Nat) (w : World) (h : HasEnt w xs A) (hm : xs.length ≤ 12)
    (hcl : ∀ f ∈ xs, ∀ W, Below w.heap.size w W → Calls Tryz.prog 135 #[f.val, .pointer (some ⟨g, 0, none⟩)] W fun e w' => e = .returned (.bool (p f)) ∧ Below W.heap.size W w') :
    Calls Tryz.prog 74 #[.slice A xs.length c, b.val, .int .i64 dist, .func (.func 135) #[] #[.pointer (some ⟨g, 0, none⟩)]] w fun e w' => ∃ v, e = .returned v ∧ w'.ownsRow w.heap.size 2 1 v (whichE xs (fun f => homB b f dist && p f)).length (inC (whichE xs (fun f => homB b f dist && p f))) ∧ Below w.heap.size w w' := by
  obtain ⟨i0, hi0, hz0, hz1, hz2⟩ := info_parts infoInt
  have H := Lib.hid h; clear h
  have HX := Lib.hid hx; clear hx
  have HCl := Lib.hid hcl; clear hcl
  have HB := Lib.hid hb; clear hb
  have KN := Lib.hid (blks_one w 45 #[.string b.text, .int .i64 b.x, .int .i64 b.y, .int .i64 b.since])
  have HHm := Lib.hid (fun f hf => implHom_any b f HB.out hf dist hd)
  have HL := Lib.hid (show whichE xs (fun f => homB b f dist && p f) = wTo xs (fun f => homB b f dist && p f) xs.length from rfl)
  generalize whichE xs (fun f => homB b f dist && p f) = LL at HL ⊢
  unfold Ent.val at HHm HCl ⊢
  go_enter Tryz.func74, Tryz.ntmps74
  go_upto_region 2 with (fail)
  generalize hW : w.alloc (.cells #[.string b.text, .int .i64 b.x, .int .i64 b.y, .int .i64 b.since] 45) = W
  obtain ⟨kb, bw, hsz⟩ := KN.out W hW.symm
  clear hW hsz
  have KB := Lib.hid kb; have BW0 := Lib.hid bw; have LB := Lib.hid kb.lt; clear kb bw
  go_wp2_with fail
  go_loopw [9, 14] (fun v9 v14 wr => ∃ (k n : Nat) (B : Option Addr) (d : Nat), k ≤ xs.length ∧ n ≤ k ∧ Hid ((wTo xs (fun f => homB b f dist && p f) k).length = n) ∧ v9 = .slice B n d ∧ Hid (wr.ownsRow W.heap.size 2 1 (.slice B n d) n (inC (wTo xs (fun f => homB b f dist && p f) k))) ∧ Hid (Below W.heap.size W wr) ∧ v14 = .int .i64 k) (fun _ i _ => xs.length - (intOf i).toNat)
  case atStart => exact ⟨0, 0, none, 0, by omega, by omega, rfl, rfl, World.ownsRow_nil _ _ _ _, Below.refl _ _, rfl⟩
  case round =>
    obtain ⟨k, n, B, d, hk, hnk, HN, rfl, HO, BW, rfl⟩ := hrel
    by_cases hlt : k < xs.length
    · obtain ⟨ab, ao, rfl, hadb, hcell⟩ := (H.out.below (BW0.out.trans (BW.out.mono BW0.out.size))).1.2 (by omega)
      obtain ⟨e0, e1, e2, e3⟩ := enC_get xs k hlt
      have c0 := hcell _ _ e0
      have c1 := hcell _ _ e1
      have c2 := hcell _ _ e2
      have c3 := hcell _ _ e3
      rw [← Nat.add_assoc] at c1 c2 c3
      clear hcell e0 e1 e2 e3
      have HW1 := Lib.hid (wTo_at (xs := xs) (p := fun f => homB b f dist && p f) hlt)
      have HH1 := Lib.hid (HHm.out xs[k] (HX.out _ (List.getElem_mem hlt)))
      have HC1 := Lib.hid (HCl.out xs[k] (List.getElem_mem hlt))
      have T3 := Lib.hid (blks_one wr 45 #[.string xs[k].text, .int .i64 xs[k].x, .int .i64 xs[k].y, .int .i64 xs[k].since])
      generalize xs[k] = f at c0 c1 c2 c3 HW1 HH1 HC1 T3
      obtain ⟨x0, x1, x2, x3⟩ := cells_4 (KB.out.below BW.out LB.out)
      go_upto_region 5 with (fail)
      generalize hW2 : wr.alloc (.cells #[.string f.text, .int .i64 f.x, .int .i64 f.y, .int .i64 f.since] 45) = W2
      obtain ⟨kf, bf, hsz⟩ := T3.out W2 hW2.symm
      clear hW2 hsz c0 c1 c2 c3 x0 x1 x2 x3
      have BF := Lib.hid (BW.out.trans (bf.mono BW.out.size))
      have OF := Lib.hid (own_below HO.out bf)
      obtain ⟨x0, x1, x2, x3⟩ := cells_4 (KB.out.below BF.out LB.out)
      obtain ⟨y0, y1, y2, y3⟩ := cells_4 kf
      have KF := Lib.hid kf; clear kf bf
      cases q1 : homB b f dist
      · have HL1 := Lib.hid (show wTo xs (fun f => homB b f dist && p f) (k + 1) = wTo xs (fun f => homB b f dist && p f) k by rw [HW1.out, q1]; rfl)
        rw [q1] at HH1
        clear q1
        go_wp2_with fail
        refine (HH1.out _).mono ?_; rintro e w1 ⟨rfl, b1⟩
        go_wp2_with fail
        go_roundw
        case rel => exact ⟨k + 1, n, B, d, by omega, by omega, by rw [HL1.out]; exact HN.out, rfl, by rw [HL1.out]; exact own_below OF.out b1, BF.out.trans (b1.mono BF.out.size), by go_num⟩
        case measure => simp [intOf]; omega
      · cases q2 : p f
        · have HL1 := Lib.hid (show wTo xs (fun f => homB b f dist && p f) (k + 1) = wTo xs (fun f => homB b f dist && p f) k by rw [HW1.out, q1, q2]; rfl)
          rw [q1] at HH1
          rw [q2] at HC1
          clear q1 q2
          go_wp2_with fail
          refine (HH1.out _).mono ?_; rintro e w1 ⟨rfl, b1⟩
          have B1 := Lib.hid (BF.out.trans (b1.mono BF.out.size)); have O1 := Lib.hid (own_below OF.out b1)
          obtain ⟨y0, y1, y2, y3⟩ := cells_4 (KF.out.below b1 KF.out.lt)
          clear b1
          go_wp2_with fail
          refine (HC1.out w1 (BW0.out.trans (B1.out.mono BW0.out.size))).mono ?_; rintro e w2 ⟨rfl, b2⟩
          go_wp2_with fail
          go_roundw
          case rel => exact ⟨k + 1, n, B, d, by omega, by omega, by rw [HL1.out]; exact HN.out, rfl, by rw [HL1.out]; exact own_below O1.out b2, B1.out.trans (b2.mono B1.out.size), by go_num⟩
          case measure => simp [intOf]; omega
        · have HL1 := Lib.hid (show wTo xs (fun f => homB b f dist && p f) (k + 1) = wTo xs (fun f => homB b f dist && p f) k ++ [(k : Int)] by rw [HW1.out, q1, q2]; rfl)
          rw [q1] at HH1
          rw [q2] at HC1
          clear q1 q2
          go_wp2_with fail
          refine (HH1.out _).mono ?_; rintro e w1 ⟨rfl, b1⟩
          have B1 := Lib.hid (BF.out.trans (b1.mono BF.out.size)); have O1 := Lib.hid (own_below OF.out b1)
          obtain ⟨y0, y1, y2, y3⟩ := cells_4 (KF.out.below b1 KF.out.lt)
          clear b1
          go_wp2_with fail
          refine (HC1.out w1 (BW0.out.trans (B1.out.mono BW0.out.size))).mono ?_; rintro e w2 ⟨rfl, b2⟩
          have B2 := Lib.hid (B1.out.trans (b2.mono B1.out.size)); have O2 := Lib.hid (own_below O1.out b2)
          clear b2
          go_wp2_with (at_builtin; refine wpList_append_any _ rfl (.tmp 28) (.tmp 30) _ rfl W.heap.size 2 i0 _ 1 8 Tryz.underlying31 hi0 hz0 hz1 hz2 rfl (by omega) (.slice B n d) n (inC (wTo xs (fun f => homB b f dist && p f) k)) rfl (O2.out.alloc _) _ (some ⟨w2.heap.size, 0, none⟩) 1 1 [.int .i64 k] rfl (new_in1 _ _ _) (by simp [Value.oneCell']) (by simp only [maxLen]; omega) (by omega) (by have := B2.out.size; simp; omega) ?_; intro v4 w4 hown4 hg4 hat4; obtain ⟨B4, d4, rfl, _⟩ := own_shape hown4)
          go_roundw
          case rel => exact ⟨k + 1, n + 1, B4, d4, by omega, by omega, by have := HN.out; rw [HL1.out]; simp [Hid, this], rfl, by rw [HL1.out, inC_snoc]; exact hown4, below_own (B2.out.alloc B2.out.size _) (O2.out.alloc _) hg4 (Nat.le_refl _) (by have := B2.out.size; simp; omega), by go_num⟩
          case measure => simp [intOf]; omega
    · obtain rfl : k = xs.length := by omega
      have HN' := HN.out
      go_wp2_with fail
      go_ret
      exact ⟨_, rfl, by rw [HL.out, HN']; exact own_mono HO.out BW0.out.size, BW0.out.trans (BW.out.mono BW0.out.size)⟩
end Go.Proofs.YtihhpmhigmegjaaGreatDoor
namespace Go.Proofs.YtihhpmhigmegjaaGreatDoor
open Go.ChangeShapes Go.WideShapes Go.ChangeAt Go.RowKit
set_option maxRecDepth 100000 in
set_option maxHeartbeats 2000000 in
theorem homDis_any (p : Ent → Bool) (xs : List Ent) (b : Ent) (dist : Int) (hx : ∀ f ∈ xs, entB f = true) (hb : entB b = true) (hd : 0 ≤ dist ∧ dist ≤ 4000) (g : Nat) (A : Option Addr) (c : Nat) (w : World) (h : HasEnt w xs A) (hm : xs.length ≤ 12)
    (hcl : ∀ f ∈ xs, ∀ W, Below w.heap.size w W → Calls Tryz.prog 80 #[f.val, .pointer (some ⟨g, 0, none⟩)] W fun e w' => e = .returned (.bool (p f)) ∧ Below W.heap.size W w') :
    Calls Tryz.prog 74 #[.slice A xs.length c, b.val, .int .i64 dist, .func (.func 80) #[] #[.pointer (some ⟨g, 0, none⟩)]] w fun e w' => ∃ v, e = .returned v ∧ w'.ownsRow w.heap.size 2 1 v (whichE xs (fun f => homB b f dist && p f)).length (inC (whichE xs (fun f => homB b f dist && p f))) ∧ Below w.heap.size w w' := by
  obtain ⟨i0, hi0, hz0, hz1, hz2⟩ := info_parts infoInt
  have H := Lib.hid h; clear h
  have HX := Lib.hid hx; clear hx
  have HCl := Lib.hid hcl; clear hcl
  have HB := Lib.hid hb; clear hb
  have KN := Lib.hid (blks_one w 45 #[.string b.text, .int .i64 b.x, .int .i64 b.y, .int .i64 b.since])
  have HHm := Lib.hid (fun f hf => implHom_any b f HB.out hf dist hd)
  have HL := Lib.hid (show whichE xs (fun f => homB b f dist && p f) = wTo xs (fun f => homB b f dist && p f) xs.length from rfl)
  generalize whichE xs (fun f => homB b f dist && p f) = LL at HL ⊢
  unfold Ent.val at HHm HCl ⊢
  go_enter Tryz.func74, Tryz.ntmps74
  go_upto_region 2 with (fail)
  generalize hW : w.alloc (.cells #[.string b.text, .int .i64 b.x, .int .i64 b.y, .int .i64 b.since] 45) = W
  obtain ⟨kb, bw, hsz⟩ := KN.out W hW.symm
  clear hW hsz
  have KB := Lib.hid kb; have BW0 := Lib.hid bw; have LB := Lib.hid kb.lt; clear kb bw
  go_wp2_with fail
  go_loopw [9, 14] (fun v9 v14 wr => ∃ (k n : Nat) (B : Option Addr) (d : Nat), k ≤ xs.length ∧ n ≤ k ∧ Hid ((wTo xs (fun f => homB b f dist && p f) k).length = n) ∧ v9 = .slice B n d ∧ Hid (wr.ownsRow W.heap.size 2 1 (.slice B n d) n (inC (wTo xs (fun f => homB b f dist && p f) k))) ∧ Hid (Below W.heap.size W wr) ∧ v14 = .int .i64 k) (fun _ i _ => xs.length - (intOf i).toNat)
  case atStart => exact ⟨0, 0, none, 0, by omega, by omega, rfl, rfl, World.ownsRow_nil _ _ _ _, Below.refl _ _, rfl⟩
  case round =>
    obtain ⟨k, n, B, d, hk, hnk, HN, rfl, HO, BW, rfl⟩ := hrel
    by_cases hlt : k < xs.length
    · obtain ⟨ab, ao, rfl, hadb, hcell⟩ := (H.out.below (BW0.out.trans (BW.out.mono BW0.out.size))).1.2 (by omega)
      obtain ⟨e0, e1, e2, e3⟩ := enC_get xs k hlt
      have c0 := hcell _ _ e0
      have c1 := hcell _ _ e1
      have c2 := hcell _ _ e2
      have c3 := hcell _ _ e3
      rw [← Nat.add_assoc] at c1 c2 c3
      clear hcell e0 e1 e2 e3
      have HW1 := Lib.hid (wTo_at (xs := xs) (p := fun f => homB b f dist && p f) hlt)
      have HH1 := Lib.hid (HHm.out xs[k] (HX.out _ (List.getElem_mem hlt)))
      have HC1 := Lib.hid (HCl.out xs[k] (List.getElem_mem hlt))
      have T3 := Lib.hid (blks_one wr 45 #[.string xs[k].text, .int .i64 xs[k].x, .int .i64 xs[k].y, .int .i64 xs[k].since])
      generalize xs[k] = f at c0 c1 c2 c3 HW1 HH1 HC1 T3
      obtain ⟨x0, x1, x2, x3⟩ := cells_4 (KB.out.below BW.out LB.out)
      go_upto_region 5 with (fail)
      generalize hW2 : wr.alloc (.cells #[.string f.text, .int .i64 f.x, .int .i64 f.y, .int .i64 f.since] 45) = W2
      obtain ⟨kf, bf, hsz⟩ := T3.out W2 hW2.symm
      clear hW2 hsz c0 c1 c2 c3 x0 x1 x2 x3
      have BF := Lib.hid (BW.out.trans (bf.mono BW.out.size))
      have OF := Lib.hid (own_below HO.out bf)
      obtain ⟨x0, x1, x2, x3⟩ := cells_4 (KB.out.below BF.out LB.out)
      obtain ⟨y0, y1, y2, y3⟩ := cells_4 kf
      have KF := Lib.hid kf; clear kf bf
      cases q1 : homB b f dist
      · have HL1 := Lib.hid (show wTo xs (fun f => homB b f dist && p f) (k + 1) = wTo xs (fun f => homB b f dist && p f) k by rw [HW1.out, q1]; rfl)
        rw [q1] at HH1
        clear q1
        go_wp2_with fail
        refine (HH1.out _).mono ?_; rintro e w1 ⟨rfl, b1⟩
        go_wp2_with fail
        go_roundw
        case rel => exact ⟨k + 1, n, B, d, by omega, by omega, by rw [HL1.out]; exact HN.out, rfl, by rw [HL1.out]; exact own_below OF.out b1, BF.out.trans (b1.mono BF.out.size), by go_num⟩
        case measure => simp [intOf]; omega
      · cases q2 : p f
        · have HL1 := Lib.hid (show wTo xs (fun f => homB b f dist && p f) (k + 1) = wTo xs (fun f => homB b f dist && p f) k by rw [HW1.out, q1, q2]; rfl)
          rw [q1] at HH1
          rw [q2] at HC1
          clear q1 q2
          go_wp2_with fail
          refine (HH1.out _).mono ?_; rintro e w1 ⟨rfl, b1⟩
          have B1 := Lib.hid (BF.out.trans (b1.mono BF.out.size)); have O1 := Lib.hid (own_below OF.out b1)
          obtain ⟨y0, y1, y2, y3⟩ := cells_4 (KF.out.below b1 KF.out.lt)
          clear b1
          go_wp2_with fail
          refine (HC1.out w1 (BW0.out.trans (B1.out.mono BW0.out.size))).mono ?_; rintro e w2 ⟨rfl, b2⟩
          go_wp2_with fail
          go_roundw
          case rel => exact ⟨k + 1, n, B, d, by omega, by omega, by rw [HL1.out]; exact HN.out, rfl, by rw [HL1.out]; exact own_below O1.out b2, B1.out.trans (b2.mono B1.out.size), by go_num⟩
          case measure => simp [intOf]; omega
        · have HL1 := Lib.hid (show wTo xs (fun f => homB b f dist && p f) (k + 1) = wTo xs (fun f => homB b f dist && p f) k ++ [(k : Int)] by rw [HW1.out, q1, q2]; rfl)
          rw [q1] at HH1
          rw [q2] at HC1
          clear q1 q2
          go_wp2_with fail
          refine (HH1.out _).mono ?_; rintro e w1 ⟨rfl, b1⟩
          have B1 := Lib.hid (BF.out.trans (b1.mono BF.out.size)); have O1 := Lib.hid (own_below OF.out b1)
          obtain ⟨y0, y1, y2, y3⟩ := cells_4 (KF.out.below b1 KF.out.lt)
          clear b1
          go_wp2_with fail
          refine (HC1.out w1 (BW0.out.trans (B1.out.mono BW0.out.size))).mono ?_; rintro e w2 ⟨rfl, b2⟩
          have B2 := Lib.hid (B1.out.trans (b2.mono B1.out.size)); have O2 := Lib.hid (own_below O1.out b2)
          clear b2
          go_wp2_with (at_builtin; refine wpList_append_any _ rfl (.tmp 28) (.tmp 30) _ rfl W.heap.size 2 i0 _ 1 8 Tryz.underlying31 hi0 hz0 hz1 hz2 rfl (by omega) (.slice B n d) n (inC (wTo xs (fun f => homB b f dist && p f) k)) rfl (O2.out.alloc _) _ (some ⟨w2.heap.size, 0, none⟩) 1 1 [.int .i64 k] rfl (new_in1 _ _ _) (by simp [Value.oneCell']) (by simp only [maxLen]; omega) (by omega) (by have := B2.out.size; simp; omega) ?_; intro v4 w4 hown4 hg4 hat4; obtain ⟨B4, d4, rfl, _⟩ := own_shape hown4)
          go_roundw
          case rel => exact ⟨k + 1, n + 1, B4, d4, by omega, by omega, by have := HN.out; rw [HL1.out]; simp [Hid, this], rfl, by rw [HL1.out, inC_snoc]; exact hown4, below_own (B2.out.alloc B2.out.size _) (O2.out.alloc _) hg4 (Nat.le_refl _) (by have := B2.out.size; simp; omega), by go_num⟩
          case measure => simp [intOf]; omega
    · obtain rfl : k = xs.length := by omega
      have HN' := HN.out
      go_wp2_with fail
      go_ret
      exact ⟨_, rfl, by rw [HL.out, HN']; exact own_mono HO.out BW0.out.size, BW0.out.trans (BW.out.mono BW0.out.size)⟩
end Go.Proofs.YtihhpmhigmegjaaGreatDoor
namespace Go.Proofs.YtihhpmhigmegjaaGreatDoor
open Go.ChangeShapes Go.WideShapes Go.ChangeAt Go.RowKit Go.Sort

theorem all1_any (f : Ent) (w : World) : Calls Tryz.prog 75 #[f.val] w fun e w' => e = .returned (.bool true) ∧ Below w.heap.size w w' := by
  unfold Ent.val
  go_enter Tryz.func75, Tryz.ntmps75
  go_wp2_with fail
  go_ret
  exact ⟨rfl, by (repeat (first | exact Below.refl _ _ | assumption | refine Below.drew ?_ | refine below_drewN' ?_ _ | refine Below.alloc ?_ (by (try simp); (try omega)) _ | refine Below.setCell ?_ (by (try simp); (try omega)) _))⟩
theorem bar1_any (f b : Ent) (g : Nat) (w : World) (hb : Blk w g 45 #[.string b.text, .int .i64 b.x, .int .i64 b.y, .int .i64 b.since]) : Calls Tryz.prog 135 #[f.val, .pointer (some ⟨g, 0, none⟩)] w fun e w' => e = .returned (.bool (decide (cmpE f b ≤ 0))) ∧ Below w.heap.size w w' := by
  have HC := Lib.hid (implCmpE_any f b)
  have KN := Lib.hid (blks_one w 45 #[.string f.text, .int .i64 f.x, .int .i64 f.y, .int .i64 f.since])
  have HB := Lib.hid hb; clear hb
  unfold Ent.val at HC ⊢
  generalize cmpE f b = q at *
  go_enter Tryz.func135, Tryz.ntmps135
  go_upto_region 1 with (fail)
  generalize hW : w.alloc (.cells #[.string f.text, .int .i64 f.x, .int .i64 f.y, .int .i64 f.since] 45) = W
  obtain ⟨kf, bw, hsz⟩ := KN.out W hW.symm
  clear hW hsz
  obtain ⟨x0, x1, x2, x3⟩ := cells_4 kf
  obtain ⟨y0, y1, y2, y3⟩ := cells_4 (HB.out.below bw HB.out.lt)
  have BW := Lib.hid bw; clear bw kf
  go_wp2_with fail
  refine (HC.out _).mono ?_; rintro e w1 ⟨rfl, b1⟩
  go_wp2_with fail
  go_ret
  exact ⟨rfl, BW.out.trans (b1.mono BW.out.size)⟩
theorem dis1_any (f b : Ent) (g : Nat) (w : World) (hb : Blk w g 45 #[.string b.text, .int .i64 b.x, .int .i64 b.y, .int .i64 b.since]) : Calls Tryz.prog 80 #[f.val, .pointer (some ⟨g, 0, none⟩)] w fun e w' => e = .returned (.bool (decide (cmpE b f < 0))) ∧ Below w.heap.size w w' := by
  have HC := Lib.hid (implCmpE_any b f)
  have KN := Lib.hid (blks_one w 45 #[.string f.text, .int .i64 f.x, .int .i64 f.y, .int .i64 f.since])
  have HB := Lib.hid hb; clear hb
  unfold Ent.val at HC ⊢
  generalize cmpE b f = q at *
  go_enter Tryz.func80, Tryz.ntmps80
  go_upto_region 1 with (fail)
  generalize hW : w.alloc (.cells #[.string f.text, .int .i64 f.x, .int .i64 f.y, .int .i64 f.since] 45) = W
  obtain ⟨kf, bw, hsz⟩ := KN.out W hW.symm
  clear hW hsz
  obtain ⟨x0, x1, x2, x3⟩ := cells_4 kf
  obtain ⟨y0, y1, y2, y3⟩ := cells_4 (HB.out.below bw HB.out.lt)
  have BW := Lib.hid bw; clear bw kf
  go_wp2_with fail
  refine (HC.out _).mono ?_; rintro e w1 ⟨rfl, b1⟩
  go_wp2_with fail
  go_ret
  exact ⟨rfl, BW.out.trans (b1.mono BW.out.size)⟩
set_option maxRecDepth 100000 in
set_option maxHeartbeats 2000000 in
theorem barring_any (xs : List Ent) (b : Ent) (dist : Int) (hx : ∀ f ∈ xs, entB f = true) (hb : entB b = true) (hd : 0 ≤ dist ∧ dist ≤ 4000) (A : Option Addr) (c : Nat) (w : World) (h : HasEnt w xs A) (hm : xs.length ≤ 12) :
    Calls Tryz.prog 78 #[.slice A xs.length c, b.val, .int .i64 dist] w fun e w' => ∃ v, e = .returned v ∧ w'.ownsRow w.heap.size 2 1 v (whichE xs (pBar b dist)).length (inC (whichE xs (pBar b dist))) ∧ Below w.heap.size w w' := by
  have hmf : ∀ (fn : Fn) (first cap : Array Value) (w : World), (Instr.makeFunc fn first cap).run Tryz.prog w = .ok (.func fn first cap) w := fun _ _ _ _ => rfl
  have HH := Lib.hid (fun (g : Nat) W (hb' : Below w.heap.size w W) (hk : Blk W g 45 #[.string b.text, .int .i64 b.x, .int .i64 b.y, .int .i64 b.since]) => homBar_any (fun f => decide (cmpE f b ≤ 0)) xs b dist hx hb hd g A c W (h.below hb') hm (fun f _ W' hb2 => bar1_any f b g W' (hk.below hb2 hk.lt)))
  have KN := Lib.hid (blks_one w 45 #[.string b.text, .int .i64 b.x, .int .i64 b.y, .int .i64 b.since])
  clear hx hb hd h
  change Hid (∀ (g : Nat) W, Below w.heap.size w W → _ → Calls Tryz.prog _ _ _ _) at HH
  have HE : (fun f => homB b f dist && decide (cmpE f b ≤ 0)) = pBar b dist := rfl
  rw [HE] at HH
  clear HE
  generalize whichE xs (pBar b dist) = LL at *
  unfold Ent.val at HH ⊢
  go_enter Tryz.func78, Tryz.ntmps78
  go_upto_region 1 with (fail)
  generalize hW : w.alloc (.cells #[.string b.text, .int .i64 b.x, .int .i64 b.y, .int .i64 b.since] 45) = W
  obtain ⟨kb, bw, hsz⟩ := KN.out W hW.symm
  clear hW hsz
  obtain ⟨x0, x1, x2, x3⟩ := cells_4 kb
  have KB := Lib.hid kb; have BW := Lib.hid bw; clear kb bw
  go_wp2_with fail
  refine (HH.out _ W BW.out KB.out).mono ?_; rintro e w1 ⟨v, rfl, own1, b1⟩
  have O1 := Lib.hid own1; have B1 := Lib.hid b1; clear own1 b1
  go_wp2_with fail
  go_ret
  exact ⟨_, rfl, own_mono O1.out BW.out.size, BW.out.trans (B1.out.mono BW.out.size)⟩
set_option maxRecDepth 100000 in
set_option maxHeartbeats 2000000 in
theorem implHomL_any (xs : List Ent) (b : Ent) (dist : Int) (hs : ∀ b ∈ xs, b.text.size ≤ 1048576) (hb : b.text.size ≤ 1048576) (A : Option Addr) (c : Nat) (w : World) (h : HasEnt w xs A) :
    Calls Tryz.prog 25 #[.slice A xs.length c, b.val, .int .i64 dist] w fun e w' => ∃ v, e = .returned (.tuple #[v, .int .i64 (codeE xs (entB b) dist)]) ∧ w'.ownsRow w.heap.size 2 1 v (rowE xs b dist (pAll b dist)).length (inC (rowE xs b dist (pAll b dist))) ∧ Below w.heap.size w w' := by
  have hmf : ∀ (fn : Fn) (first cap : Array Value) (w : World), (Instr.makeFunc fn first cap).run Tryz.prog w = .ok (.func fn first cap) w := fun _ _ _ _ => rfl
  have HI := Lib.hid (implEnt_any b hb)
  have HC0 := Lib.hid (fun W (hb' : Below w.heap.size w W) => implCodeE_any xs (entB b) dist A c W (h.below hb') hs)
  have KN := Lib.hid (blks_one w 45 #[.string b.text, .int .i64 b.x, .int .i64 b.y, .int .i64 b.since])
  by_cases hz : codeE xs (entB b) dist = 0
  · obtain ⟨hx, hm, hb1, hd⟩ := codeE_zero hz
    have HH := Lib.hid (fun W (hb' : Below w.heap.size w W) => homAll_any (fun _ => true) xs b dist hx hb1 hd A c W (h.below hb') hm (fun f _ W' _ => all1_any f W'))
    have HE := Lib.hid (show rowE xs b dist (pAll b dist) = whichE xs (fun f => homB b f dist && true) by rw [rowE, if_pos hz]; rfl)
    generalize rowE xs b dist (pAll b dist) = LL at HE ⊢
    have HE2 := HE.out
    rw [← HE2] at HH
    clear HE2
    rw [hz] at HC0 ⊢
    rw [hb1] at HC0 HI
    clear hb1
    clear hz hx hd hs h HE hb
    unfold Ent.val at HH HI ⊢
    go_enter Tryz.func25, Tryz.ntmps25
    go_wp2_with fail
    generalize hW : w.alloc (.cells #[.string b.text, .int .i64 b.x, .int .i64 b.y, .int .i64 b.since] 45) = W
    obtain ⟨kb, bw, hsz⟩ := KN.out W hW.symm
    clear hW hsz
    refine (HI.out W).mono ?_; rintro e w1 ⟨rfl, b1⟩
    have KB := Lib.hid (kb.below b1 kb.lt); have B1 := Lib.hid (bw.trans (b1.mono bw.size)); clear kb bw b1
    go_wp2_with fail
    refine (HC0.out w1 B1.out).mono ?_; rintro e w2 ⟨rfl, b2⟩
    have KB2 := Lib.hid (KB.out.below b2 KB.out.lt); have B2 := Lib.hid (B1.out.trans (b2.mono B1.out.size)); clear b2
    obtain ⟨x0, x1, x2, x3⟩ := cells_4 KB2.out
    go_wp2_with fail
    refine (HH.out w2 B2.out).mono ?_; rintro e w3 ⟨v, rfl, own3, b3⟩
    have O3 := Lib.hid own3; have B3 := Lib.hid b3; clear own3 b3
    go_wp2_with fail
    go_ret2
    exact ⟨_, rfl, own_mono O3.out B2.out.size, B2.out.trans (B3.out.mono B2.out.size)⟩
  · have HE := Lib.hid (show rowE xs b dist (pAll b dist) = [] by rw [rowE, if_neg hz])
    generalize rowE xs b dist (pAll b dist) = LL at HE ⊢
    generalize entB b = ok at *
    generalize codeE xs ok dist = cz at HC0 hz ⊢
    have hne : (cz != 0) = true := by rw [bne_iff_ne]; exact hz
    clear hz hs h hb
    unfold Ent.val at HI ⊢
    go_enter Tryz.func25, Tryz.ntmps25
    go_wp2_with fail
    generalize hW : w.alloc (.cells #[.string b.text, .int .i64 b.x, .int .i64 b.y, .int .i64 b.since] 45) = W
    obtain ⟨kb, bw, hsz⟩ := KN.out W hW.symm
    clear hW hsz
    refine (HI.out W).mono ?_; rintro e w1 ⟨rfl, b1⟩
    have B1 := Lib.hid (bw.trans (b1.mono bw.size)); clear kb bw b1
    go_wp2_with fail
    refine (HC0.out w1 B1.out).mono ?_; rintro e w2 ⟨rfl, b2⟩
    go_wp2_with fail
    go_ret2
    exact ⟨_, rfl, by rw [HE.out]; exact World.ownsRow_nil _ _ _ _, B1.out.trans (b2.mono B1.out.size)⟩
set_option maxRecDepth 100000 in
set_option maxHeartbeats 2000000 in
theorem implDis_any (xs : List Ent) (b : Ent) (dist : Int) (hs : ∀ b ∈ xs, b.text.size ≤ 1048576) (hb : b.text.size ≤ 1048576) (A : Option Addr) (c : Nat) (w : World) (h : HasEnt w xs A) :
    Calls Tryz.prog 29 #[.slice A xs.length c, b.val, .int .i64 dist] w fun e w' => ∃ v, e = .returned (.tuple #[v, .int .i64 (codeE xs (entB b) dist)]) ∧ w'.ownsRow w.heap.size 2 1 v (rowE xs b dist (pDis b dist)).length (inC (rowE xs b dist (pDis b dist))) ∧ Below w.heap.size w w' := by
  have hmf : ∀ (fn : Fn) (first cap : Array Value) (w : World), (Instr.makeFunc fn first cap).run Tryz.prog w = .ok (.func fn first cap) w := fun _ _ _ _ => rfl
  have HI := Lib.hid (implEnt_any b hb)
  have HC0 := Lib.hid (fun W (hb' : Below w.heap.size w W) => implCodeE_any xs (entB b) dist A c W (h.below hb') hs)
  have KN := Lib.hid (blks_one w 45 #[.string b.text, .int .i64 b.x, .int .i64 b.y, .int .i64 b.since])
  by_cases hz : codeE xs (entB b) dist = 0
  · obtain ⟨hx, hm, hb1, hd⟩ := codeE_zero hz
    have HH := Lib.hid (fun (g : Nat) W (hb' : Below w.heap.size w W) (hk : Blk W g 45 #[.string b.text, .int .i64 b.x, .int .i64 b.y, .int .i64 b.since]) => homDis_any (fun f => decide (cmpE b f < 0)) xs b dist hx hb1 hd g A c W (h.below hb') hm (fun f _ W' hb2 => dis1_any f b g W' (hk.below hb2 hk.lt)))
    have HE := Lib.hid (show rowE xs b dist (pDis b dist) = whichE xs (fun f => homB b f dist && decide (cmpE b f < 0)) by rw [rowE, if_pos hz]; rfl)
    generalize rowE xs b dist (pDis b dist) = LL at HE ⊢
    have HE2 := HE.out
    rw [← HE2] at HH
    clear HE2
    rw [hz] at HC0 ⊢
    rw [hb1] at HC0 HI
    clear hb1
    clear hz hx hd hs h HE hb
    unfold Ent.val at HH HI ⊢
    go_enter Tryz.func29, Tryz.ntmps29
    go_wp2_with fail
    generalize hW : w.alloc (.cells #[.string b.text, .int .i64 b.x, .int .i64 b.y, .int .i64 b.since] 45) = W
    obtain ⟨kb, bw, hsz⟩ := KN.out W hW.symm
    clear hW hsz
    refine (HI.out W).mono ?_; rintro e w1 ⟨rfl, b1⟩
    have KB := Lib.hid (kb.below b1 kb.lt); have B1 := Lib.hid (bw.trans (b1.mono bw.size)); clear kb bw b1
    go_wp2_with fail
    refine (HC0.out w1 B1.out).mono ?_; rintro e w2 ⟨rfl, b2⟩
    have KB2 := Lib.hid (KB.out.below b2 KB.out.lt); have B2 := Lib.hid (B1.out.trans (b2.mono B1.out.size)); clear b2
    obtain ⟨x0, x1, x2, x3⟩ := cells_4 KB2.out
    go_wp2_with fail
    refine (HH.out _ w2 B2.out KB2.out).mono ?_; rintro e w3 ⟨v, rfl, own3, b3⟩
    have O3 := Lib.hid own3; have B3 := Lib.hid b3; clear own3 b3
    go_wp2_with fail
    go_ret2
    exact ⟨_, rfl, own_mono O3.out B2.out.size, B2.out.trans (B3.out.mono B2.out.size)⟩
  · have HE := Lib.hid (show rowE xs b dist (pDis b dist) = [] by rw [rowE, if_neg hz])
    generalize rowE xs b dist (pDis b dist) = LL at HE ⊢
    generalize entB b = ok at *
    generalize codeE xs ok dist = cz at HC0 hz ⊢
    have hne : (cz != 0) = true := by rw [bne_iff_ne]; exact hz
    clear hz hs h hb
    unfold Ent.val at HI ⊢
    go_enter Tryz.func29, Tryz.ntmps29
    go_wp2_with fail
    generalize hW : w.alloc (.cells #[.string b.text, .int .i64 b.x, .int .i64 b.y, .int .i64 b.since] 45) = W
    obtain ⟨kb, bw, hsz⟩ := KN.out W hW.symm
    clear hW hsz
    refine (HI.out W).mono ?_; rintro e w1 ⟨rfl, b1⟩
    have B1 := Lib.hid (bw.trans (b1.mono bw.size)); clear kb bw b1
    go_wp2_with fail
    refine (HC0.out w1 B1.out).mono ?_; rintro e w2 ⟨rfl, b2⟩
    go_wp2_with fail
    go_ret2
    exact ⟨_, rfl, by rw [HE.out]; exact World.ownsRow_nil _ _ _ _, B1.out.trans (b2.mono B1.out.size)⟩
set_option maxRecDepth 100000 in
set_option maxHeartbeats 2000000 in
theorem implAdm_any (xs : List Ent) (b : Ent) (dist : Int) (hs : ∀ b ∈ xs, b.text.size ≤ 1048576) (hb : b.text.size ≤ 1048576) (A : Option Addr) (c : Nat) (w : World) (h : HasEnt w xs A) :
    Calls Tryz.prog 27 #[.slice A xs.length c, b.val, .int .i64 dist] w fun e w' => e = .returned (.tuple #[.bool (admB xs b dist), .int .i64 (codeE xs (entB b) dist)]) ∧ Below w.heap.size w w' := by
  have hmf : ∀ (fn : Fn) (first cap : Array Value) (w : World), (Instr.makeFunc fn first cap).run Tryz.prog w = .ok (.func fn first cap) w := fun _ _ _ _ => rfl
  have HI := Lib.hid (implEnt_any b hb)
  have HC0 := Lib.hid (fun W (hb' : Below w.heap.size w W) => implCodeE_any xs (entB b) dist A c W (h.below hb') hs)
  have KN := Lib.hid (blks_one w 45 #[.string b.text, .int .i64 b.x, .int .i64 b.y, .int .i64 b.since])
  by_cases hz : codeE xs (entB b) dist = 0
  · obtain ⟨hx, hm, hb1, hd⟩ := codeE_zero hz
    have HH := Lib.hid (fun W (hb' : Below w.heap.size w W) => barring_any xs b dist hx hb1 hd A c W (h.below hb') hm)
    have HE := Lib.hid (show admB xs b dist = decide ((whichE xs (pBar b dist)).length = 0) by rw [admB, hz, rowE, if_pos hz]; rfl)
    generalize admB xs b dist = r at HE ⊢
    have HR := HE
    generalize whichE xs (pBar b dist) = LL at HH HR HE
    rw [hz] at HC0 ⊢
    rw [hb1] at HC0 HI
    clear hb1
    clear hz hx hd hs h HE hb
    unfold Ent.val at HH HI ⊢
    go_enter Tryz.func27, Tryz.ntmps27
    go_wp2_with fail
    generalize hW : w.alloc (.cells #[.string b.text, .int .i64 b.x, .int .i64 b.y, .int .i64 b.since] 45) = W
    obtain ⟨kb, bw, hsz⟩ := KN.out W hW.symm
    clear hW hsz
    refine (HI.out W).mono ?_; rintro e w1 ⟨rfl, b1⟩
    have KB := Lib.hid (kb.below b1 kb.lt); have B1 := Lib.hid (bw.trans (b1.mono bw.size)); clear kb bw b1
    go_wp2_with fail
    refine (HC0.out w1 B1.out).mono ?_; rintro e w2 ⟨rfl, b2⟩
    have KB2 := Lib.hid (KB.out.below b2 KB.out.lt); have B2 := Lib.hid (B1.out.trans (b2.mono B1.out.size)); clear b2
    obtain ⟨x0, x1, x2, x3⟩ := cells_4 KB2.out
    go_wp2_with fail
    refine (HH.out w2 B2.out).mono ?_; rintro e w3 ⟨v, rfl, own3, b3⟩
    obtain ⟨A2, c2, rfl, _⟩ := own_shape own3
    have B3 := Lib.hid b3; clear own3 b3
    go_wp2_with fail
    go_ret2
    exact ⟨by rw [HR.out]; (first | done | rfl | (by_cases h0 : LL.length = 0 <;> simp [h0]) | (simp; omega)), B2.out.trans (B3.out.mono B2.out.size)⟩
  · have HE := Lib.hid (show admB xs b dist = false by
      have : (codeE xs (entB b) dist == 0) = false := by simpa using hz
      rw [admB, this, Bool.false_and])
    generalize admB xs b dist = r at HE ⊢
    generalize entB b = ok at *
    generalize codeE xs ok dist = cz at HC0 hz ⊢
    have hne : (cz != 0) = true := by rw [bne_iff_ne]; exact hz
    clear hz hs h hb
    unfold Ent.val at HI ⊢
    go_enter Tryz.func27, Tryz.ntmps27
    go_wp2_with fail
    generalize hW : w.alloc (.cells #[.string b.text, .int .i64 b.x, .int .i64 b.y, .int .i64 b.since] 45) = W
    obtain ⟨kb, bw, hsz⟩ := KN.out W hW.symm
    clear hW hsz
    refine (HI.out W).mono ?_; rintro e w1 ⟨rfl, b1⟩
    have B1 := Lib.hid (bw.trans (b1.mono bw.size)); clear kb bw b1
    go_wp2_with fail
    refine (HC0.out w1 B1.out).mono ?_; rintro e w2 ⟨rfl, b2⟩
    go_wp2_with fail
    go_ret2
    exact ⟨by rw [HE.out]; first | done | rfl, B1.out.trans (b2.mono B1.out.size)⟩
end Go.Proofs.YtihhpmhigmegjaaGreatDoor
namespace Go.Proofs.YtihhpmhigmegjaaGreatDoor
open Go.ChangeShapes Go.WideShapes Go.ChangeAt Go.RowKit Go.Sort

theorem grown_below {w w' : World} (h : Below w.heap.size w w') (row : Option Nat) : w.grownBy w' row := ⟨h.os, h.tape, h.output, h.size, fun k hk _ => h.block k hk⟩
set_option maxRecDepth 100000 in
set_option maxHeartbeats 1000000 in
theorem cmp1_any (xs : List Ent) (i k : Nat) (hi : i < xs.length) (hk : k < xs.length) (gb : Nat) (t : TypeId) (A : Option Addr) (c : Nat) (w : World) (hb : Blk w gb t #[.slice A xs.length c]) (h : HasEnt w xs A) :
    Calls Tryz.prog 146 #[.int .i64 i, .int .i64 k, .pointer (some ⟨gb, 0, none⟩)] w fun e w' => e = .returned (.int .i64 (cmpE xs[i] xs[k])) ∧ Below w.heap.size w w' := by
  have HC := Lib.hid (implCmpE_any xs[i] xs[k])
  obtain ⟨ab, ao, rfl, hadb, hcell⟩ := h.1.2 (by omega)
  obtain ⟨e0, e1, e2, e3⟩ := enC_get xs i hi
  obtain ⟨g0, g1, g2, g3⟩ := enC_get xs k hk
  have c0 := cell_regrown (hcell _ _ e0)
  have c1 := cell_regrown (hcell _ _ e1)
  have c2 := cell_regrown (hcell _ _ e2)
  have c3 := cell_regrown (hcell _ _ e3)
  have d0 := cell_regrown (hcell _ _ g0)
  have d1 := cell_regrown (hcell _ _ g1)
  have d2 := cell_regrown (hcell _ _ g2)
  have d3 := cell_regrown (hcell _ _ g3)
  simp only [← Nat.add_assoc] at c1 c2 c3 d1 d2 d3
  have b0 : w.cell? ⟨gb, 0, none⟩ = some (.slice (some ⟨ab, ao, none⟩) xs.length c) := by rw [hb.cell]; rfl
  have b1 := cell_regrown b0
  have hm := h.2.1
  clear hcell e0 e1 e2 e3 g0 g1 g2 g3 hb h b0
  generalize xs[i] = f at *
  generalize xs[k] = u at *
  unfold Ent.val at HC
  generalize cmpE f u = q at *
  have r1 : ∀ d os, Calls Tryz.prog 81 #[.agg #[.string f.text, .int .i64 f.x, .int .i64 f.y, .int .i64 f.since], .agg #[.string u.text, .int .i64 u.x, .int .i64 u.y, .int .i64 u.since]] (grow (redrawn w d) os) (fun e w'' => e = .returned (.int .i64 q) ∧ ∃ p : Regrown, w'' = grow (redrawn w p.d) p.os) := fun d os => Calls.regrown_of (HC.out _)
  clear HC
  go_enter Tryz.func146, Tryz.ntmps146
  go_upto_region 1 with (fail)
  refine wp_region_quiet_below (by kernel_rfl) (by kernel_rfl) ?_; (repeat (first | go_big_quiet_step ((first | with_reducible exact r1 _ _)))); refine wpQuiet_nil ?_; intro _ hw'; obtain ⟨⟨dq, osq⟩, rfl⟩ := hw'
  go_wp2_with fail
  go_ret
  exact ⟨rfl, below_regrown w dq osq⟩
set_option maxRecDepth 100000 in
set_option maxHeartbeats 4000000 in
theorem insSort_any (xs : List Ent) (hm : xs.length ≤ 12) (hp : 0 < xs.length) (gb : Nat) (t : TypeId) (A : Option Addr) (c : Nat) (w0 w : World) (h : HasEnt w0 xs A) (hb : Blk w0 gb t #[.slice A xs.length c]) (hB : Below w0.heap.size w0 w) (g cap : Nat) (hO : w.ownsRow w0.heap.size 2 1 (.slice (some ⟨g, 0, none⟩) xs.length cap) xs.length (inC (upL 0 xs.length))) (hg : w0.heap.size ≤ g) :
    Calls Tryz.prog 204 #[.slice (some ⟨g, 0, none⟩) xs.length cap, .int .i64 0, .int .i64 xs.length, .func (.func 146) #[] #[.pointer (some ⟨gb, 0, none⟩)]] w fun e w' => e = .returned (.tuple #[]) ∧ w'.ownsRow w0.heap.size 2 1 (.slice (some ⟨g, 0, none⟩) xs.length cap) xs.length (inC (ordL (ltE xs) xs.length)) ∧ w.grownBy w' (some g) := by
  have HO := Lib.hid hO; clear hO
  obtain ⟨n, hn⟩ : ∃ n, xs.length = n := ⟨_, rfl⟩
  have HCl := Lib.hid (show ∀ (i k : Nat), i < n → k < n → ∀ W, w.grownBy W (some g) → Calls Tryz.prog 146 #[.int .i64 i, .int .i64 k, .pointer (some ⟨gb, 0, none⟩)] W fun e w' => e = .returned (.int .i64 (cmpE (atE xs i) (atE xs k))) ∧ Below W.heap.size W w' from fun i k hi hk W hW => by
    rw [atE_eq (by omega : i < xs.length), atE_eq (by omega : k < xs.length)]
    have hBW := hB.grown hW hB.size (fun k hk => by injection hk with hk; omega)
    exact cmp1_any xs i k (by omega) (by omega) gb t A c W (hb.below hBW hb.lt) (h.below hBW))
  obtain ⟨lt, hlt⟩ : ∃ lt, ltE xs = lt := ⟨_, rfl⟩
  have HLt := Lib.hid (show ∀ i k : Int, lt i k = decide (cmpE (atE xs i) (atE xs k) < 0) by intro i k; rw [← hlt, ltE])
  rw [hlt]
  rw [hn] at hm hp HO ⊢
  clear hlt h hb hB
  go_enter Tryz.func204, Tryz.ntmps204
  go_wp2_with fail
  go_loopw [8] (fun v8 wr => ∃ i : Nat, 1 ≤ i ∧ i ≤ n ∧ Hid (wr.ownsRow w0.heap.size 2 1 (.slice (some ⟨g, 0, none⟩) n cap) n (inC (ordL lt i ++ upL i (n - i)))) ∧ Hid (w.grownBy wr (some g)) ∧ v8 = .int .i64 i) (fun a _ => n - (intOf a).toNat)
  case atStart =>
    refine ⟨1, Nat.le_refl _, hp, ?_, World.grownBy.refl w _, by go_num⟩
    have : ordL lt 1 ++ upL 1 (n - 1) = upL 0 n := by
      obtain ⟨m, rfl⟩ : ∃ m, n = m + 1 := ⟨n - 1, by omega⟩
      rw [upL_cons]; rfl
    rw [this]; exact HO.out
  case round =>
    obtain ⟨i, hi1, hin, HW, HG, rfl⟩ := hrel
    by_cases hlt : i < n
    · have HSl := Lib.hid (ordL_len lt i)
      have HSi := Lib.hid (ordL_in lt i)
      have HNx := Lib.hid (ord_next lt i)
      have hup : upL i (n - i) = (i : Int) :: upL (i + 1) (n - (i + 1)) := by
        rw [show n - i = (n - (i + 1)) + 1 by omega, upL_cons]
      have HW1 := Lib.hid (show wr.ownsRow w0.heap.size 2 1 (.slice (some ⟨g, 0, none⟩) n cap) n (inC (midL (ordL lt i) i i ++ upL (i + 1) (n - (i + 1)))) by
        have := mid_start (ordL lt i) i
        rw [HSl.out] at this
        rw [this, List.append_assoc, List.cons_append, List.nil_append, ← hup]
        exact HW.out)
      clear hup HW
      generalize ordL lt i = S at *
      generalize hR : upL (i + 1) (n - (i + 1)) = R at *
      go_wp2_with fail
      go_loopw [9] (fun v9 wr => ∃ j : Nat, j ≤ i ∧ Hid (wr.ownsRow w0.heap.size 2 1 (.slice (some ⟨g, 0, none⟩) n cap) n (inC (midL S i j ++ R))) ∧ Hid (posR lt i S j = posR lt i S S.length) ∧ Hid (w.grownBy wr (some g)) ∧ v9 = .int .i64 j) (fun a _ => (intOf a).toNat)
      case atStart => exact ⟨i, Nat.le_refl _, HW1.out, by show _ = _; rw [HSl.out], HG.out, rfl⟩
      case round =>
        clear HW1 HG
        obtain ⟨j, hj, HW, HPo, HG, rfl⟩ := hrel
        have hSi : S.length = i := HSl.out
        have hlen : (midL S i j).length = i + 1 := by rw [midL_len (by omega), hSi]
        have hRl : R.length = n - (i + 1) := by rw [← hR, upL_len]
        cases j with
        | zero =>
          have HX := Lib.hid (show midL S i 0 ++ R = ordL lt (i + 1) ++ upL (i + 1) (n - (i + 1)) by rw [hR, ← HNx.out, ← HPo.out]; rfl)
          go_upto_region 4 with (fail)
          refine wp_region_quiet_below (by kernel_rfl) (by kernel_rfl) ?_; (repeat (first | go_big_quiet_step (fail))); refine wpQuiet_nil ?_; intro _ hw'; obtain ⟨⟨dq, osq⟩, rfl⟩ := hw'
          have O2 := Lib.hid (own_below HW.out (below_regrown wr dq osq))
          have G2 := Lib.hid (HG.out.trans (grown_below (below_regrown wr dq osq) (some g)))
          generalize grow (redrawn wr dq) osq = w2 at O2 G2 ⊢
          go_wp2_with fail
          go_roundw
          case rel => exact ⟨i + 1, by omega, by omega, by have := O2.out; rw [HX.out] at this; exact this, G2.out, by go_num⟩
          case measure => simp [intOf]; omega
        | succ jp =>
          have hjS : jp < S.length := by omega
          have hx0 : (midL S i (jp + 1) ++ R)[jp + 1]? = some (i : Int) := by rw [List.getElem?_append_left (by omega)]; exact midL_at (by omega)
          have hx1 : (midL S i (jp + 1) ++ R)[jp]? = some S[jp] := by rw [List.getElem?_append_left (by omega)]; exact midL_before hjS
          have hsw := midL_swap (R := R) (x := (i : Int)) hjS
          have hgo := posR_go (lt := lt) (x := (i : Int)) hjS
          have hstop := posR_stop (lt := lt) (x := (i : Int)) hjS
          obtain ⟨hv0, hv1⟩ := HSi.out S[jp] (List.getElem_mem hjS)
          obtain ⟨v, hv⟩ : ∃ v : Nat, S[jp] = (v : Int) := ⟨S[jp].toNat, by omega⟩
          rw [hv] at hx1 hsw hgo hstop hv1
          have hvn : v < n := by omega
          have ca := HW.out.cellAt (jp + 1) (by omega)
          have cb := HW.out.cellAt jp (by omega)
          have hca : (inC (midL S i (jp + 1) ++ R))[jp + 1]? = some (.int .i64 i) := by unfold inC; rw [List.getElem?_map, hx0]; rfl
          have hcb : (inC (midL S i (jp + 1) ++ R))[jp]? = some (.int .i64 v) := by unfold inC; rw [List.getElem?_map, hx1]; rfl
          have HX0 := Lib.hid hca; have HX1 := Lib.hid hcb
          rw [hca] at ca
          rw [hcb] at cb
          have la := cell_regrown ca
          have lb := cell_regrown cb
          have HSw := Lib.hid hsw; have HGo := Lib.hid hgo; have HStop := Lib.hid hstop
          clear hsw hgo hstop hx0 hx1 hca hcb ca cb hv hv0 hv1
          have HC1 := Lib.hid (HCl.out i v hlt hvn)
          have HL1 := HLt.out i v
          generalize cmpE (atE xs i) (atE xs v) = q at HC1 HL1
          have r1 : ∀ d os, Calls Tryz.prog 146 #[.int .i64 i, .int .i64 v, .pointer (some ⟨gb, 0, none⟩)] (grow (redrawn wr d) os) (fun e w'' => e = .returned (.int .i64 q) ∧ ∃ p : Regrown, w'' = grow (redrawn wr p.d) p.os) := fun d os => Calls.regrown_of (HC1.out _ (HG.out.trans (grown_below (below_regrown wr d os) (some g))))
          have hw1 : IntKind.i64.wrap (jp : Int) = (jp : Int) := IntWalk.i64_in _ (by omega)
          by_cases hq : q < 0
          · rw [decide_eq_true hq] at HL1
            have HPo2 := Lib.hid ((HGo.out HL1).symm.trans HPo.out)
            clear HL1 HPo
            go_upto_region 4 with (fail)
            refine wp_region_quiet_below (by kernel_rfl) (by kernel_rfl) ?_; (repeat (first | go_big_quiet_step ((first | with_reducible exact r1 _ _)))); refine wpQuiet_nil ?_; intro _ hw'; obtain ⟨⟨dq, osq⟩, rfl⟩ := hw'
            have O2 := Lib.hid (own_below HW.out (below_regrown wr dq osq))
            have G2 := Lib.hid (HG.out.trans (grown_below (below_regrown wr dq osq) (some g)))
            clear r1 la lb
            generalize grow (redrawn wr dq) osq = w2 at O2 G2 ⊢
            have ca := O2.out.cellAt (jp + 1) (by omega)
            have cb := O2.out.cellAt jp (by omega)
            rw [HX0.out] at ca
            rw [HX1.out] at cb
            have fa := O2.out.frozenAt (jp + 1)
            have fb := O2.out.frozenAt jp
            have cc : (w2.setCell ⟨g, jp + 1, none⟩ (.int .i64 v)).cell? ⟨g, jp, none⟩ = some (.int .i64 v) := by
              rw [World.cell?_setCell_other _ _ _ _ (by intro e; simp only [Addr.mk.injEq] at e; omega)]; exact cb
            have s1 := O2.out.stored (jp + 1) (.int .i64 v)
            have s2 := s1.1.stored jp (.int .i64 i)
            have e2 : ((inC (midL S i (jp + 1) ++ R)).set (jp + 1) (.int .i64 v)).set jp (.int .i64 i) = inC (midL S i jp ++ R) := by
              unfold inC
              rw [← List.map_set, ← List.map_set, HSw.out]
            have O3 := Lib.hid (World.ownsRow.drew (e2 ▸ s2.1))
            have G3 := Lib.hid (((G2.out.trans s1.2).trans s2.2).trans (grown_below (Below.refl _ _).drew (some g)))
            have mixed : Tryz.prog.follows Departure.mixedOrders = true := by kernel_rfl
            clear s1 s2 e2
            go_wp2_with fail
            go_big_region_o
            clear ca cb fa fb cc
            generalize ((w2.setCell ⟨g, jp + 1, none⟩ (.int .i64 v)).setCell ⟨g, jp, none⟩ (.int .i64 i)).drew = w3 at O3 G3 ⊢
            go_wp2_with fail
            go_roundw
            case rel => exact ⟨jp, by omega, O3.out, HPo2.out, G3.out, by go_num⟩
            case measure => simp [intOf]
          · rw [decide_eq_false hq] at HL1
            have HX := Lib.hid (show midL S i (jp + 1) ++ R = ordL lt (i + 1) ++ upL (i + 1) (n - (i + 1)) by rw [hR, ← HNx.out, ← HPo.out, HStop.out HL1])
            clear HL1
            go_upto_region 4 with (fail)
            refine wp_region_quiet_below (by kernel_rfl) (by kernel_rfl) ?_; (repeat (first | go_big_quiet_step ((first | with_reducible exact r1 _ _)))); refine wpQuiet_nil ?_; intro _ hw'; obtain ⟨⟨dq, osq⟩, rfl⟩ := hw'
            have O2 := Lib.hid (own_below HW.out (below_regrown wr dq osq))
            have G2 := Lib.hid (HG.out.trans (grown_below (below_regrown wr dq osq) (some g)))
            clear r1 la lb
            generalize grow (redrawn wr dq) osq = w2 at O2 G2 ⊢
            go_wp2_with fail
            go_roundw
            case rel => exact ⟨i + 1, by omega, by omega, by have := O2.out; rw [HX.out] at this; exact this, G2.out, by go_num⟩
            case measure => simp [intOf]; omega
    · obtain rfl : i = n := by omega
      have HX := Lib.hid (show ordL lt i ++ upL i (i - i) = ordL lt i by rw [Nat.sub_self]; exact List.append_nil _)
      go_wp2_with fail
      go_end0
      exact ⟨rfl, by have := HW.out; rw [HX.out] at this; exact this, HG.out⟩
end Go.Proofs.YtihhpmhigmegjaaGreatDoor
namespace Go.Proofs.YtihhpmhigmegjaaGreatDoor
open Go.ChangeShapes Go.WideShapes Go.ChangeAt Go.RowKit Go.Sort

theorem lengthE (A : Option Addr) (n c : Nat) (_hn : n ≤ 9223372036854775807) (w : World) : Calls Tryz.prog 144 #[.slice A n c] w fun e w' => e = .returned (.int .i64 n) ∧ w = w' := by
  go_enter Tryz.func144, Tryz.ntmps144
  go_wp2
  go_ret
  exact ⟨rfl, rfl⟩
set_option maxRecDepth 100000 in
set_option maxHeartbeats 1000000 in
theorem insSort_nil (fv : Value) (w : World) : Calls Tryz.prog 204 #[.slice none 0 0, .int .i64 0, .int .i64 0, fv] w fun e w' => e = .returned (.tuple #[]) ∧ Below w.heap.size w w' := by
  go_enter Tryz.func204, Tryz.ntmps204
  go_wp2_with fail
  refine wp_loop_rounds 1 ?_; rw [rounds_succ]
  go_wp2_with fail
  go_end0
  exact ⟨rfl, Below.refl _ _⟩
set_option maxRecDepth 100000 in
set_option maxHeartbeats 1000000 in
theorem stable_any (v fv : Value) (n : Nat) (hn : n ≤ 12) (Q : World → World → Prop) (w : World)
    (h : Calls Tryz.prog 204 #[v, .int .i64 0, .int .i64 n, fv] w fun e w' => e = .returned (.tuple #[]) ∧ Q w w') :
    Calls Tryz.prog 174 #[v, .int .i64 n, fv] w fun e w' => e = .returned (.tuple #[]) ∧ Q w w' := by
  have H := Lib.hid h; clear h
  go_enter Tryz.func174, Tryz.ntmps174
  go_wp2_with fail
  refine wp_loop_rounds 1 ?_; rw [rounds_succ]
  go_wp2_with fail
  refine H.out.mono ?_; rintro e w' ⟨rfl, hq⟩
  have HQ := Lib.hid hq; clear hq
  go_wp2_with fail
  refine wp_loop_rounds 1 ?_; rw [rounds_succ]
  go_wp2_with fail
  go_end0
  exact ⟨rfl, HQ.out⟩
set_option maxRecDepth 100000 in
theorem sortStable_any (A : Option Addr) (n c : Nat) (fv : Value) (hn : n ≤ 12) (Q : World → World → Prop) (w : World)
    (h : Calls Tryz.prog 204 #[.slice A n c, .int .i64 0, .int .i64 n, fv] w fun e w' => e = .returned (.tuple #[]) ∧ Q w w') :
    Calls Tryz.prog 145 #[.slice A n c, fv] w fun e w' => e = .returned (.tuple #[]) ∧ Q w w' := by
  have H := Lib.hid (stable_any (.slice A n c) fv n hn Q w h); clear h
  go_enter Tryz.func145, Tryz.ntmps145
  go_wp2_with fail
  refine H.out.mono ?_; rintro e w' ⟨rfl, hq⟩
  have HQ := Lib.hid hq; clear hq
  go_wp2_with fail
  go_end0
  exact ⟨rfl, HQ.out⟩
set_option maxRecDepth 100000 in
set_option maxHeartbeats 2000000 in
theorem implOrd_any (xs : List Ent) (A : Option Addr) (c : Nat) (w : World) (h : HasEnt w xs A) (hm : xs.length ≤ 12) :
    Calls Tryz.prog 87 #[.slice A xs.length c] w fun e w' => ∃ v, e = .returned v ∧ w'.ownsRow w.heap.size 2 1 v (ordL (ltE xs) xs.length).length (inC (ordL (ltE xs) xs.length)) ∧ Below w.heap.size w w' := by
  have hmf : ∀ (fn : Fn) (first cap : Array Value) (w : World), (Instr.makeFunc fn first cap).run Tryz.prog w = .ok (.func fn first cap) w := fun _ _ _ _ => rfl
  obtain ⟨i0, hi0, hz0, hz1, hz2⟩ := info_parts infoInt
  have H := Lib.hid h; clear h
  have KN := Lib.hid (blks_one w 41 #[.slice A xs.length c])
  have HLn := Lib.hid (lengthE A xs.length c (by omega))
  have HIns := Lib.hid (fun hp gb t w0 w h hb hB g cap hO hg => insSort_any xs hm hp gb t A c w0 w h hb hB g cap hO hg)
  have HLl := Lib.hid (ordL_len (ltE xs) xs.length)
  have HL0 := Lib.hid (show ordL (ltE xs) 0 = [] from rfl)
  rw [HLl.out]
  go_enter Tryz.func87, Tryz.ntmps87
  go_upto_region 1 with (fail)
  generalize hW : w.alloc (.cells #[.slice A xs.length c] 41) = W
  obtain ⟨kb, bw, hsz⟩ := KN.out W hW.symm
  clear hW
  have KB := Lib.hid kb; have BW0 := Lib.hid bw; have LB := Lib.hid kb.lt; clear kb bw
  have b0 : W.cell? ⟨w.heap.size, 0, none⟩ = some (.slice A xs.length c) := by rw [KB.out.cell]; rfl
  go_wp2_with fail
  refine (HLn.out W).mono ?_; rintro e w' ⟨rfl, rfl⟩
  go_wp2_with fail
  go_loopw [3, 7] (fun v3 v7 wr => ∃ (k : Nat) (B : Option Addr) (d : Nat), k ≤ xs.length ∧ v3 = .slice B k d ∧ Hid (wr.ownsRow W.heap.size 2 1 (.slice B k d) k (inC (upL 0 k))) ∧ Hid (k = 0 → B = none ∧ d = 0) ∧ Hid (Below W.heap.size W wr) ∧ v7 = .int .i64 k) (fun _ i _ => xs.length - (intOf i).toNat)
  case atStart => exact ⟨0, none, 0, by omega, rfl, World.ownsRow_nil _ _ _ _, fun _ => ⟨rfl, rfl⟩, Below.refl _ _, rfl⟩
  case round =>
    obtain ⟨k, B, d, hk, rfl, HO, HZ, BW, rfl⟩ := hrel
    by_cases hlt : k < xs.length
    · have hl : (upL 0 k).length = k := upL_len 0 k
      have HUp := Lib.hid (upL_snoc k)
      go_wp2_with (at_builtin; refine wpList_append_any _ rfl (.tmp 10) (.tmp 12) _ rfl W.heap.size 2 i0 _ 1 8 Tryz.underlying31 hi0 hz0 hz1 hz2 rfl (by omega) (.slice B k d) k (inC (upL 0 k)) rfl (HO.out.alloc _) _ (some ⟨wr.heap.size, 0, none⟩) 1 1 [.int .i64 k] rfl (new_in1 _ _ _) (by simp [Value.oneCell']) (by simp only [maxLen]; omega) (by omega) (by have := BW.out.size; simp; omega) ?_; intro v4 w4 hown4 hg4 hat4; obtain ⟨B4, d4, rfl, _⟩ := own_shape hown4)
      go_roundw
      case rel => exact ⟨k + 1, B4, d4, by omega, rfl, by rw [HUp.out, inC_snoc]; exact hown4, fun h => by omega, below_own (BW.out.alloc BW.out.size _) (HO.out.alloc _) hg4 (Nat.le_refl _) (by have := BW.out.size; simp; omega), by go_num⟩
      case measure => simp [intOf]; omega
    · obtain rfl : k = xs.length := by omega
      rcases Nat.eq_zero_or_pos xs.length with hz | hp
      · obtain ⟨rfl, rfl⟩ := HZ.out hz
        have HS := Lib.hid (fun fv => sortStable_any none 0 0 fv (by omega) (fun w w' => Below w.heap.size w w') wr (insSort_nil fv wr))
        have HOo := Lib.hid (show ordL (ltE xs) xs.length = [] by rw [hz]; rfl)
        clear HO HIns HLn HLl H KB b0
        have Hz := Lib.hid hz
        rw [hz]
        clear hz
        go_wp2_with fail
        refine (HS.out _).mono ?_; rintro e w2 ⟨rfl, b2⟩
        go_wp2_with fail
        go_ret
        exact ⟨_, rfl, by rw [HOo.out, Hz.out]; exact World.ownsRow_nil _ _ _ _, BW0.out.trans ((BW.out.trans (b2.mono BW.out.size)).mono BW0.out.size)⟩
      · obtain ⟨g, cap, hv, hbg, hgl⟩ := HO.out.form hp
        simp only [Value.slice.injEq, true_and] at hv
        obtain ⟨rfl, rfl⟩ := hv
        have HS := Lib.hid (sortStable_any (some ⟨g, 0, none⟩) xs.length d (.func (.func 146) #[] #[.pointer (some ⟨w.heap.size, 0, none⟩)]) hm (fun w w' => w'.ownsRow W.heap.size 2 1 (.slice (some ⟨g, 0, none⟩) xs.length d) xs.length (inC (ordL (ltE xs) xs.length)) ∧ w.grownBy w' (some g)) wr (HIns.out hp w.heap.size _ W wr ((H.out.below BW0.out)) KB.out BW.out g d HO.out hbg))
        clear HIns b0
        go_wp2_with fail
        refine HS.out.mono ?_; rintro e w2 ⟨rfl, o2, g2⟩
        have O2 := Lib.hid o2; have G2 := Lib.hid g2; clear o2 g2
        go_wp2_with fail
        go_ret
        exact ⟨_, rfl, own_mono O2.out BW0.out.size, BW0.out.trans ((BW.out.grown G2.out BW.out.size (fun k hk => by injection hk with hk; omega)).mono BW0.out.size)⟩
end Go.Proofs.YtihhpmhigmegjaaGreatDoor
namespace Go.Proofs.YtihhpmhigmegjaaGreatDoor
open Go.ChangeShapes Go.WideShapes Go.ChangeAt Go.RowKit Go.Sort

set_option maxRecDepth 100000 in
set_option maxHeartbeats 1000000 in
theorem clr1_any (xs : List Ent) (hx : ∀ f ∈ xs, entB f = true) (dist : Int) (hd : 0 ≤ dist ∧ dist ≤ 4000) (i k : Nat) (hi : i < xs.length) (hk : k < xs.length) (gb gi gd : Nat) (t ti td : TypeId) (A : Option Addr) (c : Nat) (w : World) (hb : Blk w gb t #[.slice A xs.length c]) (hbi : Blk w gi ti #[.int .i64 i]) (hbd : Blk w gd td #[.int .i64 dist]) (h : HasEnt w xs A) :
    Calls Tryz.prog 89 #[.int .i64 k, .pointer (some ⟨gb, 0, none⟩), .pointer (some ⟨gi, 0, none⟩), .pointer (some ⟨gd, 0, none⟩)] w fun e w' => e = .returned (.bool (cP xs dist k i)) ∧ Below w.heap.size w w' := by
  have HC := Lib.hid (implHom_any xs[i] xs[k] (hx _ (List.getElem_mem hi)) (hx _ (List.getElem_mem hk)) dist hd)
  have HX := Lib.hid (show cP xs dist k i = homB xs[i] xs[k] dist by rw [cP, atE_eq hi, atE_eq hk, homB_comm])
  obtain ⟨ab, ao, rfl, hadb, hcell⟩ := h.1.2 (by omega)
  obtain ⟨e0, e1, e2, e3⟩ := enC_get xs i hi
  obtain ⟨g0, g1, g2, g3⟩ := enC_get xs k hk
  have c0 := cell_regrown (hcell _ _ e0)
  have c1 := cell_regrown (hcell _ _ e1)
  have c2 := cell_regrown (hcell _ _ e2)
  have c3 := cell_regrown (hcell _ _ e3)
  have d0 := cell_regrown (hcell _ _ g0)
  have d1 := cell_regrown (hcell _ _ g1)
  have d2 := cell_regrown (hcell _ _ g2)
  have d3 := cell_regrown (hcell _ _ g3)
  simp only [← Nat.add_assoc] at c1 c2 c3 d1 d2 d3
  have b0 : w.cell? ⟨gb, 0, none⟩ = some (.slice (some ⟨ab, ao, none⟩) xs.length c) := by rw [hb.cell]; rfl
  have b1 := cell_regrown b0
  have b2 : w.cell? ⟨gi, 0, none⟩ = some (.int .i64 i) := by rw [hbi.cell]; rfl
  have b3 := cell_regrown b2
  have b4 : w.cell? ⟨gd, 0, none⟩ = some (.int .i64 dist) := by rw [hbd.cell]; rfl
  have b5 := cell_regrown b4
  have hm := h.2.1
  clear hcell e0 e1 e2 e3 g0 g1 g2 g3 hb h b0 b2 b4 hbi hbd hx hd
  generalize cP xs dist k i = r at HX ⊢
  generalize xs[i] = f at *
  generalize xs[k] = u at *
  unfold Ent.val at HC
  generalize homB f u dist = q at *
  have r1 : ∀ d os, Calls Tryz.prog 90 #[.agg #[.string f.text, .int .i64 f.x, .int .i64 f.y, .int .i64 f.since], .agg #[.string u.text, .int .i64 u.x, .int .i64 u.y, .int .i64 u.since], .int .i64 dist] (grow (redrawn w d) os) (fun e w'' => e = .returned (.bool q) ∧ ∃ p : Regrown, w'' = grow (redrawn w p.d) p.os) := fun d os => Calls.regrown_of (HC.out _)
  clear HC
  go_enter Tryz.func89, Tryz.ntmps89
  go_upto_region 1 with (fail)
  refine wp_region_quiet_below (by kernel_rfl) (by kernel_rfl) ?_; (repeat (first | go_big_quiet_step ((first | with_reducible exact r1 _ _)))); refine wpQuiet_nil ?_; intro _ hw'; obtain ⟨⟨dq, osq⟩, rfl⟩ := hw'
  go_wp2_with fail
  go_ret
  exact ⟨ret_bool HX.out.symm, below_regrown w dq osq⟩
set_option maxRecDepth 100000 in
theorem idxI_any (p : Int → Bool) (K : List Int) (cb : Array Value) (a1 a2 a3 : Value) (hcb : cb = #[a1, a2, a3]) (A : Option Addr) (c : Nat) (w : World) (hr : Reads w w.heap.size 1 A K.length (inC K)) (hm : K.length ≤ 9223372036854775807)
    (hp : ∀ b ∈ K, ∀ W, Below w.heap.size w W → Calls Tryz.prog 89 #[.int .i64 b, a1, a2, a3] W fun e w' => e = .returned (.bool (p b)) ∧ Below W.heap.size W w') :
    Calls Tryz.prog 147 #[.slice A K.length c, .func (.func 89) #[] #[a1, a2, a3]] w fun e w' => ∃ i : Int, e = .returned (.int .i64 i) ∧ decide (0 ≤ i) = K.any p ∧ Below w.heap.size w w' := by
  have HR := Lib.hid hr; clear hr
  have HP := Lib.hid hp; clear hp hcb
  go_enter Tryz.func147, Tryz.ntmps147
  go_wp2_with fail
  go_loopw [8] (fun v8 wr => ∃ k : Nat, k ≤ K.length ∧ Hid ((K.take k).any p = false) ∧ Hid (Below w.heap.size w wr) ∧ v8 = .int .i64 k) (fun i _ => K.length - (intOf i).toNat)
  case atStart => exact ⟨0, by omega, by simp [Hid], Below.refl _ _, rfl⟩
  case round =>
    obtain ⟨k, hk, HT, BW, rfl⟩ := hrel
    by_cases hlt : k < K.length
    · obtain ⟨ab, ao, rfl, hadb, hcell⟩ := (HR.out.below BW.out).2 (by omega)
      have c0 := hcell k (.int .i64 K[k]) (by unfold inC; rw [List.getElem?_map, List.getElem?_eq_getElem hlt]; rfl)
      clear hcell
      have HC := Lib.hid (HP.out K[k] (List.getElem_mem hlt) wr BW.out)
      have HS := Lib.hid (any_take p hlt)
      have HY := Lib.hid (show p K[k] = true → K.any p = true from fun h => List.any_eq_true.2 ⟨_, List.getElem_mem hlt, h⟩)
      generalize K[k] = b at c0 HC HS HY
      cases hb : p b
      · rw [hb] at HC HS
        have HN := Lib.hid (show (K.take (k + 1)).any p = false by rw [HS.out, HT.out]; rfl)
        clear hb
        go_wp2_with fail
        refine HC.out.mono ?_; rintro e w1 ⟨rfl, b1⟩
        go_wp2_with fail
        go_roundw
        case rel => exact ⟨k + 1, by omega, HN.out, BW.out.trans (b1.mono BW.out.size), by go_num⟩
        case measure => simp [intOf]; omega
      · rw [hb] at HC
        have HN := Lib.hid (HY.out hb)
        clear hb
        go_wp2_with fail
        refine HC.out.mono ?_; rintro e w1 ⟨rfl, b1⟩
        go_wp2_with fail
        go_ret
        exact ⟨k, rfl, by rw [HN.out]; simp, BW.out.trans (b1.mono BW.out.size)⟩
    · obtain rfl : k = K.length := by omega
      have HN := Lib.hid (show K.any p = false by have := HT.out; rwa [List.take_length] at this)
      go_wp2_with fail
      go_ret
      exact ⟨-1, rfl, by rw [HN.out]; rfl, BW.out⟩
theorem contI_any (p : Int → Bool) (K : List Int) (a1 a2 a3 : Value) (A : Option Addr) (c : Nat) (w : World) (hr : Reads w w.heap.size 1 A K.length (inC K)) (hm : K.length ≤ 9223372036854775807)
    (hp : ∀ b ∈ K, ∀ W, Below w.heap.size w W → Calls Tryz.prog 89 #[.int .i64 b, a1, a2, a3] W fun e w' => e = .returned (.bool (p b)) ∧ Below W.heap.size W w') :
    Calls Tryz.prog 88 #[.slice A K.length c, .func (.func 89) #[] #[a1, a2, a3]] w fun e w' => e = .returned (.bool (K.any p)) ∧ Below w.heap.size w w' := by
  have HC := Lib.hid (idxI_any p K _ a1 a2 a3 rfl A c w hr hm hp); clear hr hp
  generalize K.any p = r at HC ⊢
  go_enter Tryz.func88, Tryz.ntmps88
  go_wp2_with fail
  refine HC.out.mono ?_; rintro e w1 ⟨i, rfl, hi, b1⟩
  have HI := Lib.hid hi; clear hi
  go_wp2_with fail
  go_ret
  exact ⟨ret_bool HI.out, b1⟩
end Go.Proofs.YtihhpmhigmegjaaGreatDoor
namespace Go.Proofs
open Go.Shelf
def Tryz.lays5_f91_ren : Go.Shelf.Ren := ⟨fun | 5 => 91 | 8 => 150 | 7 => 149 | 19 => 184 | 20 => 185 | 10 => 175 | 11 => 176 | 12 => 177 | 13 => 178 | 14 => 179 | 15 => 180 | 16 => 181 | 17 => 182 | 18 => 183 | 30 => 206 | 31 => 207 | 32 => 208 | 33 => 209 | 34 => 210 | 35 => 170 | 40 => 223 | n => n, fun | 23 => 31 | 25 => 2 | 3 => 3 | 32 => 142 | 22 => 31 | 0 => 0 | 44 => 165 | 46 => 167 | 4 => 4 | 36 => 157 | 35 => 156 | 41 => 162 | 5 => 5 | 9 => 9 | 53 => 184 | 57 => 188 | 63 => 195 | 64 => 67 | n => n, fun | n => n⟩
theorem Tryz.lays5_f91 : Go.Proofs.SlLaysM.n5 Tryz.prog Tryz.lays5_f91_ren := {
  mixed := by kernel_rfl
  f5 := ⟨Tryz.f91.name, by decide, Tryz.func91.trans (congrArg some (by kernel_rfl))⟩
  f7 := ⟨Tryz.f149.name, by decide, Tryz.func149.trans (congrArg some (by kernel_rfl))⟩
  f8 := Tryz.func150.trans (congrArg some (by kernel_rfl))
  f10 := ⟨Tryz.f175.name, by decide, Tryz.func175.trans (congrArg some (by kernel_rfl))⟩
  f11 := ⟨Tryz.f176.name, by decide, Tryz.func176.trans (congrArg some (by kernel_rfl))⟩
  f12 := ⟨Tryz.f177.name, by decide, Tryz.func177.trans (congrArg some (by kernel_rfl))⟩
  f13 := ⟨Tryz.f178.name, by decide, Tryz.func178.trans (congrArg some (by kernel_rfl))⟩
  f14 := ⟨Tryz.f179.name, by decide, Tryz.func179.trans (congrArg some (by kernel_rfl))⟩
  f15 := ⟨Tryz.f180.name, by decide, Tryz.func180.trans (congrArg some (by kernel_rfl))⟩
  f16 := ⟨Tryz.f181.name, by decide, Tryz.func181.trans (congrArg some (by kernel_rfl))⟩
  f17 := ⟨Tryz.f182.name, by decide, Tryz.func182.trans (congrArg some (by kernel_rfl))⟩
  f18 := ⟨Tryz.f183.name, by decide, Tryz.func183.trans (congrArg some (by kernel_rfl))⟩
  f19 := Tryz.func184.trans (congrArg some (by kernel_rfl))
  f20 := Tryz.func185.trans (congrArg some (by kernel_rfl))
  f30 := ⟨Tryz.f206.name, by decide, Tryz.func206.trans (congrArg some (by kernel_rfl))⟩
  f31 := Tryz.func207.trans (congrArg some (by kernel_rfl))
  f32 := Tryz.func208.trans (congrArg some (by kernel_rfl))
  f33 := ⟨Tryz.f209.name, by decide, Tryz.func209.trans (congrArg some (by kernel_rfl))⟩
  f34 := ⟨Tryz.f210.name, by decide, Tryz.func210.trans (congrArg some (by kernel_rfl))⟩
  f35 := ⟨Tryz.f170.name, by decide, Tryz.func170.trans (congrArg some (by kernel_rfl))⟩
  f40 := ⟨Tryz.f223.name, by decide, Tryz.func223.trans (congrArg some (by kernel_rfl))⟩
  t0 := Tryz.underlying0
  a0 := Tryz.isAgg0
  z0 := Tryz.sizeOf0
  v0 := Tryz.zeroValue0
  t3 := Tryz.underlying3
  a3 := Tryz.isAgg3
  z3 := Tryz.sizeOf3
  v3 := Tryz.zeroValue3
  t4 := Tryz.underlying4
  a4 := Tryz.isAgg4
  z4 := Tryz.sizeOf4
  v4 := Tryz.zeroValue4
  t5 := Tryz.underlying5
  a5 := Tryz.isAgg5
  z5 := Tryz.sizeOf5
  v5 := Tryz.zeroValue5
  t9 := Tryz.underlying9
  a9 := Tryz.isAgg9
  z9 := Tryz.sizeOf9
  v9 := Tryz.zeroValue9
  t22 := Tryz.underlying31
  a22 := Tryz.isAgg31
  z22 := Tryz.sizeOf31
  v22 := Tryz.zeroValue31
  t23 := Tryz.underlying31
  a23 := Tryz.isAgg31
  z23 := Tryz.sizeOf31
  v23 := Tryz.zeroValue31
  t25 := Tryz.underlying2
  a25 := Tryz.isAgg2
  z25 := Tryz.sizeOf2
  v25 := Tryz.zeroValue2
  t32 := Tryz.underlying142
  a32 := Tryz.isAgg142
  z32 := Tryz.sizeOf142
  v32 := Tryz.zeroValue142
  t35 := Tryz.underlying156
  a35 := Tryz.isAgg156
  z35 := Tryz.sizeOf156
  v35 := Tryz.zeroValue156
  t36 := Tryz.underlying157
  a36 := Tryz.isAgg157
  z36 := Tryz.sizeOf157
  v36 := Tryz.zeroValue157
  t41 := Tryz.underlying162
  a41 := Tryz.isAgg162
  z41 := Tryz.sizeOf162
  v41 := Tryz.zeroValue162
  t44 := Tryz.underlying165
  a44 := Tryz.isAgg165
  z44 := Tryz.sizeOf165
  v44 := Tryz.zeroValue165
  t46 := Tryz.underlying167
  a46 := Tryz.isAgg167
  z46 := Tryz.sizeOf167
  v46 := Tryz.zeroValue167
  t53 := Tryz.underlying184
  a53 := Tryz.isAgg184
  z53 := Tryz.sizeOf184
  v53 := Tryz.zeroValue184
  t57 := Tryz.underlying188
  a57 := Tryz.isAgg188
  z57 := Tryz.sizeOf188
  v57 := Tryz.zeroValue188
  t63 := Tryz.underlying195
  a63 := Tryz.isAgg195
  z63 := Tryz.sizeOf195
  v63 := Tryz.zeroValue195
  t64 := Tryz.underlying67
  a64 := Tryz.isAgg67
  z64 := Tryz.sizeOf67
  v64 := Tryz.zeroValue67 }
end Go.Proofs
namespace Go.Proofs.YtihhpmhigmegjaaGreatDoor
open Go.ChangeShapes Go.WideShapes Go.ChangeAt Go.RowKit Go.Sort

theorem sortI_any (K : List Int) (base : Nat) (B : Option Addr) (d : Nat) (w : World) (hm : K.length ≤ 12) (h : w.ownsRow base 2 1 (.slice B K.length d) K.length (inC K)) :
    Calls Tryz.prog 91 #[.slice B K.length d] w fun e w' => e = .returned (.tuple #[]) ∧ w'.ownsRow base 2 1 (.slice B K.length d) K.length (inC (K.mergeSort fun x y => decide (x ≤ y))) ∧ w.grownBy w' (Value.slice B K.length d).ownBlock := by
  rcases Nat.eq_zero_or_pos K.length with hz | hp
  · have hK : K = [] := List.eq_nil_of_length_eq_zero hz
    subst hK
    refine (AnyM.slices_Sort_int_none Tryz.lays5_f91 B d w).mono ?_
    rintro e w' ⟨rfl, rfl⟩
    exact ⟨rfl, by rw [List.mergeSort_nil]; exact h, World.grownBy.refl _ _⟩
  · obtain ⟨g, cap, hv, hbg, hgl⟩ := h.form hp
    simp only [Value.slice.injEq, true_and] at hv
    obtain ⟨rfl, rfl⟩ := hv
    rcases h.2 with ⟨h', _⟩ | ⟨g', cap', cur, h', hb, hg, hnc, hcm, hcs, htake⟩
    · simp at h'
    · simp only [Value.slice.injEq, Option.some.injEq, Addr.mk.injEq, and_true, true_and] at h'
      obtain ⟨rfl, rfl⟩ := h'
      rw [Nat.mul_one] at htake
      have hH := holds_of_blockI hg htake
      refine (AnyM.slices_Sort_int Tryz.lays5_f91 g 0 d K w hH hgl (by omega)).mono ?_
      rintro e w' ⟨rfl, n, os, rfl⟩
      exact ⟨rfl, ownsRow_sortedI (by rw [List.length_mergeSort]) hb hg hnc hcm hcs, grownBy_sortedI _⟩
set_option maxRecDepth 100000 in
set_option maxHeartbeats 4000000 in
theorem implClr_any (xs : List Ent) (dist : Int) (hs : ∀ b ∈ xs, b.text.size ≤ 1048576) (A : Option Addr) (c : Nat) (w : World) (h : HasEnt w xs A) :
    Calls Tryz.prog 34 #[.slice A xs.length c, .int .i64 dist] w fun e w' => ∃ v, e = .returned (.tuple #[v, .int .i64 (codeE xs true dist)]) ∧ w'.ownsRow w.heap.size 2 1 v (clV xs dist).length (inC (clV xs dist)) ∧ Below w.heap.size w w' := by
  have hmf : ∀ (fn : Fn) (first cap : Array Value) (w : World), (Instr.makeFunc fn first cap).run Tryz.prog w = .ok (.func fn first cap) w := fun _ _ _ _ => rfl
  have HC0 := Lib.hid (fun W (hb : Below w.heap.size w W) => implCodeE_any xs true dist A c W (h.below hb) hs)
  have KN := Lib.hid (blks_two w 41 2 #[.slice A xs.length c] #[.int .i64 dist])
  by_cases hz : codeE xs true dist = 0
  · have HV := Lib.hid (show clV xs dist = refTo (keptL xs dist) xs.length by unfold clV; rw [if_pos hz])
    have HSt := Lib.hid (show (keptL xs dist).mergeSort (fun x y => decide (x ≤ y)) = refTo (keptL xs dist) xs.length from sort_ref (P := cP xs dist) (lt := ltE xs) xs.length)
    obtain ⟨hx, hm, _, hd⟩ := codeE_zero hz
    have HOd := Lib.hid (fun W (hb : Below w.heap.size w W) => implOrd_any xs A c W (h.below hb) hm)
    have HCl := Lib.hid (fun i k hi hk gb gi gd t ti td W hb hbi hbd hW => clr1_any xs hx dist hd i k hi hk gb gi gd t ti td A c W hb hbi hbd hW)
    have H := Lib.hid h
    rw [hz] at HC0
    have HC := Lib.hid hz
    clear h hs hx hd hz
    obtain ⟨i0, hi0, hz0, hz1, hz2⟩ := info_parts infoInt
    have HOi := Lib.hid (ordL_in (ltE xs) xs.length)
    have HOl := Lib.hid (ordL_len (ltE xs) xs.length)
    have HKp := Lib.hid (show keptL xs dist = clrL (cP xs dist) (ordL (ltE xs) xs.length) from rfl)
    obtain ⟨P, hP⟩ : ∃ P, cP xs dist = P := ⟨_, rfl⟩
    rw [hP] at HKp HCl
    clear hP
    generalize keptL xs dist = KK at HKp HV HSt
    generalize ordL (ltE xs) xs.length = O at *
    generalize clV xs dist = L at HV ⊢
    generalize codeE xs true dist = code at HC ⊢
    have hOl : O.length = xs.length := HOl.out
    rw [hOl] at HOd
    clear hOl
    go_enter Tryz.func34, Tryz.ntmps34
    go_upto_region 1 with (fail)
    generalize hW : (w.alloc (.cells #[.slice A xs.length c] 41)).alloc (.cells #[.int .i64 dist] 2) = W
    obtain ⟨kb, kd, bw, hsz⟩ := KN.out W hW.symm
    clear hW hsz
    have x0 : W.cell? ⟨w.heap.size, 0, none⟩ = some (.slice A xs.length c) := by rw [kb.cell]; rfl
    have y0 : W.cell? ⟨w.heap.size + 1, 0, none⟩ = some (.int .i64 dist) := by rw [kd.cell]; rfl
    go_wp2_with fail
    refine (HC0.out W bw).mono ?_; rintro e w1 ⟨rfl, b1⟩
    have KB := Lib.hid (kb.below b1 kb.lt); have KD := Lib.hid (kd.below b1 kd.lt); have B1 := Lib.hid (bw.trans (b1.mono bw.size)); clear kb kd bw b1 x0 y0
    have x0 : w1.cell? ⟨w.heap.size, 0, none⟩ = some (.slice A xs.length c) := by rw [KB.out.cell]; rfl
    go_wp2_with fail
    refine (HOd.out w1 B1.out).mono ?_; rintro e w2 ⟨v, rfl, own2, b2⟩
    obtain ⟨A2, c2, rfl, _⟩ := own_shape own2
    have O2 := Lib.hid own2
    have KB := Lib.hid (KB.out.below b2 KB.out.lt); have KD := Lib.hid (KD.out.below b2 KD.out.lt); have B2 := Lib.hid (B1.out.trans (b2.mono B1.out.size)); clear b2 x0 own2
    go_wp2_with fail
    go_loopw [7, 19] (fun v7 v19 wr => ∃ (k m : Nat) (B : Option Addr) (d : Nat), k ≤ xs.length ∧ Hid ((clrL P (O.take k)).length = m) ∧ v7 = .slice B m d ∧ Hid (wr.ownsRow w2.heap.size 2 1 (.slice B m d) m (inC (clrL P (O.take k)))) ∧ Hid (Below w2.heap.size w2 wr) ∧ v19 = .int .i64 k) (fun _ i _ => xs.length - (intOf i).toNat)
    case atStart => exact ⟨0, 0, none, 0, by omega, rfl, rfl, World.ownsRow_nil _ _ _ _, Below.refl _ _, rfl⟩
    case round =>
      obtain ⟨k, m, B, d, hk, HN, rfl, HK, BW, rfl⟩ := hrel
      by_cases hlt : k < xs.length
      · have hkO : k < O.length := by have := HOl.out; omega
        have HNx := Lib.hid (clrL_take (P := P) hkO)
        have HKm := Lib.hid (fun v (hv : v ∈ clrL P (O.take k)) => HOi.out v (List.mem_of_mem_take ((clrL_sub P (O.take k)).subset hv)))
        have HKl := Lib.hid (Nat.le_trans (clrL_len P (O.take k)) (by rw [List.length_take]; exact Nat.min_le_left k O.length))
        obtain ⟨ho0, ho1⟩ := HOi.out O[k] (List.getElem_mem hkO)
        obtain ⟨ov, hov⟩ : ∃ v : Nat, O[k] = (v : Int) := ⟨O[k].toNat, by omega⟩
        have hovn : ov < xs.length := by omega
        have HOc := Lib.hid (show (inC O)[k]? = some (.int .i64 ov) by unfold inC; rw [List.getElem?_map, List.getElem?_eq_getElem hkO, hov]; rfl)
        rw [hov] at HNx
        clear ho0 ho1 hov hkO
        generalize clrL P (O.take k) = K at *
        obtain rfl := HN.out
        have hmk : K.length ≤ k := HKl.out
        obtain ⟨ob, oo, rfl, hob, hoc⟩ := (Reads.of_own (own_below O2.out BW.out)).2 (by omega)
        have co := hoc k (.int .i64 ov) HOc.out
        clear hoc hob
        have T3 := Lib.hid (blks_one wr 2 #[.int .i64 ov])
        go_upto_region 8 with (fail)
        generalize hW2 : wr.alloc (.cells #[.int .i64 ov] 2) = W3
        obtain ⟨ki, bi, hsz⟩ := T3.out W3 hW2.symm
        clear hW2 hsz co
        have BI := Lib.hid (BW.out.trans (bi.mono BW.out.size))
        have KI := Lib.hid ki
        have K3 := Lib.hid (own_below HK.out bi)
        have KB3 := Lib.hid (KB.out.below BI.out KB.out.lt); have KD3 := Lib.hid (KD.out.below BI.out KD.out.lt)
        have hlw : wr.heap.size < W3.heap.size := ki.lt
        have HCt := Lib.hid (contI_any (fun v => P v ov) K (.pointer (some ⟨w.heap.size, 0, none⟩)) (.pointer (some ⟨wr.heap.size, 0, none⟩)) (.pointer (some ⟨w.heap.size + 1, 0, none⟩)) B d W3 (Reads.of_own K3.out) (by omega) (fun v hv W hW => by
          obtain ⟨h0, h1⟩ := HKm.out v hv
          obtain ⟨vn, rfl⟩ : ∃ n : Nat, v = (n : Int) := ⟨v.toNat, by omega⟩
          exact HCl.out ov vn hovn (by omega) w.heap.size wr.heap.size (w.heap.size + 1) _ _ _ W (KB3.out.below hW KB3.out.lt) (KI.out.below hW KI.out.lt) (KD3.out.below hW KD3.out.lt) (H.out.below ((B2.out.trans (BI.out.mono B2.out.size)).trans (hW.mono (B2.out.trans (BI.out.mono B2.out.size)).size)))))
        clear ki bi
        cases hf : K.any (fun v => P v ov)
        · rw [hf] at HNx HCt
          clear hf
          go_wp2_with fail
          refine HCt.out.mono ?_; rintro e w4 ⟨rfl, b4⟩
          have B4 := Lib.hid (BI.out.trans (b4.mono BI.out.size))
          have K4 := Lib.hid (own_below K3.out b4)
          have x1 : w4.cell? ⟨wr.heap.size, 0, none⟩ = some (.int .i64 ov) := by rw [(KI.out.below b4 KI.out.lt).cell]; rfl
          clear b4
          go_wp2_with (at_builtin; refine wpList_append_any _ rfl (.tmp 27) (.tmp 29) _ rfl w2.heap.size 2 i0 _ 1 8 Tryz.underlying31 hi0 hz0 hz1 hz2 rfl (by omega) (.slice B K.length d) K.length (inC K) rfl (K4.out.alloc _) _ (some ⟨w4.heap.size, 0, none⟩) 1 1 [.int .i64 ov] rfl (new_in1 _ _ _) (by simp [Value.oneCell']) (by simp only [maxLen]; omega) (by omega) (by have := B4.out.size; simp; omega) ?_; intro v5 w5 hown5 hg5 hat5; obtain ⟨B5, d5, rfl, _⟩ := own_shape hown5)
          go_roundw
          case rel => exact ⟨k + 1, K.length + 1, B5, d5, by omega, by rw [HNx.out]; simp [Hid], rfl, by rw [HNx.out]; (try simp only [Bool.false_eq_true, if_false]); rw [inC_snoc]; exact hown5, below_own (B4.out.alloc B4.out.size _) (K4.out.alloc _) hg5 (Nat.le_refl _) (by have := B4.out.size; simp; omega), by go_num⟩
          case measure => simp [intOf]; omega
        · rw [hf] at HNx HCt
          clear hf
          go_wp2_with fail
          refine HCt.out.mono ?_; rintro e w4 ⟨rfl, b4⟩
          have B4 := Lib.hid (BI.out.trans (b4.mono BI.out.size))
          have K4 := Lib.hid (own_below K3.out b4)
          clear b4
          go_wp2_with fail
          go_roundw
          case rel => exact ⟨k + 1, K.length, B, d, by omega, by rw [HNx.out]; simp [Hid], rfl, by rw [HNx.out]; exact K4.out, B4.out, by go_num⟩
          case measure => simp [intOf]; omega
      · obtain rfl : k = xs.length := by omega
        have htk : O.take xs.length = O := List.take_of_length_le (by have := HOl.out; omega)
        rw [htk, ← HKp.out] at HN HK
        obtain rfl := HN.out
        have hkl : KK.length ≤ xs.length := by rw [HKp.out]; have := clrL_len P O; have := HOl.out; omega
        have HS := Lib.hid (sortI_any KK w2.heap.size B d wr (by omega) HK.out)
        have NB := Lib.hid (fun q hq => (own_lt HK.out q hq).1)
        clear htk HK
        go_wp2_with fail
        refine HS.out.mono ?_; rintro e w4 ⟨rfl, o4, g4⟩
        have O4 := Lib.hid o4; have G4 := Lib.hid g4; clear o4 g4
        have HL := Lib.hid (show KK.length = L.length by rw [HV.out, ← HSt.out, List.length_mergeSort])
        go_wp2_with fail
        go_ret2
        exact ⟨_, by rw [HC.out]; (first | done | rfl), by
          have := O4.out
          rw [HSt.out, ← HV.out] at this
          rw [← HL.out]
          exact own_mono this B2.out.size, B2.out.trans ((BW.out.grown G4.out BW.out.size (fun q hq => NB.out q hq)).mono B2.out.size)⟩
  · have HV := Lib.hid (show clV xs dist = [] by unfold clV; rw [if_neg hz])
    generalize clV xs dist = L at HV ⊢
    generalize codeE xs true dist = cz at HC0 hz ⊢
    have hne : (cz != 0) = true := by rw [bne_iff_ne]; exact hz
    clear hz hs h
    go_enter Tryz.func34, Tryz.ntmps34
    go_upto_region 1 with (fail)
    generalize hW : (w.alloc (.cells #[.slice A xs.length c] 41)).alloc (.cells #[.int .i64 dist] 2) = W
    obtain ⟨kb, kd, bw, hsz⟩ := KN.out W hW.symm
    clear hW hsz
    have x0 : W.cell? ⟨w.heap.size, 0, none⟩ = some (.slice A xs.length c) := by rw [kb.cell]; rfl
    have y0 : W.cell? ⟨w.heap.size + 1, 0, none⟩ = some (.int .i64 dist) := by rw [kd.cell]; rfl
    go_wp2_with fail
    refine (HC0.out W bw).mono ?_; rintro e w1 ⟨rfl, b1⟩
    go_wp2_with fail
    go_ret2
    exact ⟨_, (by first | done | rfl), by rw [HV.out]; exact World.ownsRow_nil _ _ _ _, bw.trans (b1.mono bw.size)⟩
end Go.Proofs.YtihhpmhigmegjaaGreatDoor
namespace Go.Proofs.YtihhpmhigmegjaaGreatDoor
open Go.ChangeShapes Go.WideShapes Go.ChangeAt Go.RowKit Go.Sort

def bpL (xs : List Ent) : List Int := if areE xs = true then ordL (ltE xs) xs.length else []
def bpC (xs : List Ent) : Int := if areE xs = true then 0 else 1
theorem areE_facts {xs : List Ent} (h : areE xs = true) : (∀ f ∈ xs, entB f = true) ∧ xs.length ≤ 12 := by
  simp only [areE, Bool.and_eq_true, List.all_eq_true, decide_eq_true_eq] at h
  exact ⟨h.1, by omega⟩
theorem bpL_len (xs : List Ent) : (bpL xs).length ≤ xs.length := by
  unfold bpL
  split
  · rw [ordL_len]; exact Nat.le_refl _
  · simp
set_option maxRecDepth 100000 in
theorem specBp_any (xs : List Ent) (hs : ∀ b ∈ xs, b.text.size ≤ 1048576) (A : Option Addr) (c : Nat) (w : World) (h : HasEnt w xs A) :
    Calls Tryz.prog 37 #[.slice A xs.length c] w fun e w' => ∃ v, e = .returned (.tuple #[v, .int .i64 (bpC xs)]) ∧ w'.ownsRow w.heap.size 2 1 v (bpL xs).length (inC (bpL xs)) ∧ Below w.heap.size w w' := by
  have HA := Lib.hid (specAreE_any xs A c w h hs)
  have HB := Lib.hid (fun W (hb : Below w.heap.size w W) (ha : areE xs = true) => specOrd_any xs (areE_facts ha).1 A c W (h.below hb) (areE_facts ha).2)
  have HL := Lib.hid (show bpL xs = if areE xs = true then ordL (ltE xs) xs.length else [] from rfl)
  have HC := Lib.hid (show bpC xs = if areE xs = true then 0 else 1 from rfl)
  clear h hs
  generalize bpL xs = L at HL ⊢
  generalize bpC xs = code at HC ⊢
  cases ha : areE xs
  · rw [ha] at HA HL HC
    clear HB ha
    go_enter Tryz.func37, Tryz.ntmps37
    go_wp2_with fail
    refine HA.out.mono ?_; rintro e w1 ⟨rfl, b1⟩
    go_wp2_with fail
    go_ret2
    exact ⟨_, by rw [HC.out]; rfl, by rw [HL.out]; exact World.ownsRow_nil _ _ _ _, b1⟩
  · have HB2 := Lib.hid (fun W hb => HB.out W hb ha)
    rw [ha] at HA HL HC
    rw [if_pos rfl] at HL HC
    have HL2 := HL.out
    rw [← HL2] at HB2
    clear HB ha HL2
    go_enter Tryz.func37, Tryz.ntmps37
    go_wp2_with fail
    refine HA.out.mono ?_; rintro e w1 ⟨rfl, b1⟩
    have B1 := Lib.hid b1; clear b1
    go_wp2_with fail
    refine (HB2.out w1 B1.out).mono ?_; rintro e w2 ⟨v, rfl, own2, b2⟩
    have O2 := Lib.hid own2; have B2 := Lib.hid b2; clear own2 b2
    go_wp2_with fail
    go_ret2
    exact ⟨_, by rw [HC.out]; (first | done | rfl), own_mono O2.out B1.out.size, B1.out.trans (B2.out.mono B1.out.size)⟩
set_option maxRecDepth 100000 in
theorem implBp_any (xs : List Ent) (hs : ∀ b ∈ xs, b.text.size ≤ 1048576) (A : Option Addr) (c : Nat) (w : World) (h : HasEnt w xs A) :
    Calls Tryz.prog 36 #[.slice A xs.length c] w fun e w' => ∃ v, e = .returned (.tuple #[v, .int .i64 (bpC xs)]) ∧ w'.ownsRow w.heap.size 2 1 v (bpL xs).length (inC (bpL xs)) ∧ Below w.heap.size w w' := by
  have HA := Lib.hid (implAreE_any xs A c w h hs)
  have HB := Lib.hid (fun W (hb : Below w.heap.size w W) (ha : areE xs = true) => implOrd_any xs A c W (h.below hb) (areE_facts ha).2)
  have HL := Lib.hid (show bpL xs = if areE xs = true then ordL (ltE xs) xs.length else [] from rfl)
  have HC := Lib.hid (show bpC xs = if areE xs = true then 0 else 1 from rfl)
  clear h hs
  generalize bpL xs = L at HL ⊢
  generalize bpC xs = code at HC ⊢
  cases ha : areE xs
  · rw [ha] at HA HL HC
    clear HB ha
    go_enter Tryz.func36, Tryz.ntmps36
    go_wp2_with fail
    refine HA.out.mono ?_; rintro e w1 ⟨rfl, b1⟩
    go_wp2_with fail
    go_ret2
    exact ⟨_, by rw [HC.out]; rfl, by rw [HL.out]; exact World.ownsRow_nil _ _ _ _, b1⟩
  · have HB2 := Lib.hid (fun W hb => HB.out W hb ha)
    rw [ha] at HA HL HC
    rw [if_pos rfl] at HL HC
    have HL2 := HL.out
    rw [← HL2] at HB2
    clear HB ha HL2
    go_enter Tryz.func36, Tryz.ntmps36
    go_wp2_with fail
    refine HA.out.mono ?_; rintro e w1 ⟨rfl, b1⟩
    have B1 := Lib.hid b1; clear b1
    go_wp2_with fail
    refine (HB2.out w1 B1.out).mono ?_; rintro e w2 ⟨v, rfl, own2, b2⟩
    have O2 := Lib.hid own2; have B2 := Lib.hid b2; clear own2 b2
    go_wp2_with fail
    go_ret2
    exact ⟨_, by rw [HC.out]; (first | done | rfl), own_mono O2.out B1.out.size, B1.out.trans (B2.out.mono B1.out.size)⟩
end Go.Proofs.YtihhpmhigmegjaaGreatDoor
namespace Go.Proofs.YtihhpmhigmegjaaGreatDoor
open Go.ChangeShapes Go.WideShapes Go.ChangeAt Go.RowKit Go.Sort

theorem cmpE_vals (a b : Ent) : -1 ≤ cmpE a b ∧ cmpE a b ≤ 1 := by
  have hI : ∀ x y : Int, -1 ≤ cmpI x y ∧ cmpI x y ≤ 1 := fun x y => by unfold cmpI; (repeat' split) <;> omega
  have h1 := hI a.since b.since; have h3 := hI a.x b.x; have h4 := hI a.y b.y
  have h2 : -1 ≤ cmpS a.text b.text ∧ cmpS a.text b.text ≤ 1 := by rcases cmpS_vals a.text b.text with h | h | h <;> omega
  rw [cmpE_eq]
  (repeat' split) <;> omega
theorem cprT_back {a b : Ent} (h : (cprT a b).2 = 0) : cprT b a = (-(cprT a b).1, 0) ∧ ((cprT a b).1 = 0 ↔ a = b) ∧ -1 ≤ (cprT a b).1 ∧ (cprT a b).1 ≤ 1 := by
  unfold cprT at h ⊢
  split at h
  · rename_i hc
    have hc' : (entB b && entB a) = true := by rw [Bool.and_comm]; exact hc
    rw [if_pos hc, if_pos hc']
    exact ⟨Prod.ext (cmpE_anti b a) rfl, cmpE_zero a b, (cmpE_vals a b).1, (cmpE_vals a b).2⟩
  · cases h
theorem cprT_01 (a b : Ent) : (cprT a b).2 = 0 ∨ (cprT a b).2 = 1 := by unfold cprT; split <;> simp
theorem bpC_01 (xs : List Ent) : bpC xs = 0 ∨ bpC xs = 1 := by unfold bpC; split <;> simp
theorem areE_bpC (xs : List Ent) : areE xs = (bpC xs == 0) := by unfold bpC; cases areE xs <;> rfl
theorem code_bp {xs : List Ent} {d : Int} (h : bpC xs = 1) : codeE xs true d = 1 := by
  unfold bpC at h
  split at h
  · cases h
  · rename_i ha
    unfold codeE; rw [if_neg (by simpa using ha)]
theorem code_at {xs : List Ent} {d : Int} (hz : codeE xs true d = 0) {i : Nat} (hi : i < xs.length) : codeE xs (entB xs[i]) d = 0 := by
  obtain ⟨hx, _⟩ := codeE_zero hz
  rw [hx _ (List.getElem_mem hi)]; exact hz
def NextOk (xs : List Ent) (O : List Int) : Prop := ∀ (k : Nat) (h0 : k < O.length) (h1 : k + 1 < O.length), ∃ (p q : Nat) (hp : p < xs.length) (hq : q < xs.length) (m : Int), O[k]'h0 = (p : Int) ∧ O[k + 1]'h1 = (q : Int) ∧ cprT (xs[p]'hp) (xs[q]'hq) = (m, 0) ∧ m ≤ 0
theorem bp_next {xs : List Ent} (h : bpC xs = 0) : NextOk xs (bpL xs) := by
  have ha : areE xs = true := by rw [areE_bpC, h]; rfl
  have hL : bpL xs = ordL (ltE xs) xs.length := by unfold bpL; rw [if_pos ha]
  rw [hL]
  intro k h0 hk'
  have hin := ordL_in (ltE xs) xs.length
  have h1 := hin _ (List.getElem_mem (show k < _ by omega))
  have h2 := hin _ (List.getElem_mem hk')
  have hn := ord_nbr xs hk'
  generalize (ordL (ltE xs) xs.length)[k]'h0 = p at *
  generalize (ordL (ltE xs) xs.length)[k + 1]'hk' = q at *
  obtain ⟨p, rfl⟩ : ∃ n : Nat, p = n := ⟨p.toNat, by omega⟩
  obtain ⟨q, rfl⟩ : ∃ n : Nat, q = n := ⟨q.toNat, by omega⟩
  refine ⟨p, q, by omega, by omega, cmpE xs[p] xs[q], rfl, rfl, ?_, ?_⟩
  · have hx := (areE_facts ha).1
    unfold cprT
    rw [hx _ (List.getElem_mem (by omega)), hx _ (List.getElem_mem (by omega))]; rfl
  · rw [← atE_eq (by omega), ← atE_eq (by omega)]; exact hn
set_option maxRecDepth 100000 in
set_option maxHeartbeats 8000000 in
theorem lawPrec_any (A : Option Addr) (n c : Nat) (w : World) (hn : n ≤ 9223372036854775807) (h : n ≤ 4096 → Code8 w A n) :
    Calls Tryz.prog 5 #[.slice A n c] w fun e w' => e = .returned (.bool true) ∧ Below w.heap.size w w' := by
  have HC := Lib.hid h; clear h
  by_cases hb : (4096 : Int) < n
  · have hd : decide ((4096 : Int) < n) = true := by simpa using hb
    have HD := Lib.hid hd; clear hd hb
    go_enter Tryz.func5, Tryz.ntmps5
    go_wp2_with fail
    refine (big_any A n c hn w).mono ?_; rw [HD.out]; rintro e w' ⟨rfl, rfl⟩
    go_wp2_with fail
    go_ret
    exact ⟨rfl, Below.refl _ _⟩
  · have hd : decide ((4096 : Int) < n) = false := by simpa using hb
    have HD := Lib.hid hd; clear hd
    have hc := HC.out (by omega)
    have Cd0 := Lib.hid hc; clear hc hb
    have B0 := Lib.hid (Below.refl w.heap.size w)
    go_enter Tryz.func5, Tryz.ntmps5
    go_wp2_with fail
    refine (big_any A n c hn w).mono ?_; rw [HD.out]; rintro e w' ⟨rfl, rfl⟩
    go_wp2_with fail
    refine (drawClr_any A n c w Cd0.out).mono ?_
    rintro e w1 ⟨L, dd, Bq, dq, rfl, own, hsm, hln, b⟩
    have B1 := Lib.hid (B0.out.trans (b.mono B0.out.size))
    have Cd1 := Lib.hid (Cd0.out.below b)
    have OL1 := Lib.hid (own)
    clear b B0 Cd0
    clear own
    have hz : ∀ b ∈ L, b.text.size ≤ 1048576 := fun b hb => by have := hsm b hb; dsimp only [SmallE] at this; omega
    have HH := Lib.hid (fun W (h : W.ownsRow w.heap.size 45 4 (.slice Bq L.length dq) L.length (enC L)) => (⟨Reads.of_own h, by omega, fun b hb => by have := hz b hb; unfold Ent.Ok; omega⟩ : HasEnt W L Bq))
    clear hsm
    have IC := Lib.hid (fun W h => implClr_any L dd hz Bq dq W (HH.out W h))
    have SC := Lib.hid (fun W h => specClr_any L dd hz Bq dq W (HH.out W h))
    have IB := Lib.hid (fun W h => implBp_any L hz Bq dq W (HH.out W h))
    have SB := Lib.hid (fun W h => specBp_any L hz Bq dq W (HH.out W h))
    have IA := Lib.hid (fun W h => (areE_bpC L) ▸ implAreE_any L Bq dq W (HH.out W h) hz)
    have IH := Lib.hid (fun (hz0 : codeE L true dd = 0) W h (i : Nat) (hi : i < L.length) => (code_at hz0 hi) ▸ implHomL_any L L[i] dd hz (hz _ (List.getElem_mem hi)) Bq dq W (HH.out W h))
    have IN := Lib.hid (fun W (p q : Nat) (hp : p < L.length) (hq : q < L.length) => implCpr_any L[p] L[q] (hz _ (List.getElem_mem hp)) (hz _ (List.getElem_mem hq)) W)
    have HM := Lib.hid (fun (hz0 : codeE L true dd = 0) (i : Nat) (hi : i < L.length) => clr_met hz0 hi)
    have HN := Lib.hid (fun (h : bpC L = 0) => bp_next h)
    have HX := Lib.hid (fun h : bpC L = 1 => code_bp (d := dd) h)
    have HCl := Lib.hid (show (clV L dd).length ≤ 20 from Nat.le_trans (clV_len L dd) hln)
    have HOl := Lib.hid (show (bpL L).length ≤ 20 from Nat.le_trans (bpL_len L) hln)
    have HRl := Lib.hid (fun (i : Nat) (hi : i < L.length) => (show (rowE L L[i] dd (pAll L[i] dd)).length ≤ 20 from Nat.le_trans (rowE_len _ _ _ _) hln))
    have hb01 := bpC_01 L
    unfold Ent.val at IH IN
    generalize clV L dd = C at *
    generalize bpL L = O at *
    generalize bpC L = bc at *
    generalize codeE L true dd = code at *
    have hCl := HCl.out
    have hOl := HOl.out
    clear HH hz HCl HOl
    go_wp2_with fail
    refine (IC.out _ OL1.out).mono ?_
    rintro e w2 ⟨v, rfl, own, b⟩
    clear IC
    obtain ⟨AC, cC, rfl, _⟩ := own_shape own
    have B2 := Lib.hid (B1.out.trans (b.mono B1.out.size))
    have Cd2 := Lib.hid (Cd1.out.below b)
    have OL2 := Lib.hid (own_below OL1.out b)
    have OC2 := Lib.hid (own)
    clear b B1 Cd1 OL1
    clear own
    go_wp2_with fail
    refine (SC.out _ OL2.out).mono ?_
    rintro e w3 ⟨v, rfl, own, b⟩
    clear SC
    obtain ⟨AD, cD, rfl, _⟩ := own_shape own
    have B3 := Lib.hid (B2.out.trans (b.mono B2.out.size))
    have Cd3 := Lib.hid (Cd2.out.below b)
    have OL3 := Lib.hid (own_below OL2.out b)
    have OC3 := Lib.hid (own_below OC2.out b)
    have OD3 := Lib.hid (own)
    clear b B2 Cd2 OL2 OC2
    clear own
    go_wp2_with fail
    refine (IB.out _ OL3.out).mono ?_
    rintro e w4 ⟨v, rfl, own, b⟩
    clear IB
    obtain ⟨AO, cO, rfl, _⟩ := own_shape own
    have B4 := Lib.hid (B3.out.trans (b.mono B3.out.size))
    have Cd4 := Lib.hid (Cd3.out.below b)
    have OL4 := Lib.hid (own_below OL3.out b)
    have OC4 := Lib.hid (own_below OC3.out b)
    have OD4 := Lib.hid (own_below OD3.out b)
    have OO4 := Lib.hid (own)
    clear b B3 Cd3 OL3 OC3 OD3
    clear own
    go_wp2_with fail
    refine (SB.out _ OL4.out).mono ?_
    rintro e w5 ⟨v, rfl, own, b⟩
    clear SB
    obtain ⟨AQ, cQ, rfl, _⟩ := own_shape own
    have B5 := Lib.hid (B4.out.trans (b.mono B4.out.size))
    have Cd5 := Lib.hid (Cd4.out.below b)
    have OL5 := Lib.hid (own_below OL4.out b)
    have OC5 := Lib.hid (own_below OC4.out b)
    have OD5 := Lib.hid (own_below OD4.out b)
    have OO5 := Lib.hid (own_below OO4.out b)
    have OQ5 := Lib.hid (own)
    clear b B4 Cd4 OL4 OC4 OD4 OO4
    clear own
    go_wp2_with fail
    refine (drawCmp_any A n c _ Cd5.out).mono ?_
    rintro e w6 ⟨⟨at_, ax, ay, as_⟩, ⟨bt, bx, by_, bs⟩, rfl, sa, sb, b⟩
    dsimp only [SmallE] at sa sb
    have CI := Lib.hid (implCpr_any ⟨at_, ax, ay, as_⟩ ⟨bt, bx, by_, bs⟩ (by dsimp only; omega) (by dsimp only; omega))
    have CS := Lib.hid (specCpr_any ⟨at_, ax, ay, as_⟩ ⟨bt, bx, by_, bs⟩ (by dsimp only; omega) (by dsimp only; omega))
    have CB := Lib.hid (implCpr_any ⟨bt, bx, by_, bs⟩ ⟨at_, ax, ay, as_⟩ (by dsimp only; omega) (by dsimp only; omega))
    have EI := Lib.hid (implEnt_any ⟨at_, ax, ay, as_⟩ (by dsimp only; omega))
    have ES := Lib.hid (specEnt_any ⟨at_, ax, ay, as_⟩ (by dsimp only; omega))
    have PB := Lib.hid (fun h => cprT_back (a := ⟨at_, ax, ay, as_⟩) (b := ⟨bt, bx, by_, bs⟩) h)
    have p01 := cprT_01 ⟨at_, ax, ay, as_⟩ ⟨bt, bx, by_, bs⟩
    generalize cprT ⟨at_, ax, ay, as_⟩ ⟨bt, bx, by_, bs⟩ = pr at *
    generalize cprT ⟨bt, bx, by_, bs⟩ ⟨at_, ax, ay, as_⟩ = pq at *
    generalize entB ⟨at_, ax, ay, as_⟩ = ea at *
    obtain ⟨pn, pc⟩ := pr
    unfold Ent.val at *
    dsimp only at *
    have B6 := Lib.hid (B5.out.trans (b.mono B5.out.size))
    have Cd6 := Lib.hid (Cd5.out.below b)
    have OL6 := Lib.hid (own_below OL5.out b)
    have OC6 := Lib.hid (own_below OC5.out b)
    have OD6 := Lib.hid (own_below OD5.out b)
    have OO6 := Lib.hid (own_below OO5.out b)
    have OQ6 := Lib.hid (own_below OQ5.out b)
    clear b B5 Cd5 OL5 OC5 OD5 OO5 OQ5
    clear Cd6
    have KN := Lib.hid (blks_two w6 45 45 #[.string at_, .int .i64 ax, .int .i64 ay, .int .i64 as_] #[.string bt, .int .i64 bx, .int .i64 by_, .int .i64 bs])
    go_upto_region 9 with (fail)
    generalize hW : (w6.alloc (.cells #[.string at_, .int .i64 ax, .int .i64 ay, .int .i64 as_] 45)).alloc (.cells #[.string bt, .int .i64 bx, .int .i64 by_, .int .i64 bs] 45) = w7
    obtain ⟨ka, kb, b, _⟩ := KN.out w7 hW.symm
    clear hW KN
    have ka := Lib.hid ka; have kb := Lib.hid kb
    have B7 := Lib.hid (B6.out.trans (b.mono B6.out.size))
    have OL7 := Lib.hid (own_below OL6.out b)
    have OC7 := Lib.hid (own_below OC6.out b)
    have OD7 := Lib.hid (own_below OD6.out b)
    have OO7 := Lib.hid (own_below OO6.out b)
    have OQ7 := Lib.hid (own_below OQ6.out b)
    have XA7 := Lib.hid (ka.out)
    have XB7 := Lib.hid (kb.out)
    clear b B6 OL6 OC6 OD6 OO6 OQ6
    clear ka kb
    obtain ⟨xa0, xa1, xa2, xa3⟩ := cells_4 XA7.out
    obtain ⟨xb0, xb1, xb2, xb3⟩ := cells_4 XB7.out
    go_wp2_with fail
    refine (CI.out _).mono ?_
    rintro e w8 ⟨rfl, b⟩
    clear xa0 xa1 xa2 xa3 xb0 xb1 xb2 xb3
    have B8 := Lib.hid (B7.out.trans (b.mono B7.out.size))
    have OL8 := Lib.hid (own_below OL7.out b)
    have OC8 := Lib.hid (own_below OC7.out b)
    have OD8 := Lib.hid (own_below OD7.out b)
    have OO8 := Lib.hid (own_below OO7.out b)
    have OQ8 := Lib.hid (own_below OQ7.out b)
    have XA8 := Lib.hid (XA7.out.below b XA7.out.lt)
    have XB8 := Lib.hid (XB7.out.below b XB7.out.lt)
    clear b B7 OL7 OC7 OD7 OO7 OQ7 XA7 XB7
    obtain ⟨xa0, xa1, xa2, xa3⟩ := cells_4 XA8.out
    obtain ⟨xb0, xb1, xb2, xb3⟩ := cells_4 XB8.out
    go_wp2_with fail
    refine (CS.out _).mono ?_
    rintro e w9 ⟨rfl, b⟩
    clear xa0 xa1 xa2 xa3 xb0 xb1 xb2 xb3 CS
    have B9 := Lib.hid (B8.out.trans (b.mono B8.out.size))
    have OL9 := Lib.hid (own_below OL8.out b)
    have OC9 := Lib.hid (own_below OC8.out b)
    have OD9 := Lib.hid (own_below OD8.out b)
    have OO9 := Lib.hid (own_below OO8.out b)
    have OQ9 := Lib.hid (own_below OQ8.out b)
    have XA9 := Lib.hid (XA8.out.below b XA8.out.lt)
    have XB9 := Lib.hid (XB8.out.below b XB8.out.lt)
    clear b B8 OL8 OC8 OD8 OO8 OQ8 XA8 XB8
    go_upto_region 11 with (fail)
    obtain ⟨xa0, xa1, xa2, xa3⟩ := cells_4 XA9.out
    have g0 := cell_regrown xa0
    have g1 := cell_regrown xa1
    have g2 := cell_regrown xa2
    have g3 := cell_regrown xa3
    have r1 : ∀ d os, Calls Tryz.prog 19 #[.slice AC C.length cC, .slice AD C.length cD] (grow (redrawn w9 d) os) (fun e w'' => e = .returned (.bool true) ∧ ∃ p : Regrown, w'' = grow (redrawn w9 p.d) p.os) := fun d os => Calls.regrown_of (likeInts_same C (by omega) AC AD cC cD _ (Reads.of_own (own_below OC9.out (below_regrown w9 d os))) (Reads.of_own (own_below OD9.out (below_regrown w9 d os))))
    have r2 : ∀ d os, Calls Tryz.prog 19 #[.slice AO O.length cO, .slice AQ O.length cQ] (grow (redrawn w9 d) os) (fun e w'' => e = .returned (.bool true) ∧ ∃ p : Regrown, w'' = grow (redrawn w9 p.d) p.os) := fun d os => Calls.regrown_of (likeInts_same O (by omega) AO AQ cO cQ _ (Reads.of_own (own_below OO9.out (below_regrown w9 d os))) (Reads.of_own (own_below OQ9.out (below_regrown w9 d os))))
    have r3 : ∀ d os, Calls Tryz.prog 41 #[.slice Bq L.length dq] (grow (redrawn w9 d) os) (fun e w'' => e = .returned (.bool (bc == 0)) ∧ ∃ p : Regrown, w'' = grow (redrawn w9 p.d) p.os) := fun d os => Calls.regrown_of (IA.out _ (own_below OL9.out (below_regrown w9 d os)))
    have r4 : ∀ d os, Calls Tryz.prog 42 #[.agg #[.string at_, .int .i64 ax, .int .i64 ay, .int .i64 as_]] (grow (redrawn w9 d) os) (fun e w'' => e = .returned (.bool ea) ∧ ∃ p : Regrown, w'' = grow (redrawn w9 p.d) p.os) := fun d os => Calls.regrown_of (EI.out _)
    have r5 : ∀ d os, Calls Tryz.prog 43 #[.agg #[.string at_, .int .i64 ax, .int .i64 ay, .int .i64 as_]] (grow (redrawn w9 d) os) (fun e w'' => e = .returned (.bool ea) ∧ ∃ p : Regrown, w'' = grow (redrawn w9 p.d) p.os) := fun d os => Calls.regrown_of (ES.out _)
    clear xa0 xa1 xa2 xa3
    refine wp_region_quiet_below (by kernel_rfl) (by kernel_rfl) ?_; (repeat (first | go_big_quiet_step ((first | with_reducible exact r1 _ _ | with_reducible exact r2 _ _ | with_reducible exact r3 _ _ | with_reducible exact r4 _ _ | with_reducible exact r5 _ _)))); refine wpQuiet_nil ?_; intro _ hw'; obtain ⟨⟨dq, osq⟩, rfl⟩ := hw'
    have b := below_regrown w9 dq osq
    generalize grow (redrawn w9 dq) osq = w10 at *
    clear r1 r2 r3 r4 r5 g0 g1 g2 g3 IA EI ES
    have B10 := Lib.hid (B9.out.trans (b.mono B9.out.size))
    have OL10 := Lib.hid (own_below OL9.out b)
    have OC10 := Lib.hid (own_below OC9.out b)
    have OD10 := Lib.hid (own_below OD9.out b)
    have OO10 := Lib.hid (own_below OO9.out b)
    have OQ10 := Lib.hid (own_below OQ9.out b)
    have XA10 := Lib.hid (XA9.out.below b XA9.out.lt)
    have XB10 := Lib.hid (XB9.out.below b XB9.out.lt)
    clear b B9 OL9 OC9 OD9 OO9 OQ9 XA9 XB9
    clear OD10
    clear OQ10
    go_upto_if 120 with (fail)
    go_cut [] (fun wx => Below w10.heap.size w10 wx)
    case first =>
      rcases p01 with rfl | rfl
      rotate_left
      · go_wp2_with fail
        go_meet
        exact Below.refl _ _
      · obtain ⟨rfl, hp0, hp1, hp2⟩ := PB.out rfl
        have hneg : IntKind.i64.wrap (-pn) = -pn := IntWalk.i64_in _ (by omega)
        have HP0 := Lib.hid hp0; clear hp0 PB
        obtain ⟨xa0, xa1, xa2, xa3⟩ := cells_4 XA10.out
        obtain ⟨xb0, xb1, xb2, xb3⟩ := cells_4 XB10.out
        go_wp2_with fail
        refine (CB.out _).mono ?_
        rintro e w11 ⟨rfl, b⟩
        have BY := Lib.hid b
        clear xa0 xa1 xa2 xa3 xb0 xb1 xb2 xb3 CB
        have B11 := Lib.hid (B10.out.trans (b.mono B10.out.size))
        have OL11 := Lib.hid (own_below OL10.out b)
        have OC11 := Lib.hid (own_below OC10.out b)
        have OO11 := Lib.hid (own_below OO10.out b)
        have XA11 := Lib.hid (XA10.out.below b XA10.out.lt)
        have XB11 := Lib.hid (XB10.out.below b XB10.out.lt)
        clear b B10 OL10 OC10 OO10 XA10 XB10
        obtain ⟨xa0, xa1, xa2, xa3⟩ := cells_4 XA11.out
        obtain ⟨xb0, xb1, xb2, xb3⟩ := cells_4 XB11.out
        have BX := Lib.hid (show Below w10.heap.size w10 w11 from BY.out)
        by_cases hpn : pn = 0
        · have he := HP0.out.1 hpn
          injection he with e1 e2 e3 e4
          subst e1 e2 e3 e4 hpn
          go_wp2_with fail
          go_meet
          exact BX.out
        · have hpn1 : (pn == 0) = false := by simpa using hpn
          have hne : ¬ (at_ = bt ∧ ax = bx ∧ ay = by_ ∧ as_ = bs) := fun h => hpn (HP0.out.2 (by obtain ⟨rfl, rfl, rfl, rfl⟩ := h; rfl))
          by_cases f1 : at_ = bt
          · by_cases f2 : ax = bx
            · by_cases f3 : ay = by_
              · have f4 : ¬ as_ = bs := fun h => hne ⟨f1, f2, f3, h⟩
                have f4' : (as_ == bs) = false := by simpa using f4
                clear f4 hne
                subst f1 f2 f3
                go_wp2_with fail
                go_meet
                exact BX.out
              · have f3' : (ay == by_) = false := by simpa using f3
                clear f3 hne
                subst f1 f2
                go_wp2_with fail
                go_meet
                exact BX.out
            · have f2' : (ax == bx) = false := by simpa using f2
              clear f2 hne
              subst f1
              go_wp2_with fail
              go_meet
              exact BX.out
          · have f1' : (at_.toList == bt.toList) = false := by rw [str_eq]; simpa using f1
            clear f1 hne
            go_wp2_with fail
            go_meet
            exact BX.out
    case rest =>
      have b := hcut
      generalize wc = w11 at *
      clear wc hcut CB PB p01
      have B11 := Lib.hid (B10.out.trans (b.mono B10.out.size))
      have OL11 := Lib.hid (own_below OL10.out b)
      have OC11 := Lib.hid (own_below OC10.out b)
      have OO11 := Lib.hid (own_below OO10.out b)
      have XA11 := Lib.hid (XA10.out.below b XA10.out.lt)
      have XB11 := Lib.hid (XB10.out.below b XB10.out.lt)
      clear b B10 OL10 OC10 OO10 XA10 XB10
      clear XA11
      clear XB11
      rcases hb01 with rfl | rfl
      rotate_left
      · skip
        have hX := HX.out rfl
        subst hX
        clear HX HN HM IH IN
        go_wp2_with fail
        go_loopw [21] (fun v21 wr => Hid (Below w11.heap.size w11 wr) ∧ v21 = .int .i64 1) (fun _ _ => 0)
        case atStart => exact ⟨Below.refl _ _, rfl⟩
        case round =>
          obtain ⟨BW, rfl⟩ := hrel
          go_wp2_with fail
          go_ret
          exact ⟨rfl, B11.out.trans (BW.out.mono B11.out.size)⟩
      clear HX
      have HN1 := Lib.hid (HN.out rfl)
      clear HN
      go_wp2_with fail
      go_loopw [21] (fun v21 wr => ∃ k : Nat, k ≤ O.length ∧ Hid (Below w11.heap.size w11 wr) ∧ v21 = .int .i64 ((k : Int) + 1)) (fun v _ => O.length + 1 - (intOf v).toNat)
      case atStart => exact ⟨0, by omega, Below.refl _ _, rfl⟩
      case round =>
        obtain ⟨k, hk, BW, rfl⟩ := hrel
        by_cases hlt : k + 1 < O.length
        · obtain ⟨p, q, hp, hq, m, e1, e2, e3, hm⟩ := HN1.out k (by omega) hlt
          have OO := Lib.hid (own_below OO11.out BW.out); have OL := Lib.hid (own_below OL11.out BW.out)
          obtain ⟨ab, ao, rfl, hadb, hcell⟩ := (Reads.of_own OO.out).2 (by omega)
          have d0 := cell_regrown (e1 ▸ hcell _ _ (inC_num O k (by omega)))
          have d1 := cell_regrown (e2 ▸ hcell _ _ (inC_num O (k + 1) hlt))
          clear hcell
          obtain ⟨lb, lo, rfl, hldb, hcell⟩ := (Reads.of_own OL.out).2 (by omega)
          obtain ⟨h0, h1, h2, h3⟩ := enC_get L p hp
          have c0 := hcell _ _ h0
          have c1 := hcell _ _ h1
          have c2 := hcell _ _ h2
          have c3 := hcell _ _ h3
          obtain ⟨h0, h1, h2, h3⟩ := enC_get L q hq
          have c4 := hcell _ _ h0
          have c5 := hcell _ _ h1
          have c6 := hcell _ _ h2
          have c7 := hcell _ _ h3
          rw [← Nat.add_assoc] at c1 c2 c3 c5 c6 c7
          clear hcell h0 h1 h2 h3
          have HI := Lib.hid (fun W => IN.out W p q hp hq)
          rw [e3] at HI
          generalize L[p] = ep at c0 c1 c2 c3 HI e3
          generalize L[q] = eq at c4 c5 c6 c7 HI e3
          dsimp only at HI
          clear e1 e2 e3
          have k1 : (0 : Int) ≤ (k : Int) := by omega
          have k2 : (k : Int) < (O.length : Int) := by omega
          have k3 : (0 : Int) ≤ (k : Int) + 1 := by omega
          have k4 : (k : Int) + 1 < (O.length : Int) := by omega
          have k5 : IntKind.i64.wrap ((k : Int) + 1 - 1) = (k : Int) := (IntWalk.i64_in _ (by omega)).trans (by omega)
          have k6 : ((k : Int) + 1).toNat = k + 1 := by omega
          have p1 : (0 : Int) ≤ (p : Int) := by omega
          have p2 : (p : Int) < (L.length : Int) := by omega
          have q1 : (0 : Int) ≤ (q : Int) := by omega
          have q2 : (q : Int) < (L.length : Int) := by omega
          have m0 : ¬ (0 : Int) < m := by omega
          go_upto_region 20 with (fail)
          have t0 := cell_regrown c0
          have t1 := cell_regrown c1
          have t2 := cell_regrown c2
          have t3 := cell_regrown c3
          have t4 := cell_regrown c4
          have t5 := cell_regrown c5
          have t6 := cell_regrown c6
          have t7 := cell_regrown c7
          clear c0 c1 c2 c3 c4 c5 c6 c7
          have r1 : ∀ d os, Calls Tryz.prog 39 #[.agg #[.string ep.text, .int .i64 ep.x, .int .i64 ep.y, .int .i64 ep.since], .agg #[.string eq.text, .int .i64 eq.x, .int .i64 eq.y, .int .i64 eq.since]] (grow (redrawn wr d) os) (fun e w'' => e = .returned (.tuple #[.int .i64 m, .int .i64 0]) ∧ ∃ p : Regrown, w'' = grow (redrawn wr p.d) p.os) := fun d os => Calls.regrown_of (HI.out _)
          refine wp_region_quiet_below (by kernel_rfl) (by kernel_rfl) ?_; (repeat (first | go_big_quiet_step ((first | with_reducible exact r1 _ _)))); refine wpQuiet_nil ?_; intro _ hw'; obtain ⟨⟨dq, osq⟩, rfl⟩ := hw'
          have b := below_regrown wr dq osq
          generalize grow (redrawn wr dq) osq = w' at *
          clear r1 t0 t1 t2 t3 t4 t5 t6 t7 d0 d1
          go_wp2_with fail
          go_roundw
          case rel => exact ⟨k + 1, by omega, BW.out.trans (b.mono BW.out.size), by go_num⟩
          case measure => simp [intOf]; omega
        · have hlt1 : ¬ (k : Int) + 1 < (O.length : Int) := by omega
          have OL1 := Lib.hid (own_below OL11.out BW.out); have OC1 := Lib.hid (own_below OC11.out BW.out); have BB := Lib.hid (B11.out.trans (BW.out.mono B11.out.size))
          clear BW HN1 IN
          by_cases hcd : code = 0
          rotate_left
          · have hcd1 : (code != 0) = true := by simpa using hcd
            go_wp2_with fail
            go_ret
            exact ⟨rfl, BB.out⟩
          subst hcd
          have IH1 := Lib.hid (IH.out rfl); have HM1 := Lib.hid (HM.out rfl)
          clear IH HM
          go_wp2_with fail
          go_loopw [24] (fun v24 wq => ∃ i : Nat, i ≤ L.length ∧ Hid (Below wr.heap.size wr wq) ∧ v24 = .int .i64 (i : Int)) (fun v _ => L.length - (intOf v).toNat)
          case atStart => exact ⟨0, by omega, Below.refl _ _, rfl⟩
          case round =>
            obtain ⟨i, hi, BW, rfl⟩ := hrel
            by_cases hlt : i < L.length
            rotate_left
            · obtain rfl : i = L.length := by omega
              go_wp2_with fail
              go_ret
              exact ⟨rfl, BB.out.trans (BW.out.mono BB.out.size)⟩
            have OL2 := Lib.hid (own_below OL1.out BW.out); have OC2 := Lib.hid (own_below OC1.out BW.out)
            obtain ⟨lb, lo, rfl, hldb, hcell⟩ := (Reads.of_own OL2.out).2 (by omega)
            obtain ⟨h0, h1, h2, h3⟩ := enC_get L i hlt
            have c0 := hcell _ _ h0
            have c1 := hcell _ _ h1
            have c2 := hcell _ _ h2
            have c3 := hcell _ _ h3
            rw [← Nat.add_assoc] at c1 c2 c3
            clear hcell h0 h1 h2 h3
            have HI := Lib.hid (IH1.out _ OL2.out i hlt)
            have HMi := Lib.hid (HM1.out i hlt)
            have hRl := HRl.out i hlt
            generalize rowE L L[i] dd (pAll L[i] dd) = H at HI HMi hRl
            generalize L[i] = ei at c0 c1 c2 c3 HI
            have i1 : (0 : Int) ≤ (i : Int) := by omega
            have i2 : (i : Int) < (L.length : Int) := by omega
            go_wp2_with fail
            refine HI.out.mono ?_
            rintro e w2 ⟨v, rfl, own, b⟩
            obtain ⟨AH, cH, rfl, _⟩ := own_shape own
            have OH := Lib.hid own
            have B2 := Lib.hid (BW.out.trans (b.mono BW.out.size))
            have OC3 := Lib.hid (own_below OC2.out b)
            clear own b c0 c1 c2 c3 HI
            go_wp2_with fail
            go_loopw [27, 28] (fun v27 v28 wp => ∃ j m : Nat, j ≤ H.length ∧ m ≤ j ∧ Hid (decide (m = 0) = !metB (H.take j) C i) ∧ Hid (Below w2.heap.size w2 wp) ∧ v27 = .int .i64 (m : Int) ∧ v28 = .int .i64 (j : Int)) (fun _ v _ => H.length - (intOf v).toNat)
            case atStart => exact ⟨0, 0, by omega, by omega, rfl, Below.refl _ _, rfl, rfl⟩
            case round =>
              obtain ⟨j, m, hj, hmj, HK, BP, rfl, rfl⟩ := hrel
              have OC4 := Lib.hid (own_below OC3.out BP.out)
              by_cases hjl : j < H.length
              · obtain ⟨hb, ho, rfl, hhdb, hcell⟩ := (Reads.of_own (own_below OH.out BP.out)).2 (by omega)
                have c0 := hcell _ _ (inC_num H j hjl)
                have HT := Lib.hid (metB_take H C i hjl)
                clear hcell
                generalize H[j] = x at c0 HT
                have j1 : (0 : Int) ≤ (j : Int) := by omega
                have j2 : (j : Int) < (H.length : Int) := by omega
                by_cases hx : x = (i : Int)
                · have HK1 := Lib.hid (show decide (m = 0) = !metB (H.take (j + 1)) C i by rw [HT.out, hx, show ((i : Int) == (i : Int)) = true by simp, Bool.not_true, Bool.false_and, Bool.or_false]; exact HK.out)
                  subst hx
                  clear HT HK
                  go_wp2_with fail
                  go_roundw
                  case rel => exact ⟨j + 1, m, by omega, by omega, HK1.out, BP.out, rfl, by go_num⟩
                  case measure => simp [intOf]; omega
                · have hx1 : (x != (i : Int)) = true := by simpa using hx
                  have HT2 := Lib.hid (show metB (H.take (j + 1)) C i = (metB (H.take j) C i || inB' C x) by rw [HT.out, show (x == (i : Int)) = false by simpa using hx, Bool.not_false, Bool.true_and])
                  have HC := Lib.hid (hasInt_any C x (by omega) AC cC _ (Reads.of_own OC4.out))
                  clear HT hx
                  cases hin : inB' C x
                  · have HK1 := Lib.hid (show decide (m = 0) = !metB (H.take (j + 1)) C i by rw [HT2.out, hin, Bool.or_false]; exact HK.out)
                    rw [hin] at HC
                    clear HT2 HK hin
                    go_wp2_with fail
                    refine HC.out.mono ?_
                    rintro e w3 ⟨rfl, b⟩
                    have B3 := Lib.hid (BP.out.trans (b.mono BP.out.size))
                    clear b c0
                    go_wp2_with fail
                    go_roundw
                    case rel => exact ⟨j + 1, m, by omega, by omega, HK1.out, B3.out, rfl, by go_num⟩
                    case measure => simp [intOf]; omega
                  · have HK1 := Lib.hid (show decide (m + 1 = 0) = !metB (H.take (j + 1)) C i by rw [HT2.out, hin, Bool.or_true]; simp)
                    rw [hin] at HC
                    clear HT2 HK hin
                    go_wp2_with fail
                    refine HC.out.mono ?_
                    rintro e w3 ⟨rfl, b⟩
                    have B3 := Lib.hid (BP.out.trans (b.mono BP.out.size))
                    clear b c0
                    go_wp2_with fail
                    go_roundw
                    case rel => exact ⟨j + 1, m + 1, by omega, by omega, HK1.out, B3.out, by go_num, by go_num⟩
                    case measure => simp [intOf]; omega
              · obtain rfl : j = H.length := by omega
                have HC := Lib.hid (hasInt_any C i (by omega) AC cC _ (Reads.of_own OC4.out))
                have HE := Lib.hid (show inB' C i = decide (m = 0) by rw [HMi.out]; have := HK.out; rw [List.take_length] at this; exact this.symm)
                have BE := Lib.hid (B2.out.trans (BP.out.mono B2.out.size))
                clear HK HMi
                by_cases hm0 : m = 0
                · rw [HE.out, decide_eq_true hm0] at HC
                  subst hm0
                  clear HE
                  go_wp2_with fail
                  refine HC.out.mono ?_
                  rintro e w3 ⟨rfl, b⟩
                  have B3 := Lib.hid (BE.out.trans (b.mono BE.out.size))
                  clear b
                  go_wp2_with fail
                  go_roundw
                  case rel => exact ⟨i + 1, by omega, B3.out, by go_num⟩
                  case measure => simp [intOf]; omega
                · rw [HE.out, decide_eq_false hm0] at HC
                  have hm1 : ((m : Int) == 0) = false := by simp; omega
                  clear HE
                  go_wp2_with fail
                  refine HC.out.mono ?_
                  rintro e w3 ⟨rfl, b⟩
                  have B3 := Lib.hid (BE.out.trans (b.mono BE.out.size))
                  clear b
                  go_wp2_with fail
                  go_roundw
                  case rel => exact ⟨i + 1, by omega, B3.out, by go_num⟩
                  case measure => simp [intOf]; omega
end Go.Proofs.YtihhpmhigmegjaaGreatDoor
