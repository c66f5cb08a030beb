/- Homonyms: whether two entries are; the indices of all of a list; the code of entries, an entry and a distance. -/
import Derived.Test.YthaampckdcimmaaGreatDoorRows
import Derived.Test.YthaampckdcimmaaGreatDoorL0
import Derived.Test.YthaampckdcimmaaGreatDoorM0
import Derived.WalkKit
import Derived.ProofKit
import Derived.OpenShut
import Derived.BigQuiet
import Derived.Outline
import Derived.WalkSpells
import Derived.WalkLawsBesides
import Derived.Deep.DeepCutAuto
import Derived.Test.YthaampckdcimmaaGreatDoorGA
import Derived.Test.YthaampckdcimmaaGreatDoorG6
import Derived.Test.YthaampckdcimmaaGreatDoorH2
import Derived.Test.YthaampckdcimmaaGreatDoorI7
import Derived.Laws.EntriesVeiled
namespace Go.Proofs.YthaampckdcimmaaGreatDoor
open Go.ChangeShapes Go.WideShapes Go.ChangeAt Go.RowKit

def homB (a b : Ent) (d : Int) : Bool := decide (a.text = b.text) && decide (sq a.x a.y b.x b.y ≤ d * d)
theorem homB_comm (a b : Ent) (d : Int) : homB a b d = homB b a d := by
  unfold homB
  rw [sq_comm]
  have e : decide (a.text = b.text) = decide (b.text = a.text) := decide_eq_decide.2 ⟨Eq.symm, Eq.symm⟩
  rw [e]
/-- The indices below k of the entries with a mark. -/
def wTo (xs : List Ent) (p : Ent → Bool) : Nat → List Int
  | 0 => []
  | k + 1 => match xs[k]? with
    | some b => if p b = true then wTo xs p k ++ [(k : Int)] else wTo xs p k
    | none => wTo xs p k
def whichE (xs : List Ent) (p : Ent → Bool) : List Int := wTo xs p xs.length
theorem wTo_at {xs : List Ent} {p : Ent → Bool} {k : Nat} (h : k < xs.length) : wTo xs p (k + 1) = if p xs[k] = true then wTo xs p k ++ [(k : Int)] else wTo xs p k := by
  rw [wTo, List.getElem?_eq_getElem h]
theorem wTo_len (xs : List Ent) (p : Ent → Bool) : ∀ k, (wTo xs p k).length ≤ k
  | 0 => by simp [wTo]
  | k + 1 => by
    have := wTo_len xs p k
    rw [wTo]
    split
    · split
      · simp; omega
      · omega
    · omega
theorem dd_bd {d : Int} (h : 0 ≤ d ∧ d ≤ 4000) : 0 ≤ d * d ∧ d * d ≤ 36000000 := sq_bd (by omega) (by omega)
set_option maxRecDepth 100000 in
theorem specHom_any (a b : Ent) (ha : entB a = true) (hb : entB b = true) (d : Int) (hd : 0 ≤ d ∧ d ≤ 4000) (w : World) :
    Calls Tryz.prog 45 #[a.val, b.val, .int .i64 d] w fun e w' => e = .returned (.bool (homB a b d)) ∧ Below w.heap.size w w' := by
  obtain ⟨p1, p2, p3⟩ := ent_bd ha
  obtain ⟨p4, p5, p6⟩ := ent_bd hb
  clear ha hb
  have HS := Lib.hid (specSq a.x a.y b.x b.y (by unfold Co; omega) (by unfold Co; omega) (by unfold Co; omega) (by unfold Co; omega))
  have HX := Lib.hid (show homB a b d = (decide (a.text = b.text) && decide (sq a.x a.y b.x b.y ≤ d * d)) from rfl)
  have KN := Lib.hid (blks_two w 28 28 #[.string a.text, .int .i64 a.x, .int .i64 a.y, .int .i64 a.since] #[.string b.text, .int .i64 b.x, .int .i64 b.y, .int .i64 b.since])
  obtain ⟨d1, d2⟩ := dd_bd hd
  have se := str_eq a.text b.text
  unfold Ent.val
  generalize homB a b d = r at HX ⊢
  generalize sq a.x a.y b.x b.y = q at *
  by_cases h : a.text = b.text
  · rw [decide_eq_true h] at HX se
    clear h
    go_enter Tryz.func45, Tryz.ntmps45
    go_wp2_with fail
    generalize hW : (w.alloc (.cells #[.string a.text, .int .i64 a.x, .int .i64 a.y, .int .i64 a.since] 28)).alloc (.cells #[.string b.text, .int .i64 b.x, .int .i64 b.y, .int .i64 b.since] 28) = W
    obtain ⟨ka, kb, bw, hsz⟩ := KN.out W hW.symm
    clear hW hsz ka kb
    refine (HS.out W).mono ?_; rintro e w1 ⟨rfl, b1⟩
    go_wp2_with fail
    go_ret
    exact ⟨ret_bool (by rw [HX.out]; simp), bw.trans (b1.mono bw.size)⟩
  · rw [decide_eq_false h] at HX se
    clear h
    go_enter Tryz.func45, Tryz.ntmps45
    go_wp2_with fail
    go_ret
    exact ⟨ret_bool (by rw [HX.out]; rfl), by (repeat (first | exact Below.refl _ _ | assumption | refine Below.drew ?_ | refine below_drewN' ?_ _ | refine Below.alloc ?_ (by (try simp); (try omega)) _ | refine Below.setCell ?_ (by (try simp); (try omega)) _))⟩
set_option maxRecDepth 100000 in
theorem implHom_any (a b : Ent) (ha : entB a = true) (hb : entB b = true) (d : Int) (hd : 0 ≤ d ∧ d ≤ 4000) (w : World) :
    Calls Tryz.prog 64 #[a.val, b.val, .int .i64 d] w fun e w' => e = .returned (.bool (homB a b d)) ∧ Below w.heap.size w w' := by
  obtain ⟨p1, p2, p3⟩ := ent_bd ha
  obtain ⟨p4, p5, p6⟩ := ent_bd hb
  clear ha hb
  have HS := Lib.hid (implSq a.x a.y b.x b.y (by unfold Co; omega) (by unfold Co; omega) (by unfold Co; omega) (by unfold Co; omega))
  have HX := Lib.hid (show homB a b d = (decide (a.text = b.text) && decide (sq a.x a.y b.x b.y ≤ d * d)) from rfl)
  have KN := Lib.hid (blks_two w 28 28 #[.string a.text, .int .i64 a.x, .int .i64 a.y, .int .i64 a.since] #[.string b.text, .int .i64 b.x, .int .i64 b.y, .int .i64 b.since])
  obtain ⟨d1, d2⟩ := dd_bd hd
  have se := str_eq a.text b.text
  unfold Ent.val
  generalize homB a b d = r at HX ⊢
  generalize sq a.x a.y b.x b.y = q at *
  by_cases h : a.text = b.text
  · rw [decide_eq_true h] at HX se
    clear h
    go_enter Tryz.func64, Tryz.ntmps64
    go_wp2_with fail
    generalize hW : (w.alloc (.cells #[.string a.text, .int .i64 a.x, .int .i64 a.y, .int .i64 a.since] 28)).alloc (.cells #[.string b.text, .int .i64 b.x, .int .i64 b.y, .int .i64 b.since] 28) = W
    obtain ⟨ka, kb, bw, hsz⟩ := KN.out W hW.symm
    clear hW hsz ka kb
    refine (HS.out W).mono ?_; rintro e w1 ⟨rfl, b1⟩
    go_wp2_with fail
    go_ret
    exact ⟨ret_bool (by rw [HX.out]; simp), bw.trans (b1.mono bw.size)⟩
  · rw [decide_eq_false h] at HX se
    clear h
    go_enter Tryz.func64, Tryz.ntmps64
    go_wp2_with fail
    go_ret
    exact ⟨ret_bool (by rw [HX.out]; rfl), by (repeat (first | exact Below.refl _ _ | assumption | refine Below.drew ?_ | refine below_drewN' ?_ _ | refine Below.alloc ?_ (by (try simp); (try omega)) _ | refine Below.setCell ?_ (by (try simp); (try omega)) _))⟩
/-- The code of entries, an entry and a distance. -/
def codeE (xs : List Ent) (ok : Bool) (d : Int) : Int := if (areE xs && ok) = true then (if inB d 0 4000 = true then 0 else 2) else 1
set_option maxRecDepth 100000 in
theorem implCodeE_any (xs : List Ent) (ok : Bool) (d : Int) (A : Option Addr) (c : Nat) (w : World) (h : HasEnt w xs A) (hs : ∀ b ∈ xs, b.text.size ≤ 1048576) :
    Calls Tryz.prog 41 #[.slice A xs.length c, .bool ok, .int .i64 d] w fun e w' => e = .returned (.int .i64 (codeE xs ok d)) ∧ Below w.heap.size w w' := by
  have HA := Lib.hid (implAreE_any xs A c w h hs)
  have HI := Lib.hid (within_any d 0 4000)
  have HX := Lib.hid (show codeE xs ok d = if (areE xs && ok) = true then (if inB d 0 4000 = true then 0 else 2) else 1 from rfl)
  generalize codeE xs ok d = r at HX ⊢
  generalize areE xs = q1 at *
  generalize inB d 0 4000 = q2 at *
  clear h hs
  cases q1 <;> cases ok <;> cases q2
  all_goals
    go_enter Tryz.func41, Tryz.ntmps41
    go_wp2_with fail
    refine HA.out.mono ?_; rintro e w1 ⟨rfl, b1⟩
    go_wp2_with fail
    first
      | (go_ret; exact ⟨ret_int (by rw [HX.out]; rfl), b1⟩)
      | (refine (HI.out _).mono ?_; rintro e w' ⟨rfl, rfl⟩; go_wp2_with fail; go_ret; exact ⟨ret_int (by rw [HX.out]; rfl), b1⟩)
set_option maxRecDepth 100000 in
theorem specCodeE_any (xs : List Ent) (b : Ent) (d : Int) (A : Option Addr) (c : Nat) (w : World) (h : HasEnt w xs A) (hs : ∀ b ∈ xs, b.text.size ≤ 1048576) (hb : b.text.size ≤ 1048576) :
    Calls Tryz.prog 44 #[.slice A xs.length c, b.val, .int .i64 d] w fun e w' => e = .returned (.int .i64 (codeE xs (entB b) d)) ∧ Below w.heap.size w w' := by
  have HA := Lib.hid (fun W (hb : Below w.heap.size w W) => specAreE_any xs A c W (h.below hb) hs)
  have HE := Lib.hid (specEnt_any b hb)
  have HI := Lib.hid (specIn_any d 0 4000)
  have HX := Lib.hid (show codeE xs (entB b) d = if (areE xs && entB b) = true then (if inB d 0 4000 = true then 0 else 2) else 1 from rfl)
  have KN := Lib.hid (blks_one w 28 #[.string b.text, .int .i64 b.x, .int .i64 b.y, .int .i64 b.since])
  generalize codeE xs (entB b) d = r at HX ⊢
  generalize areE xs = q1 at *
  generalize entB b = q3 at *
  generalize inB d 0 4000 = q2 at *
  unfold Ent.val at HE ⊢
  clear h hs hb
  cases q1 <;> cases q3 <;> cases q2
  all_goals
    go_enter Tryz.func44, Tryz.ntmps44
    go_wp2_with fail
    generalize hW : w.alloc (.cells #[.string b.text, .int .i64 b.x, .int .i64 b.y, .int .i64 b.since] 28) = W
    obtain ⟨kb, bw, hsz⟩ := KN.out W hW.symm
    clear hW hsz
    refine (HA.out W bw).mono ?_; rintro e w1 ⟨rfl, b1⟩
    obtain ⟨x0, x1, x2, x3⟩ := cells_4 (kb.below b1 kb.lt)
    have B1 := Lib.hid (bw.trans (b1.mono bw.size)); clear kb b1 bw
    go_wp2_with fail
    first
      | (go_ret; exact ⟨ret_int (by rw [HX.out]; rfl), B1.out⟩)
      | (refine (HE.out _).mono ?_; rintro e w2 ⟨rfl, b2⟩; go_wp2_with fail; first
          | (go_ret; exact ⟨ret_int (by rw [HX.out]; rfl), B1.out.trans (b2.mono B1.out.size)⟩)
          | (refine (HI.out _).mono ?_; rintro e w' ⟨rfl, rfl⟩; go_wp2_with fail; go_ret; exact ⟨ret_int (by rw [HX.out]; rfl), B1.out.trans (b2.mono B1.out.size)⟩))
end Go.Proofs.YthaampckdcimmaaGreatDoor
