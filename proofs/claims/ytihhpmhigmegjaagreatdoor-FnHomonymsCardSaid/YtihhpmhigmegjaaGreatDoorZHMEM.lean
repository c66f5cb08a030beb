/- Merged: Homonyms: whether two entries are; the indices of all of a list; the code of entries, an entry and a distance. The homonyms of an entry in a list, by the reference. HomonymsOf, IsAdmitted and Displaced of the reference. The homonyms of an entry in a list, by the program: at each of its three questions. The homonyms of an entry in a list, by the program: those that bar it. The homonyms of an entry in a list, by the program: those that it displaces. HomonymsOf, IsAdmitted and Displaced of the program. Points: turns, sizes without sign; of the program and of the reference. Directions, of the reference and of the program. Directions, of the program. QualifiedText: what it computes; the reference. FnHomonyms: the plain law. The order of precedence: entries put one by one behind those that are not after them. ClearedEntries: the plain law. Lists of numbers that are alike; whether a list holds  -/
import Derived.Test.YtihhpmhigmegjaaGreatDoorRows
import Derived.Test.YtihhpmhigmegjaaGreatDoorL0
import Derived.Test.YtihhpmhigmegjaaGreatDoorM0
import Derived.WalkKit
import Derived.ProofKit
import Derived.OpenShut
import Derived.BigQuiet
import Derived.Outline
import Derived.WalkSpells
import Derived.WalkLawsBesides
import Derived.Deep.DeepCutAuto
import Derived.Test.YtihhpmhigmegjaaGreatDoorGA
import Derived.Test.YtihhpmhigmegjaaGreatDoorG6
import Derived.Test.YtihhpmhigmegjaaGreatDoorH2
import Derived.Test.YtihhpmhigmegjaaGreatDoorI7
import Derived.Laws.EntriesVeiled
import Derived.Lib.QuietBelow
import Derived.Deep.QuietTactic
import Derived.Test.YtihhpmhigmegjaaGreatDoorFA
import Derived.Test.YtihhpmhigmegjaaGreatDoorG4
import Derived.Test.YtihhpmhigmegjaaGreatDoorQ1
import Derived.Test.YtihhpmhigmegjaaGreatDoorQ2
import Derived.Test.YtihhpmhigmegjaaGreatDoorPQH
namespace Go.Proofs.YtihhpmhigmegjaaGreatDoor
open Go.ChangeShapes Go.WideShapes Go.ChangeAt Go.RowKit

def homB (a b : Ent) (d : Int) : Bool := decide (a.text = b.text) && decide (sq a.x a.y b.x b.y ≤ d * d)
theorem homB_comm (a b : Ent) (d : Int) : homB a b d = homB b a d := by
  unfold homB
  rw [sq_comm]
  have e : decide (a.text = b.text) = decide (b.text = a.text) := decide_eq_decide.2 ⟨Eq.symm, Eq.symm⟩
  rw [e]
/-- The indices below k of the entries with a mark. -/
def wTo (xs : List Ent) (p : Ent → Bool) : Nat → List Int
  | 0 => []
  | k + 1 => match xs[k]? with
    | some b => if p b = true then wTo xs p k ++ [(k : Int)] else wTo xs p k
    | none => wTo xs p k
def whichE (xs : List Ent) (p : Ent → Bool) : List Int := wTo xs p xs.length
theorem wTo_at {xs : List Ent} {p : Ent → Bool} {k : Nat} (h : k < xs.length) : wTo xs p (k + 1) = if p xs[k] = true then wTo xs p k ++ [(k : Int)] else wTo xs p k := by
  rw [wTo, List.getElem?_eq_getElem h]
theorem wTo_len (xs : List Ent) (p : Ent → Bool) : ∀ k, (wTo xs p k).length ≤ k
  | 0 => by simp [wTo]
  | k + 1 => by
    have := wTo_len xs p k
    rw [wTo]
    split
    · split
      · simp; omega
      · omega
    · omega
theorem dd_bd {d : Int} (h : 0 ≤ d ∧ d ≤ 4000) : 0 ≤ d * d ∧ d * d ≤ 36000000 := sq_bd (by omega) (by omega)
set_option maxRecDepth 100000 in
theorem specHom_any (a b : Ent) (ha : entB a = true) (hb : entB b = true) (d : Int) (hd : 0 ≤ d ∧ d ≤ 4000) (w : World) :
    Calls Tryz.prog 77 #[a.val, b.val, .int .i64 d] w fun e w' => e = .returned (.bool (homB a b d)) ∧ Below w.heap.size w w' := by
  obtain ⟨p1, p2, p3⟩ := ent_bd ha
  obtain ⟨p4, p5, p6⟩ := ent_bd hb
  clear ha hb
  have HS := Lib.hid (specSq a.x a.y b.x b.y (by unfold Co; omega) (by unfold Co; omega) (by unfold Co; omega) (by unfold Co; omega))
  have HX := Lib.hid (show homB a b d = (decide (a.text = b.text) && decide (sq a.x a.y b.x b.y ≤ d * d)) from rfl)
  have KN := Lib.hid (blks_two w 45 45 #[.string a.text, .int .i64 a.x, .int .i64 a.y, .int .i64 a.since] #[.string b.text, .int .i64 b.x, .int .i64 b.y, .int .i64 b.since])
  obtain ⟨d1, d2⟩ := dd_bd hd
  have se := str_eq a.text b.text
  unfold Ent.val
  generalize homB a b d = r at HX ⊢
  generalize sq a.x a.y b.x b.y = q at *
  by_cases h : a.text = b.text
  · rw [decide_eq_true h] at HX se
    clear h
    go_enter Tryz.func77, Tryz.ntmps77
    go_wp2_with fail
    generalize hW : (w.alloc (.cells #[.string a.text, .int .i64 a.x, .int .i64 a.y, .int .i64 a.since] 45)).alloc (.cells #[.string b.text, .int .i64 b.x, .int .i64 b.y, .int .i64 b.since] 45) = W
    obtain ⟨ka, kb, bw, hsz⟩ := KN.out W hW.symm
    clear hW hsz ka kb
    refine (HS.out W).mono ?_; rintro e w1 ⟨rfl, b1⟩
    go_wp2_with fail
    go_ret
    exact ⟨ret_bool (by rw [HX.out]; simp), bw.trans (b1.mono bw.size)⟩
  · rw [decide_eq_false h] at HX se
    clear h
    go_enter Tryz.func77, Tryz.ntmps77
    go_wp2_with fail
    go_ret
    exact ⟨ret_bool (by rw [HX.out]; rfl), by (repeat (first | exact Below.refl _ _ | assumption | refine Below.drew ?_ | refine below_drewN' ?_ _ | refine Below.alloc ?_ (by (try simp); (try omega)) _ | refine Below.setCell ?_ (by (try simp); (try omega)) _))⟩
set_option maxRecDepth 100000 in
theorem implHom_any (a b : Ent) (ha : entB a = true) (hb : entB b = true) (d : Int) (hd : 0 ≤ d ∧ d ≤ 4000) (w : World) :
    Calls Tryz.prog 90 #[a.val, b.val, .int .i64 d] w fun e w' => e = .returned (.bool (homB a b d)) ∧ Below w.heap.size w w' := by
  obtain ⟨p1, p2, p3⟩ := ent_bd ha
  obtain ⟨p4, p5, p6⟩ := ent_bd hb
  clear ha hb
  have HS := Lib.hid (implSq a.x a.y b.x b.y (by unfold Co; omega) (by unfold Co; omega) (by unfold Co; omega) (by unfold Co; omega))
  have HX := Lib.hid (show homB a b d = (decide (a.text = b.text) && decide (sq a.x a.y b.x b.y ≤ d * d)) from rfl)
  have KN := Lib.hid (blks_two w 45 45 #[.string a.text, .int .i64 a.x, .int .i64 a.y, .int .i64 a.since] #[.string b.text, .int .i64 b.x, .int .i64 b.y, .int .i64 b.since])
  obtain ⟨d1, d2⟩ := dd_bd hd
  have se := str_eq a.text b.text
  unfold Ent.val
  generalize homB a b d = r at HX ⊢
  generalize sq a.x a.y b.x b.y = q at *
  by_cases h : a.text = b.text
  · rw [decide_eq_true h] at HX se
    clear h
    go_enter Tryz.func90, Tryz.ntmps90
    go_wp2_with fail
    generalize hW : (w.alloc (.cells #[.string a.text, .int .i64 a.x, .int .i64 a.y, .int .i64 a.since] 45)).alloc (.cells #[.string b.text, .int .i64 b.x, .int .i64 b.y, .int .i64 b.since] 45) = W
    obtain ⟨ka, kb, bw, hsz⟩ := KN.out W hW.symm
    clear hW hsz ka kb
    refine (HS.out W).mono ?_; rintro e w1 ⟨rfl, b1⟩
    go_wp2_with fail
    go_ret
    exact ⟨ret_bool (by rw [HX.out]; simp), bw.trans (b1.mono bw.size)⟩
  · rw [decide_eq_false h] at HX se
    clear h
    go_enter Tryz.func90, Tryz.ntmps90
    go_wp2_with fail
    go_ret
    exact ⟨ret_bool (by rw [HX.out]; rfl), by (repeat (first | exact Below.refl _ _ | assumption | refine Below.drew ?_ | refine below_drewN' ?_ _ | refine Below.alloc ?_ (by (try simp); (try omega)) _ | refine Below.setCell ?_ (by (try simp); (try omega)) _))⟩
/-- The code of entries, an entry and a distance. -/
def codeE (xs : List Ent) (ok : Bool) (d : Int) : Int := if (areE xs && ok) = true then (if inB d 0 4000 = true then 0 else 2) else 1
set_option maxRecDepth 100000 in
theorem implCodeE_any (xs : List Ent) (ok : Bool) (d : Int) (A : Option Addr) (c : Nat) (w : World) (h : HasEnt w xs A) (hs : ∀ b ∈ xs, b.text.size ≤ 1048576) :
    Calls Tryz.prog 73 #[.slice A xs.length c, .bool ok, .int .i64 d] w fun e w' => e = .returned (.int .i64 (codeE xs ok d)) ∧ Below w.heap.size w w' := by
  have HA := Lib.hid (implAreE_any xs A c w h hs)
  have HI := Lib.hid (within_any d 0 4000)
  have HX := Lib.hid (show codeE xs ok d = if (areE xs && ok) = true then (if inB d 0 4000 = true then 0 else 2) else 1 from rfl)
  generalize codeE xs ok d = r at HX ⊢
  generalize areE xs = q1 at *
  generalize inB d 0 4000 = q2 at *
  clear h hs
  cases q1 <;> cases ok <;> cases q2
  all_goals
    go_enter Tryz.func73, Tryz.ntmps73
    go_wp2_with fail
    refine HA.out.mono ?_; rintro e w1 ⟨rfl, b1⟩
    go_wp2_with fail
    first
      | (go_ret; exact ⟨ret_int (by rw [HX.out]; rfl), b1⟩)
      | (refine (HI.out _).mono ?_; rintro e w' ⟨rfl, rfl⟩; go_wp2_with fail; go_ret; exact ⟨ret_int (by rw [HX.out]; rfl), b1⟩)
set_option maxRecDepth 100000 in
theorem specCodeE_any (xs : List Ent) (b : Ent) (d : Int) (A : Option Addr) (c : Nat) (w : World) (h : HasEnt w xs A) (hs : ∀ b ∈ xs, b.text.size ≤ 1048576) (hb : b.text.size ≤ 1048576) :
    Calls Tryz.prog 76 #[.slice A xs.length c, b.val, .int .i64 d] w fun e w' => e = .returned (.int .i64 (codeE xs (entB b) d)) ∧ Below w.heap.size w w' := by
  have HA := Lib.hid (fun W (hb : Below w.heap.size w W) => specAreE_any xs A c W (h.below hb) hs)
  have HE := Lib.hid (specEnt_any b hb)
  have HI := Lib.hid (specIn_any d 0 4000)
  have HX := Lib.hid (show codeE xs (entB b) d = if (areE xs && entB b) = true then (if inB d 0 4000 = true then 0 else 2) else 1 from rfl)
  have KN := Lib.hid (blks_one w 45 #[.string b.text, .int .i64 b.x, .int .i64 b.y, .int .i64 b.since])
  generalize codeE xs (entB b) d = r at HX ⊢
  generalize areE xs = q1 at *
  generalize entB b = q3 at *
  generalize inB d 0 4000 = q2 at *
  unfold Ent.val at HE ⊢
  clear h hs hb
  cases q1 <;> cases q3 <;> cases q2
  all_goals
    go_enter Tryz.func76, Tryz.ntmps76
    go_wp2_with fail
    generalize hW : w.alloc (.cells #[.string b.text, .int .i64 b.x, .int .i64 b.y, .int .i64 b.since] 45) = W
    obtain ⟨kb, bw, hsz⟩ := KN.out W hW.symm
    clear hW hsz
    refine (HA.out W bw).mono ?_; rintro e w1 ⟨rfl, b1⟩
    obtain ⟨x0, x1, x2, x3⟩ := cells_4 (kb.below b1 kb.lt)
    have B1 := Lib.hid (bw.trans (b1.mono bw.size)); clear kb b1 bw
    go_wp2_with fail
    first
      | (go_ret; exact ⟨ret_int (by rw [HX.out]; rfl), B1.out⟩)
      | (refine (HE.out _).mono ?_; rintro e w2 ⟨rfl, b2⟩; go_wp2_with fail; first
          | (go_ret; exact ⟨ret_int (by rw [HX.out]; rfl), B1.out.trans (b2.mono B1.out.size)⟩)
          | (refine (HI.out _).mono ?_; rintro e w' ⟨rfl, rfl⟩; go_wp2_with fail; go_ret; exact ⟨ret_int (by rw [HX.out]; rfl), B1.out.trans (b2.mono B1.out.size)⟩))
end Go.Proofs.YtihhpmhigmegjaaGreatDoor
namespace Go.Proofs.YtihhpmhigmegjaaGreatDoor
open Go.ChangeShapes Go.WideShapes Go.ChangeAt Go.RowKit Go.Sort

theorem wTo_congr {xs : List Ent} {p q : Ent → Bool} (h : ∀ f ∈ xs, p f = q f) : ∀ k, wTo xs p k = wTo xs q k
  | 0 => rfl
  | k + 1 => by
    rw [wTo, wTo, wTo_congr h k]
    cases hk : xs[k]? with
    | none => rfl
    | some b => simp only [h b (List.mem_of_getElem? hk)]
theorem four_regrown {W0 : World} {g : Nat} {t : TypeId} {a b c d : Value} (h : Blk W0 g t #[a, b, c, d]) :
    (∀ x os, (grow (redrawn W0 x) os).cell? ⟨g, 0, none⟩ = some a) ∧ (∀ x os, (grow (redrawn W0 x) os).cell? ⟨g, 1, none⟩ = some b) ∧ (∀ x os, (grow (redrawn W0 x) os).cell? ⟨g, 2, none⟩ = some c) ∧ (∀ x os, (grow (redrawn W0 x) os).cell? ⟨g, 3, none⟩ = some d) := by
  obtain ⟨h0, h1, h2, h3⟩ := cells_4 h
  exact ⟨cell_regrown h0, cell_regrown h1, cell_regrown h2, cell_regrown h3⟩
set_option maxRecDepth 100000 in
set_option maxHeartbeats 2000000 in
theorem specWhich_any (xs : List Ent) (b : Ent) (dist : Int) (older : Bool) (hx : ∀ f ∈ xs, entB f = true) (hb : entB b = true) (hd : 0 ≤ dist ∧ dist ≤ 4000) (A : Option Addr) (c : Nat) (w : World) (h : HasEnt w xs A) (hm : xs.length ≤ 12) :
    Calls Tryz.prog 79 #[.slice A xs.length c, b.val, .int .i64 dist, .bool older] w fun e w' => ∃ v, e = .returned v ∧ w'.ownsRow w.heap.size 2 1 v (whichE xs (fun f => homB f b dist && (decide (cmpE f b ≤ 0) == older))).length (inC (whichE xs (fun f => homB f b dist && (decide (cmpE f b ≤ 0) == older)))) ∧ Below w.heap.size w w' := by
  obtain ⟨i0, hi0, hz0, hz1, hz2⟩ := info_parts infoInt
  have H := Lib.hid h; clear h
  have HX := Lib.hid hx; clear hx
  have HB := Lib.hid hb; clear hb
  have KN := Lib.hid (blks_two w 45 2 #[.string b.text, .int .i64 b.x, .int .i64 b.y, .int .i64 b.since] #[])
  have HHm := Lib.hid (fun f hf => specHom_any f b hf HB.out dist hd)
  have HCm := Lib.hid (fun f hf => specCmpE_any f b hf HB.out)
  obtain ⟨P, hP⟩ : ∃ P : Ent → Bool, (fun f => homB f b dist && (decide (cmpE f b ≤ 0) == older)) = P := ⟨_, rfl⟩
  have HPf := Lib.hid (fun f => (congrFun hP f).symm)
  rw [hP]
  clear hP
  have HL := Lib.hid (show whichE xs P = wTo xs P xs.length from rfl)
  generalize whichE xs P = LL at HL ⊢
  unfold Ent.val at HHm HCm ⊢
  go_enter Tryz.func79, Tryz.ntmps79
  go_upto_region 2 with (fail)
  generalize hW : (w.alloc (.cells #[.string b.text, .int .i64 b.x, .int .i64 b.y, .int .i64 b.since] 45)).alloc (.cells #[] 2) = W
  obtain ⟨kb, ke, bw, hsz⟩ := KN.out W hW.symm
  have OW := Lib.hid (show W.ownsRow w.heap.size 2 1 (.slice (some ⟨w.heap.size + 1, 0, none⟩) 0 0) 0 (inC []) by
    have := World.ownsRow_made (e := 2) (base := w.heap.size) (size := 1) (w.alloc (.cells #[.string b.text, .int .i64 b.x, .int .i64 b.y, .int .i64 b.since] 45)) #[] 0 (by simp) (by decide) rfl
    rw [hW] at this
    simpa [inC] using this)
  clear hW hsz ke
  have KB := Lib.hid kb; have BW0 := Lib.hid bw; have LB := Lib.hid kb.lt; clear kb bw
  go_wp2_with fail
  go_loopw [9, 10] (fun v9 v10 wr => ∃ (k n : Nat) (B : Option Addr) (d : Nat), k ≤ xs.length ∧ n ≤ k ∧ Hid ((wTo xs P k).length = n) ∧ v9 = .slice B n d ∧ Hid (wr.ownsRow w.heap.size 2 1 (.slice B n d) n (inC (wTo xs P k))) ∧ Hid (Blk wr w.heap.size 45 #[.string b.text, .int .i64 b.x, .int .i64 b.y, .int .i64 b.since] ∧ ∀ g, (Value.slice B n d).ownBlock = some g → w.heap.size < g) ∧ Hid (Below w.heap.size w wr) ∧ v10 = .int .i64 k) (fun _ i _ => xs.length - (intOf i).toNat)
  case atStart => exact ⟨0, 0, _, _, by omega, by omega, rfl, rfl, OW.out, ⟨KB.out, fun g hg => by simp [Value.ownBlock] at hg; omega⟩, BW0.out, rfl⟩
  case round =>
    obtain ⟨k, n, B, d, hk, hnk, HN, rfl, HO, HK, BW, rfl⟩ := hrel
    by_cases hlt : k < xs.length
    · obtain ⟨ab, ao, rfl, hadb, hcell⟩ := (H.out.below BW.out).1.2 (by omega)
      obtain ⟨e0, e1, e2, e3⟩ := enC_get xs k hlt
      have c0 := hcell _ _ e0
      have c1 := hcell _ _ e1
      have c2 := hcell _ _ e2
      have c3 := hcell _ _ e3
      rw [← Nat.add_assoc] at c1 c2 c3
      clear hcell e0 e1 e2 e3
      have HW1 := Lib.hid (wTo_at (xs := xs) (p := P) hlt)
      have HH1 := Lib.hid (HHm.out xs[k] (HX.out _ (List.getElem_mem hlt)))
      have HC1 := Lib.hid (HCm.out xs[k] (HX.out _ (List.getElem_mem hlt)))
      have HP1 := Lib.hid (HPf.out xs[k])
      generalize xs[k] = f at c0 c1 c2 c3 HW1 HH1 HC1 HP1
      go_upto_region 5 with (fail)
      have k0 := cell_regrown c0
      have k1 := cell_regrown c1
      have k2 := cell_regrown c2
      have k3 := cell_regrown c3
      obtain ⟨x0, x1, x2, x3⟩ := four_regrown HK.out.1
      clear c0 c1 c2 c3
      generalize cmpE f b = q at HC1 HP1
      have r1 : ∀ d os, Calls Tryz.prog 77 #[.agg #[.string f.text, .int .i64 f.x, .int .i64 f.y, .int .i64 f.since], .agg #[.string b.text, .int .i64 b.x, .int .i64 b.y, .int .i64 b.since], .int .i64 dist] (grow (redrawn wr d) os) (fun e w'' => e = .returned (.bool (homB f b dist)) ∧ ∃ p : Regrown, w'' = grow (redrawn wr p.d) p.os) := fun d os => Calls.regrown_of (HH1.out _)
      have r2 : ∀ d os, Calls Tryz.prog 96 #[.agg #[.string f.text, .int .i64 f.x, .int .i64 f.y, .int .i64 f.since], .agg #[.string b.text, .int .i64 b.x, .int .i64 b.y, .int .i64 b.since]] (grow (redrawn wr d) os) (fun e w'' => e = .returned (.int .i64 q) ∧ ∃ p : Regrown, w'' = grow (redrawn wr p.d) p.os) := fun d os => Calls.regrown_of (HC1.out _)
      cases q1 : homB f b dist
      · have HL1 := Lib.hid (show wTo xs P (k + 1) = wTo xs P k by rw [HW1.out, HP1.out, q1]; rfl)
        rw [q1] at r1
        clear q1 r2
        refine wp_region_quiet_below (by kernel_rfl) (by kernel_rfl) ?_; (repeat (first | go_big_quiet_step ((first | with_reducible exact r1 _ _)))); refine wpQuiet_nil ?_; intro _ hw'; obtain ⟨⟨dq, osq⟩, rfl⟩ := hw'
        have HK2 := Lib.hid (HK.out.1.below (below_regrown wr dq osq) HK.out.1.lt)
        have O2 := Lib.hid (own_below HO.out (below_regrown wr dq osq))
        have B2 := Lib.hid (BW.out.trans ((below_regrown wr dq osq).mono BW.out.size))
        generalize grow (redrawn wr dq) osq = w2 at HK2 O2 B2 ⊢
        clear r1 k0 k1 k2 k3 x0 x1 x2 x3
        go_wp2_with fail
        go_roundw
        case rel => exact ⟨k + 1, n, B, d, by omega, by omega, by rw [HL1.out]; exact HN.out, rfl, by rw [HL1.out]; exact O2.out, ⟨HK2.out, HK.out.2⟩, B2.out, by go_num⟩
        case measure => simp [intOf]; omega
      · by_cases hq : q ≤ 0
        all_goals
          cases older
        · have HL1 := Lib.hid (show wTo xs P (k + 1) = wTo xs P k by rw [HW1.out, HP1.out, q1, decide_eq_true hq]; rfl)
          rw [q1] at r1
          clear q1
          refine wp_region_quiet_below (by kernel_rfl) (by kernel_rfl) ?_; (repeat (first | go_big_quiet_step ((first | with_reducible exact r1 _ _ | with_reducible exact r2 _ _)))); refine wpQuiet_nil ?_; intro _ hw'; obtain ⟨⟨dq, osq⟩, rfl⟩ := hw'
          have HK2 := Lib.hid (HK.out.1.below (below_regrown wr dq osq) HK.out.1.lt)
          have O2 := Lib.hid (own_below HO.out (below_regrown wr dq osq))
          have B2 := Lib.hid (BW.out.trans ((below_regrown wr dq osq).mono BW.out.size))
          generalize grow (redrawn wr dq) osq = w2 at HK2 O2 B2 ⊢
          clear r1 r2 k0 k1 k2 k3 x0 x1 x2 x3
          go_wp2_with fail
          go_roundw
          case rel => exact ⟨k + 1, n, B, d, by omega, by omega, by rw [HL1.out]; exact HN.out, rfl, by rw [HL1.out]; exact O2.out, ⟨HK2.out, HK.out.2⟩, B2.out, by go_num⟩
          case measure => simp [intOf]; omega
        · have HL1 := Lib.hid (show wTo xs P (k + 1) = wTo xs P k ++ [(k : Int)] by rw [HW1.out, HP1.out, q1, decide_eq_true hq]; rfl)
          rw [q1] at r1
          clear q1
          refine wp_region_quiet_below (by kernel_rfl) (by kernel_rfl) ?_; (repeat (first | go_big_quiet_step ((first | with_reducible exact r1 _ _ | with_reducible exact r2 _ _)))); refine wpQuiet_nil ?_; intro _ hw'; obtain ⟨⟨dq, osq⟩, rfl⟩ := hw'
          have HK2 := Lib.hid (HK.out.1.below (below_regrown wr dq osq) HK.out.1.lt)
          have O2 := Lib.hid (own_below HO.out (below_regrown wr dq osq))
          have B2 := Lib.hid (BW.out.trans ((below_regrown wr dq osq).mono BW.out.size))
          generalize grow (redrawn wr dq) osq = w2 at HK2 O2 B2 ⊢
          clear r1 r2 k0 k1 k2 k3 x0 x1 x2 x3
          go_wp2_with (at_builtin; refine wpList_append_any _ rfl (.tmp 36) (.tmp 38) _ rfl w.heap.size 2 i0 _ 1 8 Tryz.underlying31 hi0 hz0 hz1 hz2 rfl (by omega) (.slice B n d) n (inC (wTo xs P k)) rfl (O2.out.alloc _) _ (some ⟨w2.heap.size, 0, none⟩) 1 1 [.int .i64 k] rfl (new_in1 _ _ _) (by simp [Value.oneCell']) (by simp only [maxLen]; omega) (by omega) (by have := B2.out.size; simp; omega) ?_; intro v4 w4 hown4 hg4 hat4; obtain ⟨B4, d4, rfl, _⟩ := own_shape hown4)
          go_roundw
          case rel => exact ⟨k + 1, n + 1, B4, d4, by omega, by omega, by have := HN.out; rw [HL1.out]; simp [Hid, this], rfl, by rw [HL1.out, inC_snoc]; exact hown4, ⟨(HK2.out.alloc _).grown hg4 (fun e => by have := HK.out.2 _ e.symm; omega), fun g hg => by
              rcases hat4 with h4 | h4
              · rw [h4] at hg; exact HK.out.2 g hg
              · rw [h4] at hg; have := HK2.out.lt; injection hg with hg; subst hg; simp; omega⟩, below_own (B2.out.alloc B2.out.size _) (O2.out.alloc _) hg4 (Nat.le_refl _) (by have := B2.out.size; simp; omega), by go_num⟩
          case measure => simp [intOf]; omega
        · have HL1 := Lib.hid (show wTo xs P (k + 1) = wTo xs P k ++ [(k : Int)] by rw [HW1.out, HP1.out, q1, decide_eq_false hq]; rfl)
          rw [q1] at r1
          clear q1
          refine wp_region_quiet_below (by kernel_rfl) (by kernel_rfl) ?_; (repeat (first | go_big_quiet_step ((first | with_reducible exact r1 _ _ | with_reducible exact r2 _ _)))); refine wpQuiet_nil ?_; intro _ hw'; obtain ⟨⟨dq, osq⟩, rfl⟩ := hw'
          have HK2 := Lib.hid (HK.out.1.below (below_regrown wr dq osq) HK.out.1.lt)
          have O2 := Lib.hid (own_below HO.out (below_regrown wr dq osq))
          have B2 := Lib.hid (BW.out.trans ((below_regrown wr dq osq).mono BW.out.size))
          generalize grow (redrawn wr dq) osq = w2 at HK2 O2 B2 ⊢
          clear r1 r2 k0 k1 k2 k3 x0 x1 x2 x3
          go_wp2_with (at_builtin; refine wpList_append_any _ rfl (.tmp 36) (.tmp 38) _ rfl w.heap.size 2 i0 _ 1 8 Tryz.underlying31 hi0 hz0 hz1 hz2 rfl (by omega) (.slice B n d) n (inC (wTo xs P k)) rfl (O2.out.alloc _) _ (some ⟨w2.heap.size, 0, none⟩) 1 1 [.int .i64 k] rfl (new_in1 _ _ _) (by simp [Value.oneCell']) (by simp only [maxLen]; omega) (by omega) (by have := B2.out.size; simp; omega) ?_; intro v4 w4 hown4 hg4 hat4; obtain ⟨B4, d4, rfl, _⟩ := own_shape hown4)
          go_roundw
          case rel => exact ⟨k + 1, n + 1, B4, d4, by omega, by omega, by have := HN.out; rw [HL1.out]; simp [Hid, this], rfl, by rw [HL1.out, inC_snoc]; exact hown4, ⟨(HK2.out.alloc _).grown hg4 (fun e => by have := HK.out.2 _ e.symm; omega), fun g hg => by
              rcases hat4 with h4 | h4
              · rw [h4] at hg; exact HK.out.2 g hg
              · rw [h4] at hg; have := HK2.out.lt; injection hg with hg; subst hg; simp; omega⟩, below_own (B2.out.alloc B2.out.size _) (O2.out.alloc _) hg4 (Nat.le_refl _) (by have := B2.out.size; simp; omega), by go_num⟩
          case measure => simp [intOf]; omega
        · have HL1 := Lib.hid (show wTo xs P (k + 1) = wTo xs P k by rw [HW1.out, HP1.out, q1, decide_eq_false hq]; rfl)
          rw [q1] at r1
          clear q1
          refine wp_region_quiet_below (by kernel_rfl) (by kernel_rfl) ?_; (repeat (first | go_big_quiet_step ((first | with_reducible exact r1 _ _ | with_reducible exact r2 _ _)))); refine wpQuiet_nil ?_; intro _ hw'; obtain ⟨⟨dq, osq⟩, rfl⟩ := hw'
          have HK2 := Lib.hid (HK.out.1.below (below_regrown wr dq osq) HK.out.1.lt)
          have O2 := Lib.hid (own_below HO.out (below_regrown wr dq osq))
          have B2 := Lib.hid (BW.out.trans ((below_regrown wr dq osq).mono BW.out.size))
          generalize grow (redrawn wr dq) osq = w2 at HK2 O2 B2 ⊢
          clear r1 r2 k0 k1 k2 k3 x0 x1 x2 x3
          go_wp2_with fail
          go_roundw
          case rel => exact ⟨k + 1, n, B, d, by omega, by omega, by rw [HL1.out]; exact HN.out, rfl, by rw [HL1.out]; exact O2.out, ⟨HK2.out, HK.out.2⟩, B2.out, by go_num⟩
          case measure => simp [intOf]; omega
    · obtain rfl : k = xs.length := by omega
      have HN' := HN.out
      go_wp2_with fail
      go_ret
      exact ⟨_, rfl, by rw [HL.out, HN']; exact HO.out, BW.out⟩
end Go.Proofs.YtihhpmhigmegjaaGreatDoor
namespace Go.Proofs.YtihhpmhigmegjaaGreatDoor
open Go.ChangeShapes Go.WideShapes Go.ChangeAt Go.RowKit Go.Sort

/-- The results: the indices, and the code. -/
def rowE (xs : List Ent) (b : Ent) (d : Int) (p : Ent → Bool) : List Int := if codeE xs (entB b) d = 0 then whichE xs p else []
def pAll (b : Ent) (d : Int) (f : Ent) : Bool := homB b f d && true
def pBar (b : Ent) (d : Int) (f : Ent) : Bool := homB b f d && decide (cmpE f b ≤ 0)
def pDis (b : Ent) (d : Int) (f : Ent) : Bool := homB b f d && decide (cmpE b f < 0)
theorem rowE_len (xs : List Ent) (b : Ent) (d : Int) (p : Ent → Bool) : (rowE xs b d p).length ≤ xs.length := by
  unfold rowE
  split
  · exact wTo_len _ _ _
  · simp
theorem codeE_zero {xs : List Ent} {ok : Bool} {d : Int} (h : codeE xs ok d = 0) : (∀ f ∈ xs, entB f = true) ∧ xs.length ≤ 12 ∧ ok = true ∧ 0 ≤ d ∧ d ≤ 4000 := by
  unfold codeE at h
  split at h
  · rename_i h1
    split at h
    · rename_i h2
      simp only [areE, Bool.and_eq_true, List.all_eq_true, decide_eq_true_eq] at h1
      simp only [inB, Bool.and_eq_true, decide_eq_true_eq] at h2
      exact ⟨h1.1.1, by omega, h1.2, by omega, by omega⟩
    · cases h
  · cases h
def admB (xs : List Ent) (b : Ent) (d : Int) : Bool := (codeE xs (entB b) d == 0) && decide ((rowE xs b d (pBar b d)).length = 0)
set_option maxRecDepth 100000 in
set_option maxHeartbeats 2000000 in
theorem specHomL_any (xs : List Ent) (b : Ent) (dist : Int) (hs : ∀ b ∈ xs, b.text.size ≤ 1048576) (hb : b.text.size ≤ 1048576) (A : Option Addr) (c : Nat) (w : World) (h : HasEnt w xs A) :
    Calls Tryz.prog 26 #[.slice A xs.length c, b.val, .int .i64 dist] w fun e w' => ∃ v, e = .returned (.tuple #[v, .int .i64 (codeE xs (entB b) dist)]) ∧ w'.ownsRow w.heap.size 2 1 v (rowE xs b dist (pAll b dist)).length (inC (rowE xs b dist (pAll b dist))) ∧ Below w.heap.size w w' := by
  obtain ⟨i0, hi0, hz0, hz1, hz2⟩ := info_parts infoInt
  have HC0 := Lib.hid (fun W (hb' : Below w.heap.size w W) => specCodeE_any xs b dist A c W (h.below hb') hs hb)
  have H := Lib.hid h; clear h
  have KN := Lib.hid (blks_one w 45 #[.string b.text, .int .i64 b.x, .int .i64 b.y, .int .i64 b.since])
  have KZ := Lib.hid (fun h => codeE_zero (xs := xs) (ok := entB b) (d := dist) h)
  have HL := Lib.hid (show rowE xs b dist (pAll b dist) = if codeE xs (entB b) dist = 0 then whichE xs (pAll b dist) else [] from rfl)
  generalize rowE xs b dist (pAll b dist) = LL at HL ⊢
  generalize hcz : codeE xs (entB b) dist = cz at HC0 HL KZ ⊢
  clear hcz hs hb
  by_cases hz : cz = 0
  · obtain ⟨hx, hm, hb, hd⟩ := KZ.out hz
    rw [if_pos hz] at HL
    subst hz
    have HX := Lib.hid hx; clear hx
    have HB := Lib.hid hb; clear hb
    have HHm := Lib.hid (fun f hf => specHom_any f b hf HB.out dist hd)
    obtain ⟨P, hP⟩ : ∃ P : Ent → Bool, pAll b dist = P := ⟨_, rfl⟩
    have HPf := Lib.hid (show ∀ f, P f = homB f b dist from fun f => by rw [← hP, pAll, Bool.and_true, homB_comm])
    rw [hP] at HL
    clear hP
    unfold Ent.val at HHm HC0 ⊢
    go_enter Tryz.func26, Tryz.ntmps26
    go_wp2_with fail
    generalize hW : w.alloc (.cells #[.string b.text, .int .i64 b.x, .int .i64 b.y, .int .i64 b.since] 45) = W
    obtain ⟨kb, bw, hsz⟩ := KN.out W hW.symm
    clear hW hsz
    refine (HC0.out W bw).mono ?_; rintro e w1 ⟨rfl, b1⟩
    have KB := Lib.hid (kb.below b1 kb.lt); have BW0 := Lib.hid (bw.trans (b1.mono bw.size)); clear kb bw b1
    go_upto_region 5 with (fail)
    generalize hW : w1.alloc (.cells #[] 2) = W1
    have OW := Lib.hid (show W1.ownsRow w.heap.size 2 1 (.slice (some ⟨w1.heap.size, 0, none⟩) 0 0) 0 (inC []) by
      have := World.ownsRow_made (e := 2) (base := w.heap.size) (size := 1) w1 #[] 0 BW0.out.size (by decide) rfl
      rw [← hW]
      simpa [inC] using this)
    have KB1 := Lib.hid (show Blk W1 w.heap.size 45 #[.string b.text, .int .i64 b.x, .int .i64 b.y, .int .i64 b.since] by rw [← hW]; exact KB.out.alloc _)
    have BW1 := Lib.hid (show Below w.heap.size w W1 by rw [← hW]; exact BW0.out.alloc BW0.out.size _)
    clear hW
    have LB1 := Lib.hid KB.out.lt
    go_wp2_with fail
    go_loopw [9, 10] (fun v9 v10 wr => ∃ (k n : Nat) (B : Option Addr) (d : Nat), k ≤ xs.length ∧ n ≤ k ∧ Hid ((wTo xs P k).length = n) ∧ v9 = .slice B n d ∧ Hid (wr.ownsRow w.heap.size 2 1 (.slice B n d) n (inC (wTo xs P k))) ∧ Hid (Blk wr w.heap.size 45 #[.string b.text, .int .i64 b.x, .int .i64 b.y, .int .i64 b.since] ∧ ∀ g, (Value.slice B n d).ownBlock = some g → w.heap.size < g) ∧ Hid (Below w.heap.size w wr) ∧ v10 = .int .i64 k) (fun _ i _ => xs.length - (intOf i).toNat)
    case atStart => exact ⟨0, 0, _, _, by omega, by omega, rfl, rfl, OW.out, ⟨KB1.out, fun g hg => by simp [Value.ownBlock] at hg; have := LB1.out; omega⟩, BW1.out, rfl⟩
    case round =>
      obtain ⟨k, n, B, d, hk, hnk, HN, rfl, HO, HK, BW, rfl⟩ := hrel
      by_cases hlt : k < xs.length
      · obtain ⟨ab, ao, rfl, hadb, hcell⟩ := (H.out.below BW.out).1.2 (by omega)
        obtain ⟨e0, e1, e2, e3⟩ := enC_get xs k hlt
        have c0 := hcell _ _ e0
        have c1 := hcell _ _ e1
        have c2 := hcell _ _ e2
        have c3 := hcell _ _ e3
        rw [← Nat.add_assoc] at c1 c2 c3
        clear hcell e0 e1 e2 e3
        have HW1 := Lib.hid (wTo_at (xs := xs) (p := P) hlt)
        have HH1 := Lib.hid (HHm.out xs[k] (HX.out _ (List.getElem_mem hlt)))
        have HP1 := Lib.hid (HPf.out xs[k])
        generalize xs[k] = f at c0 c1 c2 c3 HW1 HH1 HP1
        go_upto_region 8 with (fail)
        have k0 := cell_regrown c0
        have k1 := cell_regrown c1
        have k2 := cell_regrown c2
        have k3 := cell_regrown c3
        obtain ⟨x0, x1, x2, x3⟩ := four_regrown HK.out.1
        clear c0 c1 c2 c3
        have r1 : ∀ d os, Calls Tryz.prog 77 #[.agg #[.string f.text, .int .i64 f.x, .int .i64 f.y, .int .i64 f.since], .agg #[.string b.text, .int .i64 b.x, .int .i64 b.y, .int .i64 b.since], .int .i64 dist] (grow (redrawn wr d) os) (fun e w'' => e = .returned (.bool (homB f b dist)) ∧ ∃ p : Regrown, w'' = grow (redrawn wr p.d) p.os) := fun d os => Calls.regrown_of (HH1.out _)
        cases q1 : homB f b dist
        · have HL1 := Lib.hid (show wTo xs P (k + 1) = wTo xs P k by rw [HW1.out, HP1.out, q1]; rfl)
          rw [q1] at r1
          clear q1
          refine wp_region_quiet_below (by kernel_rfl) (by kernel_rfl) ?_; (repeat (first | go_big_quiet_step ((first | with_reducible exact r1 _ _)))); refine wpQuiet_nil ?_; intro _ hw'; obtain ⟨⟨dq, osq⟩, rfl⟩ := hw'
          have HK2 := Lib.hid (HK.out.1.below (below_regrown wr dq osq) HK.out.1.lt)
          have O2 := Lib.hid (own_below HO.out (below_regrown wr dq osq))
          have B2 := Lib.hid (BW.out.trans ((below_regrown wr dq osq).mono BW.out.size))
          generalize grow (redrawn wr dq) osq = w2 at HK2 O2 B2 ⊢
          clear r1 k0 k1 k2 k3 x0 x1 x2 x3
          go_wp2_with fail
          go_roundw
          case rel => exact ⟨k + 1, n, B, d, by omega, by omega, by rw [HL1.out]; exact HN.out, rfl, by rw [HL1.out]; exact O2.out, ⟨HK2.out, HK.out.2⟩, B2.out, by go_num⟩
          case measure => simp [intOf]; omega
        · have HL1 := Lib.hid (show wTo xs P (k + 1) = wTo xs P k ++ [(k : Int)] by rw [HW1.out, HP1.out, q1]; rfl)
          rw [q1] at r1
          clear q1
          refine wp_region_quiet_below (by kernel_rfl) (by kernel_rfl) ?_; (repeat (first | go_big_quiet_step ((first | with_reducible exact r1 _ _)))); refine wpQuiet_nil ?_; intro _ hw'; obtain ⟨⟨dq, osq⟩, rfl⟩ := hw'
          have HK2 := Lib.hid (HK.out.1.below (below_regrown wr dq osq) HK.out.1.lt)
          have O2 := Lib.hid (own_below HO.out (below_regrown wr dq osq))
          have B2 := Lib.hid (BW.out.trans ((below_regrown wr dq osq).mono BW.out.size))
          generalize grow (redrawn wr dq) osq = w2 at HK2 O2 B2 ⊢
          clear r1 k0 k1 k2 k3 x0 x1 x2 x3
          go_wp2_with (at_builtin; refine wpList_append_any _ rfl (.tmp 32) (.tmp 34) _ rfl w.heap.size 2 i0 _ 1 8 Tryz.underlying31 hi0 hz0 hz1 hz2 rfl (by omega) (.slice B n d) n (inC (wTo xs P k)) rfl (O2.out.alloc _) _ (some ⟨w2.heap.size, 0, none⟩) 1 1 [.int .i64 k] rfl (new_in1 _ _ _) (by simp [Value.oneCell']) (by simp only [maxLen]; omega) (by omega) (by have := B2.out.size; simp; omega) ?_; intro v4 w4 hown4 hg4 hat4; obtain ⟨B4, d4, rfl, _⟩ := own_shape hown4)
          go_roundw
          case rel => exact ⟨k + 1, n + 1, B4, d4, by omega, by omega, by have := HN.out; rw [HL1.out]; simp [Hid, this], rfl, by rw [HL1.out, inC_snoc]; exact hown4, ⟨(HK2.out.alloc _).grown hg4 (fun e => by have := HK.out.2 _ e.symm; omega), fun g hg => by
              rcases hat4 with h4 | h4
              · rw [h4] at hg; exact HK.out.2 g hg
              · rw [h4] at hg; have := HK2.out.lt; injection hg with hg; subst hg; simp; omega⟩, below_own (B2.out.alloc B2.out.size _) (O2.out.alloc _) hg4 (Nat.le_refl _) (by have := B2.out.size; simp; omega), by go_num⟩
          case measure => simp [intOf]; omega
      · obtain rfl : k = xs.length := by omega
        have HN' := HN.out
        have HLL := Lib.hid (show LL = wTo xs P xs.length from HL.out)
        go_wp2_with fail
        go_ret2
        exact ⟨_, rfl, by rw [HLL.out, HN']; exact HO.out, BW.out⟩
  · rw [if_neg hz] at HL
    have hne : (cz != 0) = true := by rw [bne_iff_ne]; exact hz
    clear hz
    unfold Ent.val at HC0 ⊢
    go_enter Tryz.func26, Tryz.ntmps26
    go_wp2_with fail
    generalize hW : w.alloc (.cells #[.string b.text, .int .i64 b.x, .int .i64 b.y, .int .i64 b.since] 45) = W
    obtain ⟨kb, bw, hsz⟩ := KN.out W hW.symm
    clear hW hsz
    refine (HC0.out W bw).mono ?_; rintro e w1 ⟨rfl, b1⟩
    go_wp2_with fail
    go_ret2
    exact ⟨_, rfl, by rw [HL.out]; exact World.ownsRow_nil _ _ _ _, bw.trans (b1.mono bw.size)⟩
set_option maxRecDepth 100000 in
set_option maxHeartbeats 1000000 in
theorem specDis_any (xs : List Ent) (b : Ent) (dist : Int) (hs : ∀ b ∈ xs, b.text.size ≤ 1048576) (hb : b.text.size ≤ 1048576) (A : Option Addr) (c : Nat) (w : World) (h : HasEnt w xs A) :
    Calls Tryz.prog 30 #[.slice A xs.length c, b.val, .int .i64 dist] w fun e w' => ∃ v, e = .returned (.tuple #[v, .int .i64 (codeE xs (entB b) dist)]) ∧ w'.ownsRow w.heap.size 2 1 v (rowE xs b dist (pDis b dist)).length (inC (rowE xs b dist (pDis b dist))) ∧ Below w.heap.size w w' := by
  have HC0 := Lib.hid (fun W (hb' : Below w.heap.size w W) => specCodeE_any xs b dist A c W (h.below hb') hs hb)
  have KN := Lib.hid (blks_one w 45 #[.string b.text, .int .i64 b.x, .int .i64 b.y, .int .i64 b.since])
  by_cases hz : codeE xs (entB b) dist = 0
  · obtain ⟨hx, hm, hb, hd⟩ := codeE_zero hz
    have HW := Lib.hid (fun W (hb' : Below w.heap.size w W) => specWhich_any xs b dist false hx hb hd A c W (h.below hb') hm)
    have HE := Lib.hid (show rowE xs b dist (pDis b dist) = whichE xs (fun f => homB f b dist && (decide (cmpE f b ≤ 0) == false)) by
      rw [rowE, if_pos hz]
      exact wTo_congr (fun f _ => by
        unfold pDis
        rw [homB_comm, cmpE_anti b f]
        congr 1
        by_cases h0 : cmpE f b ≤ 0
        · rw [decide_eq_true h0, decide_eq_false (by omega)]; rfl
        · rw [decide_eq_false h0, decide_eq_true (by omega)]; rfl) _)
    generalize rowE xs b dist (pDis b dist) = LL at HE ⊢
    rw [← HE.out] at HW
    rw [hz] at HC0 ⊢
    clear hz hx hb hd hs h HE
    unfold Ent.val at HC0 HW ⊢
    go_enter Tryz.func30, Tryz.ntmps30
    go_wp2_with fail
    generalize hW : w.alloc (.cells #[.string b.text, .int .i64 b.x, .int .i64 b.y, .int .i64 b.since] 45) = W
    obtain ⟨kb, bw, hsz⟩ := KN.out W hW.symm
    clear hW hsz
    refine (HC0.out W bw).mono ?_; rintro e w1 ⟨rfl, b1⟩
    obtain ⟨x0, x1, x2, x3⟩ := cells_4 (kb.below b1 kb.lt)
    have B1 := Lib.hid (bw.trans (b1.mono bw.size)); clear kb bw b1
    go_wp2_with fail
    refine (HW.out w1 B1.out).mono ?_; rintro e w2 ⟨v, rfl, own2, b2⟩
    have O2 := Lib.hid own2; have B2 := Lib.hid b2; clear own2 b2
    go_wp2_with fail
    go_ret2
    exact ⟨_, rfl, own_mono O2.out B1.out.size, B1.out.trans (B2.out.mono B1.out.size)⟩
  · have HE := Lib.hid (show rowE xs b dist (pDis b dist) = [] by rw [rowE, if_neg hz])
    generalize rowE xs b dist (pDis b dist) = LL at HE ⊢
    generalize codeE xs (entB b) dist = cz at HC0 hz ⊢
    have hne : (cz != 0) = true := by rw [bne_iff_ne]; exact hz
    clear hz hs h hb
    unfold Ent.val at HC0 ⊢
    go_enter Tryz.func30, Tryz.ntmps30
    go_wp2_with fail
    generalize hW : w.alloc (.cells #[.string b.text, .int .i64 b.x, .int .i64 b.y, .int .i64 b.since] 45) = W
    obtain ⟨kb, bw, hsz⟩ := KN.out W hW.symm
    clear hW hsz
    refine (HC0.out W bw).mono ?_; rintro e w1 ⟨rfl, b1⟩
    go_wp2_with fail
    go_ret2
    exact ⟨_, rfl, by rw [HE.out]; exact World.ownsRow_nil _ _ _ _, bw.trans (b1.mono bw.size)⟩
set_option maxRecDepth 100000 in
set_option maxHeartbeats 1000000 in
theorem specAdm_any (xs : List Ent) (b : Ent) (dist : Int) (hs : ∀ b ∈ xs, b.text.size ≤ 1048576) (hb : b.text.size ≤ 1048576) (A : Option Addr) (c : Nat) (w : World) (h : HasEnt w xs A) :
    Calls Tryz.prog 28 #[.slice A xs.length c, b.val, .int .i64 dist] w fun e w' => e = .returned (.tuple #[.bool (admB xs b dist), .int .i64 (codeE xs (entB b) dist)]) ∧ Below w.heap.size w w' := by
  have HC0 := Lib.hid (fun W (hb' : Below w.heap.size w W) => specCodeE_any xs b dist A c W (h.below hb') hs hb)
  have KN := Lib.hid (blks_one w 45 #[.string b.text, .int .i64 b.x, .int .i64 b.y, .int .i64 b.since])
  by_cases hz : codeE xs (entB b) dist = 0
  · obtain ⟨hx, hm, hb, hd⟩ := codeE_zero hz
    have HW := Lib.hid (fun W (hb' : Below w.heap.size w W) => specWhich_any xs b dist true hx hb hd A c W (h.below hb') hm)
    have HE := Lib.hid (show rowE xs b dist (pBar b dist) = whichE xs (fun f => homB f b dist && (decide (cmpE f b ≤ 0) == true)) by
      rw [rowE, if_pos hz]
      exact wTo_congr (fun f _ => by
        unfold pBar
        rw [homB_comm]
        cases decide (cmpE f b ≤ 0) <;> rfl) _)
    have HR := Lib.hid (show admB xs b dist = decide ((rowE xs b dist (pBar b dist)).length = 0) by rw [admB, hz]; rfl)
    generalize admB xs b dist = r at HR ⊢
    generalize rowE xs b dist (pBar b dist) = LL at HE HR
    rw [← HE.out] at HW
    rw [hz] at HC0 ⊢
    clear hz hx hb hd hs h HE
    unfold Ent.val at HC0 HW ⊢
    go_enter Tryz.func28, Tryz.ntmps28
    go_wp2_with fail
    generalize hW : w.alloc (.cells #[.string b.text, .int .i64 b.x, .int .i64 b.y, .int .i64 b.since] 45) = W
    obtain ⟨kb, bw, hsz⟩ := KN.out W hW.symm
    clear hW hsz
    refine (HC0.out W bw).mono ?_; rintro e w1 ⟨rfl, b1⟩
    obtain ⟨x0, x1, x2, x3⟩ := cells_4 (kb.below b1 kb.lt)
    have B1 := Lib.hid (bw.trans (b1.mono bw.size)); clear kb bw b1
    go_wp2_with fail
    refine (HW.out w1 B1.out).mono ?_; rintro e w2 ⟨v, rfl, own2, b2⟩
    obtain ⟨A2, c2, rfl, _⟩ := own_shape own2
    have B2 := Lib.hid b2; clear own2 b2
    go_wp2_with fail
    go_ret2
    exact ⟨by rw [HR.out]; (first | done | rfl | (by_cases h0 : LL.length = 0 <;> simp [h0]) | (simp; omega)), B1.out.trans (B2.out.mono B1.out.size)⟩
  · have HE := Lib.hid (show admB xs b dist = false by
      have : (codeE xs (entB b) dist == 0) = false := by simpa using hz
      rw [admB, this, Bool.false_and])
    generalize admB xs b dist = r at HE ⊢
    generalize codeE xs (entB b) dist = cz at HC0 hz ⊢
    have hne : (cz != 0) = true := by rw [bne_iff_ne]; exact hz
    clear hz hs h hb
    unfold Ent.val at HC0 ⊢
    go_enter Tryz.func28, Tryz.ntmps28
    go_wp2_with fail
    generalize hW : w.alloc (.cells #[.string b.text, .int .i64 b.x, .int .i64 b.y, .int .i64 b.since] 45) = W
    obtain ⟨kb, bw, hsz⟩ := KN.out W hW.symm
    clear hW hsz
    refine (HC0.out W bw).mono ?_; rintro e w1 ⟨rfl, b1⟩
    go_wp2_with fail
    go_ret2
    exact ⟨by rw [HE.out]; first | done | rfl, bw.trans (b1.mono bw.size)⟩
end Go.Proofs.YtihhpmhigmegjaaGreatDoor
namespace Go.Proofs.YtihhpmhigmegjaaGreatDoor
open Go.ChangeShapes Go.WideShapes Go.ChangeAt Go.RowKit
set_option maxRecDepth 100000 in
set_option maxHeartbeats 2000000 in
theorem homAll_any (p : Ent → Bool) (xs : List Ent) (b : Ent) (dist : Int) (hx : ∀ f ∈ xs, entB f = true) (hb : entB b = true) (hd : 0 ≤ dist ∧ dist ≤ 4000)  (A : Option Addr) (c : Nat) (w : World) (h : HasEnt w xs A) (hm : xs.length ≤ 12)
    (hcl : ∀ f ∈ xs, ∀ W, Below w.heap.size w W → Calls Tryz.prog 75 #[f.val] W fun e w' => e = .returned (.bool (p f)) ∧ Below W.heap.size W w') :
    Calls Tryz.prog 74 #[.slice A xs.length c, b.val, .int .i64 dist, .func (.func 75) #[] #[]] w fun e w' => ∃ v, e = .returned v ∧ w'.ownsRow w.heap.size 2 1 v (whichE xs (fun f => homB b f dist && p f)).length (inC (whichE xs (fun f => homB b f dist && p f))) ∧ Below w.heap.size w w' := by
  obtain ⟨i0, hi0, hz0, hz1, hz2⟩ := info_parts infoInt
  have H := Lib.hid h; clear h
  have HX := Lib.hid hx; clear hx
  have HCl := Lib.hid hcl; clear hcl
  have HB := Lib.hid hb; clear hb
  have KN := Lib.hid (blks_one w 45 #[.string b.text, .int .i64 b.x, .int .i64 b.y, .int .i64 b.since])
  have HHm := Lib.hid (fun f hf => implHom_any b f HB.out hf dist hd)
  have HL := Lib.hid (show whichE xs (fun f => homB b f dist && p f) = wTo xs (fun f => homB b f dist && p f) xs.length from rfl)
  generalize whichE xs (fun f => homB b f dist && p f) = LL at HL ⊢
  unfold Ent.val at HHm HCl ⊢
  go_enter Tryz.func74, Tryz.ntmps74
  go_upto_region 2 with (fail)
  generalize hW : w.alloc (.cells #[.string b.text, .int .i64 b.x, .int .i64 b.y, .int .i64 b.since] 45) = W
  obtain ⟨kb, bw, hsz⟩ := KN.out W hW.symm
  clear hW hsz
  have KB := Lib.hid kb; have BW0 := Lib.hid bw; have LB := Lib.hid kb.lt; clear kb bw
  go_wp2_with fail
  go_loopw [9, 14] (fun v9 v14 wr => ∃ (k n : Nat) (B : Option Addr) (d : Nat), k ≤ xs.length ∧ n ≤ k ∧ Hid ((wTo xs (fun f => homB b f dist && p f) k).length = n) ∧ v9 = .slice B n d ∧ Hid (wr.ownsRow W.heap.size 2 1 (.slice B n d) n (inC (wTo xs (fun f => homB b f dist && p f) k))) ∧ Hid (Below W.heap.size W wr) ∧ v14 = .int .i64 k) (fun _ i _ => xs.length - (intOf i).toNat)
  case atStart => exact ⟨0, 0, none, 0, by omega, by omega, rfl, rfl, World.ownsRow_nil _ _ _ _, Below.refl _ _, rfl⟩
  case round =>
    obtain ⟨k, n, B, d, hk, hnk, HN, rfl, HO, BW, rfl⟩ := hrel
    by_cases hlt : k < xs.length
    · obtain ⟨ab, ao, rfl, hadb, hcell⟩ := (H.out.below (BW0.out.trans (BW.out.mono BW0.out.size))).1.2 (by omega)
      obtain ⟨e0, e1, e2, e3⟩ := enC_get xs k hlt
      have c0 := hcell _ _ e0
      have c1 := hcell _ _ e1
      have c2 := hcell _ _ e2
      have c3 := hcell _ _ e3
      rw [← Nat.add_assoc] at c1 c2 c3
      clear hcell e0 e1 e2 e3
      have HW1 := Lib.hid (wTo_at (xs := xs) (p := fun f => homB b f dist && p f) hlt)
      have HH1 := Lib.hid (HHm.out xs[k] (HX.out _ (List.getElem_mem hlt)))
      have HC1 := Lib.hid (HCl.out xs[k] (List.getElem_mem hlt))
      have T3 := Lib.hid (blks_one wr 45 #[.string xs[k].text, .int .i64 xs[k].x, .int .i64 xs[k].y, .int .i64 xs[k].since])
      generalize xs[k] = f at c0 c1 c2 c3 HW1 HH1 HC1 T3
      obtain ⟨x0, x1, x2, x3⟩ := cells_4 (KB.out.below BW.out LB.out)
      go_upto_region 5 with (fail)
      generalize hW2 : wr.alloc (.cells #[.string f.text, .int .i64 f.x, .int .i64 f.y, .int .i64 f.since] 45) = W2
      obtain ⟨kf, bf, hsz⟩ := T3.out W2 hW2.symm
      clear hW2 hsz c0 c1 c2 c3 x0 x1 x2 x3
      have BF := Lib.hid (BW.out.trans (bf.mono BW.out.size))
      have OF := Lib.hid (own_below HO.out bf)
      obtain ⟨x0, x1, x2, x3⟩ := cells_4 (KB.out.below BF.out LB.out)
      obtain ⟨y0, y1, y2, y3⟩ := cells_4 kf
      have KF := Lib.hid kf; clear kf bf
      cases q1 : homB b f dist
      · have HL1 := Lib.hid (show wTo xs (fun f => homB b f dist && p f) (k + 1) = wTo xs (fun f => homB b f dist && p f) k by rw [HW1.out, q1]; rfl)
        rw [q1] at HH1
        clear q1
        go_wp2_with fail
        refine (HH1.out _).mono ?_; rintro e w1 ⟨rfl, b1⟩
        go_wp2_with fail
        go_roundw
        case rel => exact ⟨k + 1, n, B, d, by omega, by omega, by rw [HL1.out]; exact HN.out, rfl, by rw [HL1.out]; exact own_below OF.out b1, BF.out.trans (b1.mono BF.out.size), by go_num⟩
        case measure => simp [intOf]; omega
      · cases q2 : p f
        · have HL1 := Lib.hid (show wTo xs (fun f => homB b f dist && p f) (k + 1) = wTo xs (fun f => homB b f dist && p f) k by rw [HW1.out, q1, q2]; rfl)
          rw [q1] at HH1
          rw [q2] at HC1
          clear q1 q2
          go_wp2_with fail
          refine (HH1.out _).mono ?_; rintro e w1 ⟨rfl, b1⟩
          have B1 := Lib.hid (BF.out.trans (b1.mono BF.out.size)); have O1 := Lib.hid (own_below OF.out b1)
          obtain ⟨y0, y1, y2, y3⟩ := cells_4 (KF.out.below b1 KF.out.lt)
          clear b1
          go_wp2_with fail
          refine (HC1.out w1 (BW0.out.trans (B1.out.mono BW0.out.size))).mono ?_; rintro e w2 ⟨rfl, b2⟩
          go_wp2_with fail
          go_roundw
          case rel => exact ⟨k + 1, n, B, d, by omega, by omega, by rw [HL1.out]; exact HN.out, rfl, by rw [HL1.out]; exact own_below O1.out b2, B1.out.trans (b2.mono B1.out.size), by go_num⟩
          case measure => simp [intOf]; omega
        · have HL1 := Lib.hid (show wTo xs (fun f => homB b f dist && p f) (k + 1) = wTo xs (fun f => homB b f dist && p f) k ++ [(k : Int)] by rw [HW1.out, q1, q2]; rfl)
          rw [q1] at HH1
          rw [q2] at HC1
          clear q1 q2
          go_wp2_with fail
          refine (HH1.out _).mono ?_; rintro e w1 ⟨rfl, b1⟩
          have B1 := Lib.hid (BF.out.trans (b1.mono BF.out.size)); have O1 := Lib.hid (own_below OF.out b1)
          obtain ⟨y0, y1, y2, y3⟩ := cells_4 (KF.out.below b1 KF.out.lt)
          clear b1
          go_wp2_with fail
          refine (HC1.out w1 (BW0.out.trans (B1.out.mono BW0.out.size))).mono ?_; rintro e w2 ⟨rfl, b2⟩
          have B2 := Lib.hid (B1.out.trans (b2.mono B1.out.size)); have O2 := Lib.hid (own_below O1.out b2)
          clear b2
          go_wp2_with (at_builtin; refine wpList_append_any _ rfl (.tmp 28) (.tmp 30) _ rfl W.heap.size 2 i0 _ 1 8 Tryz.underlying31 hi0 hz0 hz1 hz2 rfl (by omega) (.slice B n d) n (inC (wTo xs (fun f => homB b f dist && p f) k)) rfl (O2.out.alloc _) _ (some ⟨w2.heap.size, 0, none⟩) 1 1 [.int .i64 k] rfl (new_in1 _ _ _) (by simp [Value.oneCell']) (by simp only [maxLen]; omega) (by omega) (by have := B2.out.size; simp; omega) ?_; intro v4 w4 hown4 hg4 hat4; obtain ⟨B4, d4, rfl, _⟩ := own_shape hown4)
          go_roundw
          case rel => exact ⟨k + 1, n + 1, B4, d4, by omega, by omega, by have := HN.out; rw [HL1.out]; simp [Hid, this], rfl, by rw [HL1.out, inC_snoc]; exact hown4, below_own (B2.out.alloc B2.out.size _) (O2.out.alloc _) hg4 (Nat.le_refl _) (by have := B2.out.size; simp; omega), by go_num⟩
          case measure => simp [intOf]; omega
    · obtain rfl : k = xs.length := by omega
      have HN' := HN.out
      go_wp2_with fail
      go_ret
      exact ⟨_, rfl, by rw [HL.out, HN']; exact own_mono HO.out BW0.out.size, BW0.out.trans (BW.out.mono BW0.out.size)⟩
end Go.Proofs.YtihhpmhigmegjaaGreatDoor
namespace Go.Proofs.YtihhpmhigmegjaaGreatDoor
open Go.ChangeShapes Go.WideShapes Go.ChangeAt Go.RowKit
set_option maxRecDepth 100000 in
set_option maxHeartbeats 2000000 in
theorem homBar_any (p : Ent → Bool) (xs : List Ent) (b : Ent) (dist : Int) (hx : ∀ f ∈ xs, entB f = true) (hb : entB b = true) (hd : 0 ≤ dist ∧ dist ≤ 4000) (g : Nat) (A : Option Addr) (c : Nat) (w : World) (h : HasEnt w xs A) (hm : xs.length ≤ 12)
    (hcl : ∀ f ∈ xs, ∀ W, Below w.heap.size w W → Calls Tryz.prog 135 #[f.val, .pointer (some ⟨g, 0, none⟩)] W fun e w' => e = .returned (.bool (p f)) ∧ Below W.heap.size W w') :
    Calls Tryz.prog 74 #[.slice A xs.length c, b.val, .int .i64 dist, .func (.func 135) #[] #[.pointer (some ⟨g, 0, none⟩)]] w fun e w' => ∃ v, e = .returned v ∧ w'.ownsRow w.heap.size 2 1 v (whichE xs (fun f => homB b f dist && p f)).length (inC (whichE xs (fun f => homB b f dist && p f))) ∧ Below w.heap.size w w' := by
  obtain ⟨i0, hi0, hz0, hz1, hz2⟩ := info_parts infoInt
  have H := Lib.hid h; clear h
  have HX := Lib.hid hx; clear hx
  have HCl := Lib.hid hcl; clear hcl
  have HB := Lib.hid hb; clear hb
  have KN := Lib.hid (blks_one w 45 #[.string b.text, .int .i64 b.x, .int .i64 b.y, .int .i64 b.since])
  have HHm := Lib.hid (fun f hf => implHom_any b f HB.out hf dist hd)
  have HL := Lib.hid (show whichE xs (fun f => homB b f dist && p f) = wTo xs (fun f => homB b f dist && p f) xs.length from rfl)
  generalize whichE xs (fun f => homB b f dist && p f) = LL at HL ⊢
  unfold Ent.val at HHm HCl ⊢
  go_enter Tryz.func74, Tryz.ntmps74
  go_upto_region 2 with (fail)
  generalize hW : w.alloc (.cells #[.string b.text, .int .i64 b.x, .int .i64 b.y, .int .i64 b.since] 45) = W
  obtain ⟨kb, bw, hsz⟩ := KN.out W hW.symm
  clear hW hsz
  have KB := Lib.hid kb; have BW0 := Lib.hid bw; have LB := Lib.hid kb.lt; clear kb bw
  go_wp2_with fail
  go_loopw [9, 14] (fun v9 v14 wr => ∃ (k n : Nat) (B : Option Addr) (d : Nat), k ≤ xs.length ∧ n ≤ k ∧ Hid ((wTo xs (fun f => homB b f dist && p f) k).length = n) ∧ v9 = .slice B n d ∧ Hid (wr.ownsRow W.heap.size 2 1 (.slice B n d) n (inC (wTo xs (fun f => homB b f dist && p f) k))) ∧ Hid (Below W.heap.size W wr) ∧ v14 = .int .i64 k) (fun _ i _ => xs.length - (intOf i).toNat)
  case atStart => exact ⟨0, 0, none, 0, by omega, by omega, rfl, rfl, World.ownsRow_nil _ _ _ _, Below.refl _ _, rfl⟩
  case round =>
    obtain ⟨k, n, B, d, hk, hnk, HN, rfl, HO, BW, rfl⟩ := hrel
    by_cases hlt : k < xs.length
    · obtain ⟨ab, ao, rfl, hadb, hcell⟩ := (H.out.below (BW0.out.trans (BW.out.mono BW0.out.size))).1.2 (by omega)
      obtain ⟨e0, e1, e2, e3⟩ := enC_get xs k hlt
      have c0 := hcell _ _ e0
      have c1 := hcell _ _ e1
      have c2 := hcell _ _ e2
      have c3 := hcell _ _ e3
      rw [← Nat.add_assoc] at c1 c2 c3
      clear hcell e0 e1 e2 e3
      have HW1 := Lib.hid (wTo_at (xs := xs) (p := fun f => homB b f dist && p f) hlt)
      have HH1 := Lib.hid (HHm.out xs[k] (HX.out _ (List.getElem_mem hlt)))
      have HC1 := Lib.hid (HCl.out xs[k] (List.getElem_mem hlt))
      have T3 := Lib.hid (blks_one wr 45 #[.string xs[k].text, .int .i64 xs[k].x, .int .i64 xs[k].y, .int .i64 xs[k].since])
      generalize xs[k] = f at c0 c1 c2 c3 HW1 HH1 HC1 T3
      obtain ⟨x0, x1, x2, x3⟩ := cells_4 (KB.out.below BW.out LB.out)
      go_upto_region 5 with (fail)
      generalize hW2 : wr.alloc (.cells #[.string f.text, .int .i64 f.x, .int .i64 f.y, .int .i64 f.since] 45) = W2
      obtain ⟨kf, bf, hsz⟩ := T3.out W2 hW2.symm
      clear hW2 hsz c0 c1 c2 c3 x0 x1 x2 x3
      have BF := Lib.hid (BW.out.trans (bf.mono BW.out.size))
      have OF := Lib.hid (own_below HO.out bf)
      obtain ⟨x0, x1, x2, x3⟩ := cells_4 (KB.out.below BF.out LB.out)
      obtain ⟨y0, y1, y2, y3⟩ := cells_4 kf
      have KF := Lib.hid kf; clear kf bf
      cases q1 : homB b f dist
      · have HL1 := Lib.hid (show wTo xs (fun f => homB b f dist && p f) (k + 1) = wTo xs (fun f => homB b f dist && p f) k by rw [HW1.out, q1]; rfl)
        rw [q1] at HH1
        clear q1
        go_wp2_with fail
        refine (HH1.out _).mono ?_; rintro e w1 ⟨rfl, b1⟩
        go_wp2_with fail
        go_roundw
        case rel => exact ⟨k + 1, n, B, d, by omega, by omega, by rw [HL1.out]; exact HN.out, rfl, by rw [HL1.out]; exact own_below OF.out b1, BF.out.trans (b1.mono BF.out.size), by go_num⟩
        case measure => simp [intOf]; omega
      · cases q2 : p f
        · have HL1 := Lib.hid (show wTo xs (fun f => homB b f dist && p f) (k + 1) = wTo xs (fun f => homB b f dist && p f) k by rw [HW1.out, q1, q2]; rfl)
          rw [q1] at HH1
          rw [q2] at HC1
          clear q1 q2
          go_wp2_with fail
          refine (HH1.out _).mono ?_; rintro e w1 ⟨rfl, b1⟩
          have B1 := Lib.hid (BF.out.trans (b1.mono BF.out.size)); have O1 := Lib.hid (own_below OF.out b1)
          obtain ⟨y0, y1, y2, y3⟩ := cells_4 (KF.out.below b1 KF.out.lt)
          clear b1
          go_wp2_with fail
          refine (HC1.out w1 (BW0.out.trans (B1.out.mono BW0.out.size))).mono ?_; rintro e w2 ⟨rfl, b2⟩
          go_wp2_with fail
          go_roundw
          case rel => exact ⟨k + 1, n, B, d, by omega, by omega, by rw [HL1.out]; exact HN.out, rfl, by rw [HL1.out]; exact own_below O1.out b2, B1.out.trans (b2.mono B1.out.size), by go_num⟩
          case measure => simp [intOf]; omega
        · have HL1 := Lib.hid (show wTo xs (fun f => homB b f dist && p f) (k + 1) = wTo xs (fun f => homB b f dist && p f) k ++ [(k : Int)] by rw [HW1.out, q1, q2]; rfl)
          rw [q1] at HH1
          rw [q2] at HC1
          clear q1 q2
          go_wp2_with fail
          refine (HH1.out _).mono ?_; rintro e w1 ⟨rfl, b1⟩
          have B1 := Lib.hid (BF.out.trans (b1.mono BF.out.size)); have O1 := Lib.hid (own_below OF.out b1)
          obtain ⟨y0, y1, y2, y3⟩ := cells_4 (KF.out.below b1 KF.out.lt)
          clear b1
          go_wp2_with fail
          refine (HC1.out w1 (BW0.out.trans (B1.out.mono BW0.out.size))).mono ?_; rintro e w2 ⟨rfl, b2⟩
          have B2 := Lib.hid (B1.out.trans (b2.mono B1.out.size)); have O2 := Lib.hid (own_below O1.out b2)
          clear b2
          go_wp2_with (at_builtin; refine wpList_append_any _ rfl (.tmp 28) (.tmp 30) _ rfl W.heap.size 2 i0 _ 1 8 Tryz.underlying31 hi0 hz0 hz1 hz2 rfl (by omega) (.slice B n d) n (inC (wTo xs (fun f => homB b f dist && p f) k)) rfl (O2.out.alloc _) _ (some ⟨w2.heap.size, 0, none⟩) 1 1 [.int .i64 k] rfl (new_in1 _ _ _) (by simp [Value.oneCell']) (by simp only [maxLen]; omega) (by omega) (by have := B2.out.size; simp; omega) ?_; intro v4 w4 hown4 hg4 hat4; obtain ⟨B4, d4, rfl, _⟩ := own_shape hown4)
          go_roundw
          case rel => exact ⟨k + 1, n + 1, B4, d4, by omega, by omega, by have := HN.out; rw [HL1.out]; simp [Hid, this], rfl, by rw [HL1.out, inC_snoc]; exact hown4, below_own (B2.out.alloc B2.out.size _) (O2.out.alloc _) hg4 (Nat.le_refl _) (by have := B2.out.size; simp; omega), by go_num⟩
          case measure => simp [intOf]; omega
    · obtain rfl : k = xs.length := by omega
      have HN' := HN.out
      go_wp2_with fail
      go_ret
      exact ⟨_, rfl, by rw [HL.out, HN']; exact own_mono HO.out BW0.out.size, BW0.out.trans (BW.out.mono BW0.out.size)⟩
end Go.Proofs.YtihhpmhigmegjaaGreatDoor
namespace Go.Proofs.YtihhpmhigmegjaaGreatDoor
open Go.ChangeShapes Go.WideShapes Go.ChangeAt Go.RowKit
set_option maxRecDepth 100000 in
set_option maxHeartbeats 2000000 in
theorem homDis_any (p : Ent → Bool) (xs : List Ent) (b : Ent) (dist : Int) (hx : ∀ f ∈ xs, entB f = true) (hb : entB b = true) (hd : 0 ≤ dist ∧ dist ≤ 4000) (g : Nat) (A : Option Addr) (c : Nat) (w : World) (h : HasEnt w xs A) (hm : xs.length ≤ 12)
    (hcl : ∀ f ∈ xs, ∀ W, Below w.heap.size w W → Calls Tryz.prog 80 #[f.val, .pointer (some ⟨g, 0, none⟩)] W fun e w' => e = .returned (.bool (p f)) ∧ Below W.heap.size W w') :
    Calls Tryz.prog 74 #[.slice A xs.length c, b.val, .int .i64 dist, .func (.func 80) #[] #[.pointer (some ⟨g, 0, none⟩)]] w fun e w' => ∃ v, e = .returned v ∧ w'.ownsRow w.heap.size 2 1 v (whichE xs (fun f => homB b f dist && p f)).length (inC (whichE xs (fun f => homB b f dist && p f))) ∧ Below w.heap.size w w' := by
  obtain ⟨i0, hi0, hz0, hz1, hz2⟩ := info_parts infoInt
  have H := Lib.hid h; clear h
  have HX := Lib.hid hx; clear hx
  have HCl := Lib.hid hcl; clear hcl
  have HB := Lib.hid hb; clear hb
  have KN := Lib.hid (blks_one w 45 #[.string b.text, .int .i64 b.x, .int .i64 b.y, .int .i64 b.since])
  have HHm := Lib.hid (fun f hf => implHom_any b f HB.out hf dist hd)
  have HL := Lib.hid (show whichE xs (fun f => homB b f dist && p f) = wTo xs (fun f => homB b f dist && p f) xs.length from rfl)
  generalize whichE xs (fun f => homB b f dist && p f) = LL at HL ⊢
  unfold Ent.val at HHm HCl ⊢
  go_enter Tryz.func74, Tryz.ntmps74
  go_upto_region 2 with (fail)
  generalize hW : w.alloc (.cells #[.string b.text, .int .i64 b.x, .int .i64 b.y, .int .i64 b.since] 45) = W
  obtain ⟨kb, bw, hsz⟩ := KN.out W hW.symm
  clear hW hsz
  have KB := Lib.hid kb; have BW0 := Lib.hid bw; have LB := Lib.hid kb.lt; clear kb bw
  go_wp2_with fail
  go_loopw [9, 14] (fun v9 v14 wr => ∃ (k n : Nat) (B : Option Addr) (d : Nat), k ≤ xs.length ∧ n ≤ k ∧ Hid ((wTo xs (fun f => homB b f dist && p f) k).length = n) ∧ v9 = .slice B n d ∧ Hid (wr.ownsRow W.heap.size 2 1 (.slice B n d) n (inC (wTo xs (fun f => homB b f dist && p f) k))) ∧ Hid (Below W.heap.size W wr) ∧ v14 = .int .i64 k) (fun _ i _ => xs.length - (intOf i).toNat)
  case atStart => exact ⟨0, 0, none, 0, by omega, by omega, rfl, rfl, World.ownsRow_nil _ _ _ _, Below.refl _ _, rfl⟩
  case round =>
    obtain ⟨k, n, B, d, hk, hnk, HN, rfl, HO, BW, rfl⟩ := hrel
    by_cases hlt : k < xs.length
    · obtain ⟨ab, ao, rfl, hadb, hcell⟩ := (H.out.below (BW0.out.trans (BW.out.mono BW0.out.size))).1.2 (by omega)
      obtain ⟨e0, e1, e2, e3⟩ := enC_get xs k hlt
      have c0 := hcell _ _ e0
      have c1 := hcell _ _ e1
      have c2 := hcell _ _ e2
      have c3 := hcell _ _ e3
      rw [← Nat.add_assoc] at c1 c2 c3
      clear hcell e0 e1 e2 e3
      have HW1 := Lib.hid (wTo_at (xs := xs) (p := fun f => homB b f dist && p f) hlt)
      have HH1 := Lib.hid (HHm.out xs[k] (HX.out _ (List.getElem_mem hlt)))
      have HC1 := Lib.hid (HCl.out xs[k] (List.getElem_mem hlt))
      have T3 := Lib.hid (blks_one wr 45 #[.string xs[k].text, .int .i64 xs[k].x, .int .i64 xs[k].y, .int .i64 xs[k].since])
      generalize xs[k] = f at c0 c1 c2 c3 HW1 HH1 HC1 T3
      obtain ⟨x0, x1, x2, x3⟩ := cells_4 (KB.out.below BW.out LB.out)
      go_upto_region 5 with (fail)
      generalize hW2 : wr.alloc (.cells #[.string f.text, .int .i64 f.x, .int .i64 f.y, .int .i64 f.since] 45) = W2
      obtain ⟨kf, bf, hsz⟩ := T3.out W2 hW2.symm
      clear hW2 hsz c0 c1 c2 c3 x0 x1 x2 x3
      have BF := Lib.hid (BW.out.trans (bf.mono BW.out.size))
      have OF := Lib.hid (own_below HO.out bf)
      obtain ⟨x0, x1, x2, x3⟩ := cells_4 (KB.out.below BF.out LB.out)
      obtain ⟨y0, y1, y2, y3⟩ := cells_4 kf
      have KF := Lib.hid kf; clear kf bf
      cases q1 : homB b f dist
      · have HL1 := Lib.hid (show wTo xs (fun f => homB b f dist && p f) (k + 1) = wTo xs (fun f => homB b f dist && p f) k by rw [HW1.out, q1]; rfl)
        rw [q1] at HH1
        clear q1
        go_wp2_with fail
        refine (HH1.out _).mono ?_; rintro e w1 ⟨rfl, b1⟩
        go_wp2_with fail
        go_roundw
        case rel => exact ⟨k + 1, n, B, d, by omega, by omega, by rw [HL1.out]; exact HN.out, rfl, by rw [HL1.out]; exact own_below OF.out b1, BF.out.trans (b1.mono BF.out.size), by go_num⟩
        case measure => simp [intOf]; omega
      · cases q2 : p f
        · have HL1 := Lib.hid (show wTo xs (fun f => homB b f dist && p f) (k + 1) = wTo xs (fun f => homB b f dist && p f) k by rw [HW1.out, q1, q2]; rfl)
          rw [q1] at HH1
          rw [q2] at HC1
          clear q1 q2
          go_wp2_with fail
          refine (HH1.out _).mono ?_; rintro e w1 ⟨rfl, b1⟩
          have B1 := Lib.hid (BF.out.trans (b1.mono BF.out.size)); have O1 := Lib.hid (own_below OF.out b1)
          obtain ⟨y0, y1, y2, y3⟩ := cells_4 (KF.out.below b1 KF.out.lt)
          clear b1
          go_wp2_with fail
          refine (HC1.out w1 (BW0.out.trans (B1.out.mono BW0.out.size))).mono ?_; rintro e w2 ⟨rfl, b2⟩
          go_wp2_with fail
          go_roundw
          case rel => exact ⟨k + 1, n, B, d, by omega, by omega, by rw [HL1.out]; exact HN.out, rfl, by rw [HL1.out]; exact own_below O1.out b2, B1.out.trans (b2.mono B1.out.size), by go_num⟩
          case measure => simp [intOf]; omega
        · have HL1 := Lib.hid (show wTo xs (fun f => homB b f dist && p f) (k + 1) = wTo xs (fun f => homB b f dist && p f) k ++ [(k : Int)] by rw [HW1.out, q1, q2]; rfl)
          rw [q1] at HH1
          rw [q2] at HC1
          clear q1 q2
          go_wp2_with fail
          refine (HH1.out _).mono ?_; rintro e w1 ⟨rfl, b1⟩
          have B1 := Lib.hid (BF.out.trans (b1.mono BF.out.size)); have O1 := Lib.hid (own_below OF.out b1)
          obtain ⟨y0, y1, y2, y3⟩ := cells_4 (KF.out.below b1 KF.out.lt)
          clear b1
          go_wp2_with fail
          refine (HC1.out w1 (BW0.out.trans (B1.out.mono BW0.out.size))).mono ?_; rintro e w2 ⟨rfl, b2⟩
          have B2 := Lib.hid (B1.out.trans (b2.mono B1.out.size)); have O2 := Lib.hid (own_below O1.out b2)
          clear b2
          go_wp2_with (at_builtin; refine wpList_append_any _ rfl (.tmp 28) (.tmp 30) _ rfl W.heap.size 2 i0 _ 1 8 Tryz.underlying31 hi0 hz0 hz1 hz2 rfl (by omega) (.slice B n d) n (inC (wTo xs (fun f => homB b f dist && p f) k)) rfl (O2.out.alloc _) _ (some ⟨w2.heap.size, 0, none⟩) 1 1 [.int .i64 k] rfl (new_in1 _ _ _) (by simp [Value.oneCell']) (by simp only [maxLen]; omega) (by omega) (by have := B2.out.size; simp; omega) ?_; intro v4 w4 hown4 hg4 hat4; obtain ⟨B4, d4, rfl, _⟩ := own_shape hown4)
          go_roundw
          case rel => exact ⟨k + 1, n + 1, B4, d4, by omega, by omega, by have := HN.out; rw [HL1.out]; simp [Hid, this], rfl, by rw [HL1.out, inC_snoc]; exact hown4, below_own (B2.out.alloc B2.out.size _) (O2.out.alloc _) hg4 (Nat.le_refl _) (by have := B2.out.size; simp; omega), by go_num⟩
          case measure => simp [intOf]; omega
    · obtain rfl : k = xs.length := by omega
      have HN' := HN.out
      go_wp2_with fail
      go_ret
      exact ⟨_, rfl, by rw [HL.out, HN']; exact own_mono HO.out BW0.out.size, BW0.out.trans (BW.out.mono BW0.out.size)⟩
end Go.Proofs.YtihhpmhigmegjaaGreatDoor
namespace Go.Proofs.YtihhpmhigmegjaaGreatDoor
open Go.ChangeShapes Go.WideShapes Go.ChangeAt Go.RowKit Go.Sort

theorem all1_any (f : Ent) (w : World) : Calls Tryz.prog 75 #[f.val] w fun e w' => e = .returned (.bool true) ∧ Below w.heap.size w w' := by
  unfold Ent.val
  go_enter Tryz.func75, Tryz.ntmps75
  go_wp2_with fail
  go_ret
  exact ⟨rfl, by (repeat (first | exact Below.refl _ _ | assumption | refine Below.drew ?_ | refine below_drewN' ?_ _ | refine Below.alloc ?_ (by (try simp); (try omega)) _ | refine Below.setCell ?_ (by (try simp); (try omega)) _))⟩
theorem bar1_any (f b : Ent) (g : Nat) (w : World) (hb : Blk w g 45 #[.string b.text, .int .i64 b.x, .int .i64 b.y, .int .i64 b.since]) : Calls Tryz.prog 135 #[f.val, .pointer (some ⟨g, 0, none⟩)] w fun e w' => e = .returned (.bool (decide (cmpE f b ≤ 0))) ∧ Below w.heap.size w w' := by
  have HC := Lib.hid (implCmpE_any f b)
  have KN := Lib.hid (blks_one w 45 #[.string f.text, .int .i64 f.x, .int .i64 f.y, .int .i64 f.since])
  have HB := Lib.hid hb; clear hb
  unfold Ent.val at HC ⊢
  generalize cmpE f b = q at *
  go_enter Tryz.func135, Tryz.ntmps135
  go_upto_region 1 with (fail)
  generalize hW : w.alloc (.cells #[.string f.text, .int .i64 f.x, .int .i64 f.y, .int .i64 f.since] 45) = W
  obtain ⟨kf, bw, hsz⟩ := KN.out W hW.symm
  clear hW hsz
  obtain ⟨x0, x1, x2, x3⟩ := cells_4 kf
  obtain ⟨y0, y1, y2, y3⟩ := cells_4 (HB.out.below bw HB.out.lt)
  have BW := Lib.hid bw; clear bw kf
  go_wp2_with fail
  refine (HC.out _).mono ?_; rintro e w1 ⟨rfl, b1⟩
  go_wp2_with fail
  go_ret
  exact ⟨rfl, BW.out.trans (b1.mono BW.out.size)⟩
theorem dis1_any (f b : Ent) (g : Nat) (w : World) (hb : Blk w g 45 #[.string b.text, .int .i64 b.x, .int .i64 b.y, .int .i64 b.since]) : Calls Tryz.prog 80 #[f.val, .pointer (some ⟨g, 0, none⟩)] w fun e w' => e = .returned (.bool (decide (cmpE b f < 0))) ∧ Below w.heap.size w w' := by
  have HC := Lib.hid (implCmpE_any b f)
  have KN := Lib.hid (blks_one w 45 #[.string f.text, .int .i64 f.x, .int .i64 f.y, .int .i64 f.since])
  have HB := Lib.hid hb; clear hb
  unfold Ent.val at HC ⊢
  generalize cmpE b f = q at *
  go_enter Tryz.func80, Tryz.ntmps80
  go_upto_region 1 with (fail)
  generalize hW : w.alloc (.cells #[.string f.text, .int .i64 f.x, .int .i64 f.y, .int .i64 f.since] 45) = W
  obtain ⟨kf, bw, hsz⟩ := KN.out W hW.symm
  clear hW hsz
  obtain ⟨x0, x1, x2, x3⟩ := cells_4 kf
  obtain ⟨y0, y1, y2, y3⟩ := cells_4 (HB.out.below bw HB.out.lt)
  have BW := Lib.hid bw; clear bw kf
  go_wp2_with fail
  refine (HC.out _).mono ?_; rintro e w1 ⟨rfl, b1⟩
  go_wp2_with fail
  go_ret
  exact ⟨rfl, BW.out.trans (b1.mono BW.out.size)⟩
set_option maxRecDepth 100000 in
set_option maxHeartbeats 2000000 in
theorem barring_any (xs : List Ent) (b : Ent) (dist : Int) (hx : ∀ f ∈ xs, entB f = true) (hb : entB b = true) (hd : 0 ≤ dist ∧ dist ≤ 4000) (A : Option Addr) (c : Nat) (w : World) (h : HasEnt w xs A) (hm : xs.length ≤ 12) :
    Calls Tryz.prog 78 #[.slice A xs.length c, b.val, .int .i64 dist] w fun e w' => ∃ v, e = .returned v ∧ w'.ownsRow w.heap.size 2 1 v (whichE xs (pBar b dist)).length (inC (whichE xs (pBar b dist))) ∧ Below w.heap.size w w' := by
  have hmf : ∀ (fn : Fn) (first cap : Array Value) (w : World), (Instr.makeFunc fn first cap).run Tryz.prog w = .ok (.func fn first cap) w := fun _ _ _ _ => rfl
  have HH := Lib.hid (fun (g : Nat) W (hb' : Below w.heap.size w W) (hk : Blk W g 45 #[.string b.text, .int .i64 b.x, .int .i64 b.y, .int .i64 b.since]) => homBar_any (fun f => decide (cmpE f b ≤ 0)) xs b dist hx hb hd g A c W (h.below hb') hm (fun f _ W' hb2 => bar1_any f b g W' (hk.below hb2 hk.lt)))
  have KN := Lib.hid (blks_one w 45 #[.string b.text, .int .i64 b.x, .int .i64 b.y, .int .i64 b.since])
  clear hx hb hd h
  change Hid (∀ (g : Nat) W, Below w.heap.size w W → _ → Calls Tryz.prog _ _ _ _) at HH
  have HE : (fun f => homB b f dist && decide (cmpE f b ≤ 0)) = pBar b dist := rfl
  rw [HE] at HH
  clear HE
  generalize whichE xs (pBar b dist) = LL at *
  unfold Ent.val at HH ⊢
  go_enter Tryz.func78, Tryz.ntmps78
  go_upto_region 1 with (fail)
  generalize hW : w.alloc (.cells #[.string b.text, .int .i64 b.x, .int .i64 b.y, .int .i64 b.since] 45) = W
  obtain ⟨kb, bw, hsz⟩ := KN.out W hW.symm
  clear hW hsz
  obtain ⟨x0, x1, x2, x3⟩ := cells_4 kb
  have KB := Lib.hid kb; have BW := Lib.hid bw; clear kb bw
  go_wp2_with fail
  refine (HH.out _ W BW.out KB.out).mono ?_; rintro e w1 ⟨v, rfl, own1, b1⟩
  have O1 := Lib.hid own1; have B1 := Lib.hid b1; clear own1 b1
  go_wp2_with fail
  go_ret
  exact ⟨_, rfl, own_mono O1.out BW.out.size, BW.out.trans (B1.out.mono BW.out.size)⟩
set_option maxRecDepth 100000 in
set_option maxHeartbeats 2000000 in
theorem implHomL_any (xs : List Ent) (b : Ent) (dist : Int) (hs : ∀ b ∈ xs, b.text.size ≤ 1048576) (hb : b.text.size ≤ 1048576) (A : Option Addr) (c : Nat) (w : World) (h : HasEnt w xs A) :
    Calls Tryz.prog 25 #[.slice A xs.length c, b.val, .int .i64 dist] w fun e w' => ∃ v, e = .returned (.tuple #[v, .int .i64 (codeE xs (entB b) dist)]) ∧ w'.ownsRow w.heap.size 2 1 v (rowE xs b dist (pAll b dist)).length (inC (rowE xs b dist (pAll b dist))) ∧ Below w.heap.size w w' := by
  have hmf : ∀ (fn : Fn) (first cap : Array Value) (w : World), (Instr.makeFunc fn first cap).run Tryz.prog w = .ok (.func fn first cap) w := fun _ _ _ _ => rfl
  have HI := Lib.hid (implEnt_any b hb)
  have HC0 := Lib.hid (fun W (hb' : Below w.heap.size w W) => implCodeE_any xs (entB b) dist A c W (h.below hb') hs)
  have KN := Lib.hid (blks_one w 45 #[.string b.text, .int .i64 b.x, .int .i64 b.y, .int .i64 b.since])
  by_cases hz : codeE xs (entB b) dist = 0
  · obtain ⟨hx, hm, hb1, hd⟩ := codeE_zero hz
    have HH := Lib.hid (fun W (hb' : Below w.heap.size w W) => homAll_any (fun _ => true) xs b dist hx hb1 hd A c W (h.below hb') hm (fun f _ W' _ => all1_any f W'))
    have HE := Lib.hid (show rowE xs b dist (pAll b dist) = whichE xs (fun f => homB b f dist && true) by rw [rowE, if_pos hz]; rfl)
    generalize rowE xs b dist (pAll b dist) = LL at HE ⊢
    have HE2 := HE.out
    rw [← HE2] at HH
    clear HE2
    rw [hz] at HC0 ⊢
    rw [hb1] at HC0 HI
    clear hb1
    clear hz hx hd hs h HE hb
    unfold Ent.val at HH HI ⊢
    go_enter Tryz.func25, Tryz.ntmps25
    go_wp2_with fail
    generalize hW : w.alloc (.cells #[.string b.text, .int .i64 b.x, .int .i64 b.y, .int .i64 b.since] 45) = W
    obtain ⟨kb, bw, hsz⟩ := KN.out W hW.symm
    clear hW hsz
    refine (HI.out W).mono ?_; rintro e w1 ⟨rfl, b1⟩
    have KB := Lib.hid (kb.below b1 kb.lt); have B1 := Lib.hid (bw.trans (b1.mono bw.size)); clear kb bw b1
    go_wp2_with fail
    refine (HC0.out w1 B1.out).mono ?_; rintro e w2 ⟨rfl, b2⟩
    have KB2 := Lib.hid (KB.out.below b2 KB.out.lt); have B2 := Lib.hid (B1.out.trans (b2.mono B1.out.size)); clear b2
    obtain ⟨x0, x1, x2, x3⟩ := cells_4 KB2.out
    go_wp2_with fail
    refine (HH.out w2 B2.out).mono ?_; rintro e w3 ⟨v, rfl, own3, b3⟩
    have O3 := Lib.hid own3; have B3 := Lib.hid b3; clear own3 b3
    go_wp2_with fail
    go_ret2
    exact ⟨_, rfl, own_mono O3.out B2.out.size, B2.out.trans (B3.out.mono B2.out.size)⟩
  · have HE := Lib.hid (show rowE xs b dist (pAll b dist) = [] by rw [rowE, if_neg hz])
    generalize rowE xs b dist (pAll b dist) = LL at HE ⊢
    generalize entB b = ok at *
    generalize codeE xs ok dist = cz at HC0 hz ⊢
    have hne : (cz != 0) = true := by rw [bne_iff_ne]; exact hz
    clear hz hs h hb
    unfold Ent.val at HI ⊢
    go_enter Tryz.func25, Tryz.ntmps25
    go_wp2_with fail
    generalize hW : w.alloc (.cells #[.string b.text, .int .i64 b.x, .int .i64 b.y, .int .i64 b.since] 45) = W
    obtain ⟨kb, bw, hsz⟩ := KN.out W hW.symm
    clear hW hsz
    refine (HI.out W).mono ?_; rintro e w1 ⟨rfl, b1⟩
    have B1 := Lib.hid (bw.trans (b1.mono bw.size)); clear kb bw b1
    go_wp2_with fail
    refine (HC0.out w1 B1.out).mono ?_; rintro e w2 ⟨rfl, b2⟩
    go_wp2_with fail
    go_ret2
    exact ⟨_, rfl, by rw [HE.out]; exact World.ownsRow_nil _ _ _ _, B1.out.trans (b2.mono B1.out.size)⟩
set_option maxRecDepth 100000 in
set_option maxHeartbeats 2000000 in
theorem implDis_any (xs : List Ent) (b : Ent) (dist : Int) (hs : ∀ b ∈ xs, b.text.size ≤ 1048576) (hb : b.text.size ≤ 1048576) (A : Option Addr) (c : Nat) (w : World) (h : HasEnt w xs A) :
    Calls Tryz.prog 29 #[.slice A xs.length c, b.val, .int .i64 dist] w fun e w' => ∃ v, e = .returned (.tuple #[v, .int .i64 (codeE xs (entB b) dist)]) ∧ w'.ownsRow w.heap.size 2 1 v (rowE xs b dist (pDis b dist)).length (inC (rowE xs b dist (pDis b dist))) ∧ Below w.heap.size w w' := by
  have hmf : ∀ (fn : Fn) (first cap : Array Value) (w : World), (Instr.makeFunc fn first cap).run Tryz.prog w = .ok (.func fn first cap) w := fun _ _ _ _ => rfl
  have HI := Lib.hid (implEnt_any b hb)
  have HC0 := Lib.hid (fun W (hb' : Below w.heap.size w W) => implCodeE_any xs (entB b) dist A c W (h.below hb') hs)
  have KN := Lib.hid (blks_one w 45 #[.string b.text, .int .i64 b.x, .int .i64 b.y, .int .i64 b.since])
  by_cases hz : codeE xs (entB b) dist = 0
  · obtain ⟨hx, hm, hb1, hd⟩ := codeE_zero hz
    have HH := Lib.hid (fun (g : Nat) W (hb' : Below w.heap.size w W) (hk : Blk W g 45 #[.string b.text, .int .i64 b.x, .int .i64 b.y, .int .i64 b.since]) => homDis_any (fun f => decide (cmpE b f < 0)) xs b dist hx hb1 hd g A c W (h.below hb') hm (fun f _ W' hb2 => dis1_any f b g W' (hk.below hb2 hk.lt)))
    have HE := Lib.hid (show rowE xs b dist (pDis b dist) = whichE xs (fun f => homB b f dist && decide (cmpE b f < 0)) by rw [rowE, if_pos hz]; rfl)
    generalize rowE xs b dist (pDis b dist) = LL at HE ⊢
    have HE2 := HE.out
    rw [← HE2] at HH
    clear HE2
    rw [hz] at HC0 ⊢
    rw [hb1] at HC0 HI
    clear hb1
    clear hz hx hd hs h HE hb
    unfold Ent.val at HH HI ⊢
    go_enter Tryz.func29, Tryz.ntmps29
    go_wp2_with fail
    generalize hW : w.alloc (.cells #[.string b.text, .int .i64 b.x, .int .i64 b.y, .int .i64 b.since] 45) = W
    obtain ⟨kb, bw, hsz⟩ := KN.out W hW.symm
    clear hW hsz
    refine (HI.out W).mono ?_; rintro e w1 ⟨rfl, b1⟩
    have KB := Lib.hid (kb.below b1 kb.lt); have B1 := Lib.hid (bw.trans (b1.mono bw.size)); clear kb bw b1
    go_wp2_with fail
    refine (HC0.out w1 B1.out).mono ?_; rintro e w2 ⟨rfl, b2⟩
    have KB2 := Lib.hid (KB.out.below b2 KB.out.lt); have B2 := Lib.hid (B1.out.trans (b2.mono B1.out.size)); clear b2
    obtain ⟨x0, x1, x2, x3⟩ := cells_4 KB2.out
    go_wp2_with fail
    refine (HH.out _ w2 B2.out KB2.out).mono ?_; rintro e w3 ⟨v, rfl, own3, b3⟩
    have O3 := Lib.hid own3; have B3 := Lib.hid b3; clear own3 b3
    go_wp2_with fail
    go_ret2
    exact ⟨_, rfl, own_mono O3.out B2.out.size, B2.out.trans (B3.out.mono B2.out.size)⟩
  · have HE := Lib.hid (show rowE xs b dist (pDis b dist) = [] by rw [rowE, if_neg hz])
    generalize rowE xs b dist (pDis b dist) = LL at HE ⊢
    generalize entB b = ok at *
    generalize codeE xs ok dist = cz at HC0 hz ⊢
    have hne : (cz != 0) = true := by rw [bne_iff_ne]; exact hz
    clear hz hs h hb
    unfold Ent.val at HI ⊢
    go_enter Tryz.func29, Tryz.ntmps29
    go_wp2_with fail
    generalize hW : w.alloc (.cells #[.string b.text, .int .i64 b.x, .int .i64 b.y, .int .i64 b.since] 45) = W
    obtain ⟨kb, bw, hsz⟩ := KN.out W hW.symm
    clear hW hsz
    refine (HI.out W).mono ?_; rintro e w1 ⟨rfl, b1⟩
    have B1 := Lib.hid (bw.trans (b1.mono bw.size)); clear kb bw b1
    go_wp2_with fail
    refine (HC0.out w1 B1.out).mono ?_; rintro e w2 ⟨rfl, b2⟩
    go_wp2_with fail
    go_ret2
    exact ⟨_, rfl, by rw [HE.out]; exact World.ownsRow_nil _ _ _ _, B1.out.trans (b2.mono B1.out.size)⟩
set_option maxRecDepth 100000 in
set_option maxHeartbeats 2000000 in
theorem implAdm_any (xs : List Ent) (b : Ent) (dist : Int) (hs : ∀ b ∈ xs, b.text.size ≤ 1048576) (hb : b.text.size ≤ 1048576) (A : Option Addr) (c : Nat) (w : World) (h : HasEnt w xs A) :
    Calls Tryz.prog 27 #[.slice A xs.length c, b.val, .int .i64 dist] w fun e w' => e = .returned (.tuple #[.bool (admB xs b dist), .int .i64 (codeE xs (entB b) dist)]) ∧ Below w.heap.size w w' := by
  have hmf : ∀ (fn : Fn) (first cap : Array Value) (w : World), (Instr.makeFunc fn first cap).run Tryz.prog w = .ok (.func fn first cap) w := fun _ _ _ _ => rfl
  have HI := Lib.hid (implEnt_any b hb)
  have HC0 := Lib.hid (fun W (hb' : Below w.heap.size w W) => implCodeE_any xs (entB b) dist A c W (h.below hb') hs)
  have KN := Lib.hid (blks_one w 45 #[.string b.text, .int .i64 b.x, .int .i64 b.y, .int .i64 b.since])
  by_cases hz : codeE xs (entB b) dist = 0
  · obtain ⟨hx, hm, hb1, hd⟩ := codeE_zero hz
    have HH := Lib.hid (fun W (hb' : Below w.heap.size w W) => barring_any xs b dist hx hb1 hd A c W (h.below hb') hm)
    have HE := Lib.hid (show admB xs b dist = decide ((whichE xs (pBar b dist)).length = 0) by rw [admB, hz, rowE, if_pos hz]; rfl)
    generalize admB xs b dist = r at HE ⊢
    have HR := HE
    generalize whichE xs (pBar b dist) = LL at HH HR HE
    rw [hz] at HC0 ⊢
    rw [hb1] at HC0 HI
    clear hb1
    clear hz hx hd hs h HE hb
    unfold Ent.val at HH HI ⊢
    go_enter Tryz.func27, Tryz.ntmps27
    go_wp2_with fail
    generalize hW : w.alloc (.cells #[.string b.text, .int .i64 b.x, .int .i64 b.y, .int .i64 b.since] 45) = W
    obtain ⟨kb, bw, hsz⟩ := KN.out W hW.symm
    clear hW hsz
    refine (HI.out W).mono ?_; rintro e w1 ⟨rfl, b1⟩
    have KB := Lib.hid (kb.below b1 kb.lt); have B1 := Lib.hid (bw.trans (b1.mono bw.size)); clear kb bw b1
    go_wp2_with fail
    refine (HC0.out w1 B1.out).mono ?_; rintro e w2 ⟨rfl, b2⟩
    have KB2 := Lib.hid (KB.out.below b2 KB.out.lt); have B2 := Lib.hid (B1.out.trans (b2.mono B1.out.size)); clear b2
    obtain ⟨x0, x1, x2, x3⟩ := cells_4 KB2.out
    go_wp2_with fail
    refine (HH.out w2 B2.out).mono ?_; rintro e w3 ⟨v, rfl, own3, b3⟩
    obtain ⟨A2, c2, rfl, _⟩ := own_shape own3
    have B3 := Lib.hid b3; clear own3 b3
    go_wp2_with fail
    go_ret2
    exact ⟨by rw [HR.out]; (first | done | rfl | (by_cases h0 : LL.length = 0 <;> simp [h0]) | (simp; omega)), B2.out.trans (B3.out.mono B2.out.size)⟩
  · have HE := Lib.hid (show admB xs b dist = false by
      have : (codeE xs (entB b) dist == 0) = false := by simpa using hz
      rw [admB, this, Bool.false_and])
    generalize admB xs b dist = r at HE ⊢
    generalize entB b = ok at *
    generalize codeE xs ok dist = cz at HC0 hz ⊢
    have hne : (cz != 0) = true := by rw [bne_iff_ne]; exact hz
    clear hz hs h hb
    unfold Ent.val at HI ⊢
    go_enter Tryz.func27, Tryz.ntmps27
    go_wp2_with fail
    generalize hW : w.alloc (.cells #[.string b.text, .int .i64 b.x, .int .i64 b.y, .int .i64 b.since] 45) = W
    obtain ⟨kb, bw, hsz⟩ := KN.out W hW.symm
    clear hW hsz
    refine (HI.out W).mono ?_; rintro e w1 ⟨rfl, b1⟩
    have B1 := Lib.hid (bw.trans (b1.mono bw.size)); clear kb bw b1
    go_wp2_with fail
    refine (HC0.out w1 B1.out).mono ?_; rintro e w2 ⟨rfl, b2⟩
    go_wp2_with fail
    go_ret2
    exact ⟨by rw [HE.out]; first | done | rfl, B1.out.trans (b2.mono B1.out.size)⟩
end Go.Proofs.YtihhpmhigmegjaaGreatDoor
namespace Go.Proofs.YtihhpmhigmegjaaGreatDoor
open Go.ChangeShapes Go.WideShapes Go.ChangeAt Go.RowKit Go.Sort

def absI (x : Int) : Int := if x < 0 then -x else x
theorem specAbs_any (x : Int) (h1 : -9223372036854775807 ≤ x) (h2 : x ≤ 9223372036854775807) (w : World) :
    Calls Tryz.prog 142 #[.int .i64 x] w fun e w' => e = .returned (.int .i64 (absI x)) ∧ w = w' := by
  go_enter Tryz.func142, Tryz.ntmps142
  go_wp2
  all_goals
    go_ret
    exact ⟨ret_int (by unfold absI; (repeat' split) <;> omega), rfl⟩
theorem implAbs_any (x : Int) (h1 : -9223372036854775807 ≤ x) (h2 : x ≤ 9223372036854775807) (w : World) :
    Calls Tryz.prog 139 #[.int .i64 x] w fun e w' => e = .returned (.int .i64 (absI x)) ∧ w = w' := by
  go_enter Tryz.func139, Tryz.ntmps139
  go_wp2
  all_goals
    go_ret
    exact ⟨ret_int (by unfold absI; (repeat' split) <;> omega), rfl⟩
theorem implSign_any (x : Int) (w : World) :
    Calls Tryz.prog 140 #[.int .i64 x] w fun e w' => e = .returned (.int .i64 (if x < 0 then -1 else if 0 < x then 1 else 0)) ∧ w = w' := by
  go_enter Tryz.func140, Tryz.ntmps140
  go_wp2
  all_goals
    go_ret
    exact ⟨ret_int (by (repeat' split) <;> omega), rfl⟩
end Go.Proofs.YtihhpmhigmegjaaGreatDoor
namespace Go.Proofs.YtihhpmhigmegjaaGreatDoor
open Go.ChangeShapes Go.WideShapes Go.ChangeAt Go.RowKit Go.Sort

def dirV (x y : Int) : Int := if 2 * absI x < absI y then (if 0 < y then 0 else 4) else if 2 * absI y < absI x then (if 0 < x then 2 else 6) else if 0 < x then (if 0 < y then 1 else 3) else if y < 0 then 5 else 7
theorem absI_bd {x : Int} (h1 : -6000 ≤ x) (h2 : x ≤ 6000) : 0 ≤ absI x ∧ absI x ≤ 6000 := by unfold absI; split <;> omega
theorem dirV_bd (x y : Int) : 0 ≤ dirV x y ∧ dirV x y ≤ 7 := by unfold dirV; (repeat' split) <;> omega
theorem two_regrown {W0 : World} {g : Nat} {t : TypeId} {a b : Value} (h : Blk W0 g t #[a, b]) :
    (∀ x os, (grow (redrawn W0 x) os).cell? ⟨g, 0, none⟩ = some a) ∧ (∀ x os, (grow (redrawn W0 x) os).cell? ⟨g, 1, none⟩ = some b) := by
  obtain ⟨h0, h1⟩ := cells_2 h
  exact ⟨cell_regrown h0, cell_regrown h1⟩
set_option maxRecDepth 100000 in
set_option maxHeartbeats 2000000 in
theorem specDir_any (a b c d : Int) (ha : Co a) (hb : Co b) (hc : Co c) (hd : Co d) (w : World) :
    Calls Tryz.prog 85 #[.agg #[.int .i64 a, .int .i64 b], .agg #[.int .i64 c, .int .i64 d]] w fun e w' => e = .returned (.int .i64 (dirV (c - a) (d - b))) ∧ Below w.heap.size w w' := by
  obtain ⟨a1, a2⟩ := ha; obtain ⟨b1, b2⟩ := hb; obtain ⟨c1, c2⟩ := hc; obtain ⟨d1, d2⟩ := hd
  have e1 : IntKind.i64.wrap (c - a) = c - a := IntWalk.i64_in _ (by omega)
  have e2 : IntKind.i64.wrap (d - b) = d - b := IntWalk.i64_in _ (by omega)
  have A1 := Lib.hid (specAbs_any (c - a) (by omega) (by omega))
  have A2 := Lib.hid (specAbs_any (d - b) (by omega) (by omega))
  obtain ⟨p1, p2⟩ := absI_bd (x := c - a) (by omega) (by omega)
  obtain ⟨q1, q2⟩ := absI_bd (x := d - b) (by omega) (by omega)
  have KN := Lib.hid (blks_two w 43 43 #[.int .i64 a, .int .i64 b] #[.int .i64 c, .int .i64 d])
  have HX := Lib.hid (show dirV (c - a) (d - b) = if 2 * absI (c - a) < absI (d - b) then (if 0 < d - b then 0 else 4) else if 2 * absI (d - b) < absI (c - a) then (if 0 < c - a then 2 else 6) else if 0 < c - a then (if 0 < d - b then 1 else 3) else if d - b < 0 then 5 else 7 from rfl)
  generalize dirV (c - a) (d - b) = r at HX ⊢
  generalize absI (c - a) = p at *
  generalize absI (d - b) = q at *
  go_enter Tryz.func85, Tryz.ntmps85
  go_upto_region 1 with (fail)
  generalize hW : (w.alloc (.cells #[.int .i64 a, .int .i64 b] 43)).alloc (.cells #[.int .i64 c, .int .i64 d] 43) = W
  obtain ⟨ka, kb, bw, hsz⟩ := KN.out W hW.symm
  clear hW hsz
  obtain ⟨x0, x1⟩ := two_regrown ka
  obtain ⟨y0, y1⟩ := two_regrown kb
  refine wp_region_quiet_below (by kernel_rfl) (by kernel_rfl) ?_; (repeat (first | go_big_quiet_step (fail))); refine wpQuiet_nil ?_; intro _ hw'; obtain ⟨⟨dq, osq⟩, rfl⟩ := hw'
  have B2 := Lib.hid (bw.trans ((below_regrown W dq osq).mono bw.size))
  generalize grow (redrawn W dq) osq = w2 at B2 ⊢
  clear x0 x1 y0 y1 ka kb bw e1 e2
  obtain ⟨x, hx⟩ : ∃ x, c - a = x := ⟨_, rfl⟩
  obtain ⟨y, hy⟩ : ∃ y, d - b = y := ⟨_, rfl⟩
  rw [hx] at A1 HX ⊢
  rw [hy] at A2 HX ⊢
  clear hx hy
  by_cases k1 : 2 * p < q
  · rw [if_pos k1] at HX
    by_cases k2 : 0 < y
    · rw [if_pos k2] at HX
      go_wp2_with (first | (with_reducible refine (A1.out _).mono ?_; rintro e w' ⟨rfl, rfl⟩) | (with_reducible refine (A2.out _).mono ?_; rintro e w' ⟨rfl, rfl⟩) | fail)
      go_ret
      exact ⟨ret_int HX.out.symm, B2.out⟩
    · rw [if_neg k2] at HX
      go_wp2_with (first | (with_reducible refine (A1.out _).mono ?_; rintro e w' ⟨rfl, rfl⟩) | (with_reducible refine (A2.out _).mono ?_; rintro e w' ⟨rfl, rfl⟩) | fail)
      go_ret
      exact ⟨ret_int HX.out.symm, B2.out⟩
  · rw [if_neg k1] at HX
    by_cases k3 : 2 * q < p
    · rw [if_pos k3] at HX
      by_cases k4 : 0 < x
      · rw [if_pos k4] at HX
        go_wp2_with (first | (with_reducible refine (A1.out _).mono ?_; rintro e w' ⟨rfl, rfl⟩) | (with_reducible refine (A2.out _).mono ?_; rintro e w' ⟨rfl, rfl⟩) | fail)
        go_ret
        exact ⟨ret_int HX.out.symm, B2.out⟩
      · rw [if_neg k4] at HX
        go_wp2_with (first | (with_reducible refine (A1.out _).mono ?_; rintro e w' ⟨rfl, rfl⟩) | (with_reducible refine (A2.out _).mono ?_; rintro e w' ⟨rfl, rfl⟩) | fail)
        go_ret
        exact ⟨ret_int HX.out.symm, B2.out⟩
    · rw [if_neg k3] at HX
      by_cases k4 : 0 < x
      · rw [if_pos k4] at HX
        by_cases k2 : 0 < y
        · rw [if_pos k2] at HX
          go_wp2_with (first | (with_reducible refine (A1.out _).mono ?_; rintro e w' ⟨rfl, rfl⟩) | (with_reducible refine (A2.out _).mono ?_; rintro e w' ⟨rfl, rfl⟩) | fail)
          go_ret
          exact ⟨ret_int HX.out.symm, B2.out⟩
        · rw [if_neg k2] at HX
          go_wp2_with (first | (with_reducible refine (A1.out _).mono ?_; rintro e w' ⟨rfl, rfl⟩) | (with_reducible refine (A2.out _).mono ?_; rintro e w' ⟨rfl, rfl⟩) | fail)
          go_ret
          exact ⟨ret_int HX.out.symm, B2.out⟩
      · rw [if_neg k4] at HX
        by_cases k5 : y < 0
        · rw [if_pos k5] at HX
          go_wp2_with (first | (with_reducible refine (A1.out _).mono ?_; rintro e w' ⟨rfl, rfl⟩) | (with_reducible refine (A2.out _).mono ?_; rintro e w' ⟨rfl, rfl⟩) | fail)
          go_ret
          exact ⟨ret_int HX.out.symm, B2.out⟩
        · rw [if_neg k5] at HX
          go_wp2_with (first | (with_reducible refine (A1.out _).mono ?_; rintro e w' ⟨rfl, rfl⟩) | (with_reducible refine (A2.out _).mono ?_; rintro e w' ⟨rfl, rfl⟩) | fail)
          go_ret
          exact ⟨ret_int HX.out.symm, B2.out⟩
end Go.Proofs.YtihhpmhigmegjaaGreatDoor
namespace Go.Proofs.YtihhpmhigmegjaaGreatDoor
open Go.ChangeShapes Go.WideShapes Go.ChangeAt Go.RowKit Go.Sort

theorem sign_pos (x : Int) (h : 0 < x) (w : World) : Calls Tryz.prog 140 #[.int .i64 x] w fun e w' => e = .returned (.int .i64 1) ∧ Below w.heap.size w w' :=
  (implSign_any x w).mono fun _ _ ⟨h1, h2⟩ => ⟨by rw [h1, if_neg (by omega), if_pos h], h2 ▸ Below.refl _ _⟩
theorem sign_neg (x : Int) (h : x < 0) (w : World) : Calls Tryz.prog 140 #[.int .i64 x] w fun e w' => e = .returned (.int .i64 (-1)) ∧ Below w.heap.size w w' :=
  (implSign_any x w).mono fun _ _ ⟨h1, h2⟩ => ⟨by rw [h1, if_pos h], h2 ▸ Below.refl _ _⟩
theorem sign_zero (w : World) : Calls Tryz.prog 140 #[.int .i64 0] w fun e w' => e = .returned (.int .i64 0) ∧ Below w.heap.size w w' :=
  (implSign_any 0 w).mono fun _ _ ⟨h1, h2⟩ => ⟨by rw [h1]; rfl, h2 ▸ Below.refl _ _⟩
theorem tab_regrown {W0 : World} {g : Nat} {t : TypeId} {cs : Array Value} (h : Blk W0 g t cs) (j : Nat) (v : Value) (hj : cs[j]? = some v) : ∀ x os, (grow (redrawn W0 x) os).cell? ⟨g, j, none⟩ = some v := cell_regrown (by rw [h.cell]; exact hj)
set_option maxRecDepth 100000 in
set_option maxHeartbeats 4000000 in
theorem implDir_any (a b c d : Int) (ha : Co a) (hb : Co b) (hc : Co c) (hd : Co d) (hne : ¬ (a = c ∧ b = d)) (w : World) :
    Calls Tryz.prog 82 #[.agg #[.int .i64 a, .int .i64 b], .agg #[.int .i64 c, .int .i64 d]] w fun e w' => e = .returned (.int .i64 (dirV (c - a) (d - b))) ∧ Below w.heap.size w w' := by
  obtain ⟨a1, a2⟩ := ha; obtain ⟨b1, b2⟩ := hb; obtain ⟨c1, c2⟩ := hc; obtain ⟨d1, d2⟩ := hd
  have e1 : IntKind.i64.wrap (c - a) = c - a := IntWalk.i64_in _ (by omega)
  have e2 : IntKind.i64.wrap (d - b) = d - b := IntWalk.i64_in _ (by omega)
  have A1 := Lib.hid (implAbs_any (c - a) (by omega) (by omega))
  have A2 := Lib.hid (implAbs_any (d - b) (by omega) (by omega))
  obtain ⟨p1, p2⟩ := absI_bd (x := c - a) (by omega) (by omega)
  obtain ⟨q1, q2⟩ := absI_bd (x := d - b) (by omega) (by omega)
  have P1 := Lib.hid (show absI (c - a) = if c - a < 0 then -(c - a) else c - a from rfl)
  have P2 := Lib.hid (show absI (d - b) = if d - b < 0 then -(d - b) else d - b from rfl)
  have KN := Lib.hid (blks_two w 43 43 #[.int .i64 a, .int .i64 b] #[.int .i64 c, .int .i64 d])
  have HX := Lib.hid (show dirV (c - a) (d - b) = if 2 * absI (c - a) < absI (d - b) then (if 0 < d - b then 0 else 4) else if 2 * absI (d - b) < absI (c - a) then (if 0 < c - a then 2 else 6) else if 0 < c - a then (if 0 < d - b then 1 else 3) else if d - b < 0 then 5 else 7 from rfl)
  have hne2 : ¬ (c - a = 0 ∧ d - b = 0) := by omega
  generalize dirV (c - a) (d - b) = r at HX ⊢
  generalize absI (c - a) = p at *
  generalize absI (d - b) = q at *
  go_enter Tryz.func82, Tryz.ntmps82
  go_upto_region 1 with (fail)
  generalize hW : (w.alloc (.cells #[.int .i64 a, .int .i64 b] 43)).alloc (.cells #[.int .i64 c, .int .i64 d] 43) = W
  obtain ⟨ka, kb, bw, hsz⟩ := KN.out W hW.symm
  clear hW hsz
  obtain ⟨x0, x1⟩ := two_regrown ka
  obtain ⟨y0, y1⟩ := two_regrown kb
  refine wp_region_quiet_below (by kernel_rfl) (by kernel_rfl) ?_; (repeat (first | go_big_quiet_step (fail))); refine wpQuiet_nil ?_; intro _ hw'; obtain ⟨⟨dq, osq⟩, rfl⟩ := hw'
  have B2 := Lib.hid (bw.trans ((below_regrown W dq osq).mono bw.size))
  generalize grow (redrawn W dq) osq = w2 at B2 ⊢
  clear x0 x1 y0 y1 ka kb bw e1 e2 hne
  have TN := Lib.hid (blks_one w2 133 #[.int .i64 5, .int .i64 4, .int .i64 3, .int .i64 6, .int .i64 0, .int .i64 2, .int .i64 7, .int .i64 0, .int .i64 1])
  obtain ⟨x, hx⟩ : ∃ x, c - a = x := ⟨_, rfl⟩
  obtain ⟨y, hy⟩ : ∃ y, d - b = y := ⟨_, rfl⟩
  rw [hx] at A1 HX P1 hne2 ⊢
  rw [hy] at A2 HX P2 hne2 ⊢
  clear hx hy
  have z0 : IntKind.i64.wrap (0 + 1) = 1 := by decide
  have z1 : IntKind.i64.wrap (1 + 1) = 2 := by decide
  have z2 : IntKind.i64.wrap (-1 + 1) = 0 := by decide
  by_cases k1 : 2 * p < q
  · rw [if_pos k1] at HX
    have hy : y < 0 ∨ 0 < y := by have := P2.out; split at this <;> omega
    by_cases k2 : 0 < y
    · rw [if_pos k2] at HX
      go_upto_region 7 with (first | (with_reducible refine (A1.out _).mono ?_; rintro e w' ⟨rfl, rfl⟩) | (with_reducible refine (A2.out _).mono ?_; rintro e w' ⟨rfl, rfl⟩) | fail)
      generalize hW : w2.alloc (.cells #[.int .i64 5, .int .i64 4, .int .i64 3, .int .i64 6, .int .i64 0, .int .i64 2, .int .i64 7, .int .i64 0, .int .i64 1] 133) = W3
      obtain ⟨kt, bt, hsz⟩ := TN.out W3 hW.symm
      clear hW hsz
      have t0 := tab_regrown kt 7 (.int .i64 0) rfl
      have r1 : ∀ e os, Calls Tryz.prog 140 #[.int .i64 y] (grow (redrawn W3 e) os) (fun e w'' => e = .returned (.int .i64 1) ∧ ∃ p : Regrown, w'' = grow (redrawn W3 p.d) p.os) := fun e os => Calls.regrown_of (sign_pos y (by omega) _)
      have r2 : ∀ e os, Calls Tryz.prog 140 #[.int .i64 0] (grow (redrawn W3 e) os) (fun e w'' => e = .returned (.int .i64 0) ∧ ∃ p : Regrown, w'' = grow (redrawn W3 p.d) p.os) := fun e os => Calls.regrown_of (sign_zero _)
      refine wp_region_quiet_below (by kernel_rfl) (by kernel_rfl) ?_; (repeat (first | go_big_quiet_step ((first | with_reducible exact r1 _ _ | with_reducible exact r2 _ _)))); refine wpQuiet_nil ?_; intro _ hw'; obtain ⟨⟨dq, osq⟩, rfl⟩ := hw'
      go_wp2_with fail
      go_ret
      exact ⟨ret_int HX.out.symm, B2.out.trans ((bt.trans ((below_regrown W3 dq osq).mono bt.size)).mono B2.out.size)⟩
    · rw [if_neg k2] at HX
      go_upto_region 7 with (first | (with_reducible refine (A1.out _).mono ?_; rintro e w' ⟨rfl, rfl⟩) | (with_reducible refine (A2.out _).mono ?_; rintro e w' ⟨rfl, rfl⟩) | fail)
      generalize hW : w2.alloc (.cells #[.int .i64 5, .int .i64 4, .int .i64 3, .int .i64 6, .int .i64 0, .int .i64 2, .int .i64 7, .int .i64 0, .int .i64 1] 133) = W3
      obtain ⟨kt, bt, hsz⟩ := TN.out W3 hW.symm
      clear hW hsz
      have t0 := tab_regrown kt 1 (.int .i64 4) rfl
      have r1 : ∀ e os, Calls Tryz.prog 140 #[.int .i64 y] (grow (redrawn W3 e) os) (fun e w'' => e = .returned (.int .i64 (-1)) ∧ ∃ p : Regrown, w'' = grow (redrawn W3 p.d) p.os) := fun e os => Calls.regrown_of (sign_neg y (by omega) _)
      have r2 : ∀ e os, Calls Tryz.prog 140 #[.int .i64 0] (grow (redrawn W3 e) os) (fun e w'' => e = .returned (.int .i64 0) ∧ ∃ p : Regrown, w'' = grow (redrawn W3 p.d) p.os) := fun e os => Calls.regrown_of (sign_zero _)
      refine wp_region_quiet_below (by kernel_rfl) (by kernel_rfl) ?_; (repeat (first | go_big_quiet_step ((first | with_reducible exact r1 _ _ | with_reducible exact r2 _ _)))); refine wpQuiet_nil ?_; intro _ hw'; obtain ⟨⟨dq, osq⟩, rfl⟩ := hw'
      go_wp2_with fail
      go_ret
      exact ⟨ret_int HX.out.symm, B2.out.trans ((bt.trans ((below_regrown W3 dq osq).mono bt.size)).mono B2.out.size)⟩
  · rw [if_neg k1] at HX
    by_cases k3 : 2 * q < p
    · rw [if_pos k3] at HX
      have hx : x < 0 ∨ 0 < x := by have := P1.out; split at this <;> omega
      by_cases k4 : 0 < x
      · rw [if_pos k4] at HX
        go_upto_region 7 with (first | (with_reducible refine (A1.out _).mono ?_; rintro e w' ⟨rfl, rfl⟩) | (with_reducible refine (A2.out _).mono ?_; rintro e w' ⟨rfl, rfl⟩) | fail)
        generalize hW : w2.alloc (.cells #[.int .i64 5, .int .i64 4, .int .i64 3, .int .i64 6, .int .i64 0, .int .i64 2, .int .i64 7, .int .i64 0, .int .i64 1] 133) = W3
        obtain ⟨kt, bt, hsz⟩ := TN.out W3 hW.symm
        clear hW hsz
        have t0 := tab_regrown kt 5 (.int .i64 2) rfl
        have r1 : ∀ e os, Calls Tryz.prog 140 #[.int .i64 0] (grow (redrawn W3 e) os) (fun e w'' => e = .returned (.int .i64 0) ∧ ∃ p : Regrown, w'' = grow (redrawn W3 p.d) p.os) := fun e os => Calls.regrown_of (sign_zero _)
        have r2 : ∀ e os, Calls Tryz.prog 140 #[.int .i64 x] (grow (redrawn W3 e) os) (fun e w'' => e = .returned (.int .i64 1) ∧ ∃ p : Regrown, w'' = grow (redrawn W3 p.d) p.os) := fun e os => Calls.regrown_of (sign_pos x (by omega) _)
        refine wp_region_quiet_below (by kernel_rfl) (by kernel_rfl) ?_; (repeat (first | go_big_quiet_step ((first | with_reducible exact r1 _ _ | with_reducible exact r2 _ _)))); refine wpQuiet_nil ?_; intro _ hw'; obtain ⟨⟨dq, osq⟩, rfl⟩ := hw'
        go_wp2_with fail
        go_ret
        exact ⟨ret_int HX.out.symm, B2.out.trans ((bt.trans ((below_regrown W3 dq osq).mono bt.size)).mono B2.out.size)⟩
      · rw [if_neg k4] at HX
        go_upto_region 7 with (first | (with_reducible refine (A1.out _).mono ?_; rintro e w' ⟨rfl, rfl⟩) | (with_reducible refine (A2.out _).mono ?_; rintro e w' ⟨rfl, rfl⟩) | fail)
        generalize hW : w2.alloc (.cells #[.int .i64 5, .int .i64 4, .int .i64 3, .int .i64 6, .int .i64 0, .int .i64 2, .int .i64 7, .int .i64 0, .int .i64 1] 133) = W3
        obtain ⟨kt, bt, hsz⟩ := TN.out W3 hW.symm
        clear hW hsz
        have t0 := tab_regrown kt 3 (.int .i64 6) rfl
        have r1 : ∀ e os, Calls Tryz.prog 140 #[.int .i64 0] (grow (redrawn W3 e) os) (fun e w'' => e = .returned (.int .i64 0) ∧ ∃ p : Regrown, w'' = grow (redrawn W3 p.d) p.os) := fun e os => Calls.regrown_of (sign_zero _)
        have r2 : ∀ e os, Calls Tryz.prog 140 #[.int .i64 x] (grow (redrawn W3 e) os) (fun e w'' => e = .returned (.int .i64 (-1)) ∧ ∃ p : Regrown, w'' = grow (redrawn W3 p.d) p.os) := fun e os => Calls.regrown_of (sign_neg x (by omega) _)
        refine wp_region_quiet_below (by kernel_rfl) (by kernel_rfl) ?_; (repeat (first | go_big_quiet_step ((first | with_reducible exact r1 _ _ | with_reducible exact r2 _ _)))); refine wpQuiet_nil ?_; intro _ hw'; obtain ⟨⟨dq, osq⟩, rfl⟩ := hw'
        go_wp2_with fail
        go_ret
        exact ⟨ret_int HX.out.symm, B2.out.trans ((bt.trans ((below_regrown W3 dq osq).mono bt.size)).mono B2.out.size)⟩
    · rw [if_neg k3] at HX
      have hxy : (x < 0 ∨ 0 < x) ∧ (y < 0 ∨ 0 < y) := by
        have h1 := P1.out
        have h2 := P2.out
        split at h1 <;> split at h2 <;> omega
      by_cases k4 : 0 < x
      · rw [if_pos k4] at HX
        by_cases k2 : 0 < y
        · rw [if_pos k2] at HX
          go_upto_region 7 with (first | (with_reducible refine (A1.out _).mono ?_; rintro e w' ⟨rfl, rfl⟩) | (with_reducible refine (A2.out _).mono ?_; rintro e w' ⟨rfl, rfl⟩) | fail)
          generalize hW : w2.alloc (.cells #[.int .i64 5, .int .i64 4, .int .i64 3, .int .i64 6, .int .i64 0, .int .i64 2, .int .i64 7, .int .i64 0, .int .i64 1] 133) = W3
          obtain ⟨kt, bt, hsz⟩ := TN.out W3 hW.symm
          clear hW hsz
          have t0 := tab_regrown kt 8 (.int .i64 1) rfl
          have r1 : ∀ e os, Calls Tryz.prog 140 #[.int .i64 y] (grow (redrawn W3 e) os) (fun e w'' => e = .returned (.int .i64 1) ∧ ∃ p : Regrown, w'' = grow (redrawn W3 p.d) p.os) := fun e os => Calls.regrown_of (sign_pos y (by omega) _)
          have r2 : ∀ e os, Calls Tryz.prog 140 #[.int .i64 x] (grow (redrawn W3 e) os) (fun e w'' => e = .returned (.int .i64 1) ∧ ∃ p : Regrown, w'' = grow (redrawn W3 p.d) p.os) := fun e os => Calls.regrown_of (sign_pos x (by omega) _)
          refine wp_region_quiet_below (by kernel_rfl) (by kernel_rfl) ?_; (repeat (first | go_big_quiet_step ((first | with_reducible exact r1 _ _ | with_reducible exact r2 _ _)))); refine wpQuiet_nil ?_; intro _ hw'; obtain ⟨⟨dq, osq⟩, rfl⟩ := hw'
          go_wp2_with fail
          go_ret
          exact ⟨ret_int HX.out.symm, B2.out.trans ((bt.trans ((below_regrown W3 dq osq).mono bt.size)).mono B2.out.size)⟩
        · rw [if_neg k2] at HX
          go_upto_region 7 with (first | (with_reducible refine (A1.out _).mono ?_; rintro e w' ⟨rfl, rfl⟩) | (with_reducible refine (A2.out _).mono ?_; rintro e w' ⟨rfl, rfl⟩) | fail)
          generalize hW : w2.alloc (.cells #[.int .i64 5, .int .i64 4, .int .i64 3, .int .i64 6, .int .i64 0, .int .i64 2, .int .i64 7, .int .i64 0, .int .i64 1] 133) = W3
          obtain ⟨kt, bt, hsz⟩ := TN.out W3 hW.symm
          clear hW hsz
          have t0 := tab_regrown kt 2 (.int .i64 3) rfl
          have r1 : ∀ e os, Calls Tryz.prog 140 #[.int .i64 y] (grow (redrawn W3 e) os) (fun e w'' => e = .returned (.int .i64 (-1)) ∧ ∃ p : Regrown, w'' = grow (redrawn W3 p.d) p.os) := fun e os => Calls.regrown_of (sign_neg y (by omega) _)
          have r2 : ∀ e os, Calls Tryz.prog 140 #[.int .i64 x] (grow (redrawn W3 e) os) (fun e w'' => e = .returned (.int .i64 1) ∧ ∃ p : Regrown, w'' = grow (redrawn W3 p.d) p.os) := fun e os => Calls.regrown_of (sign_pos x (by omega) _)
          refine wp_region_quiet_below (by kernel_rfl) (by kernel_rfl) ?_; (repeat (first | go_big_quiet_step ((first | with_reducible exact r1 _ _ | with_reducible exact r2 _ _)))); refine wpQuiet_nil ?_; intro _ hw'; obtain ⟨⟨dq, osq⟩, rfl⟩ := hw'
          go_wp2_with fail
          go_ret
          exact ⟨ret_int HX.out.symm, B2.out.trans ((bt.trans ((below_regrown W3 dq osq).mono bt.size)).mono B2.out.size)⟩
      · rw [if_neg k4] at HX
        by_cases k5 : y < 0
        · rw [if_pos k5] at HX
          go_upto_region 7 with (first | (with_reducible refine (A1.out _).mono ?_; rintro e w' ⟨rfl, rfl⟩) | (with_reducible refine (A2.out _).mono ?_; rintro e w' ⟨rfl, rfl⟩) | fail)
          generalize hW : w2.alloc (.cells #[.int .i64 5, .int .i64 4, .int .i64 3, .int .i64 6, .int .i64 0, .int .i64 2, .int .i64 7, .int .i64 0, .int .i64 1] 133) = W3
          obtain ⟨kt, bt, hsz⟩ := TN.out W3 hW.symm
          clear hW hsz
          have t0 := tab_regrown kt 0 (.int .i64 5) rfl
          have r1 : ∀ e os, Calls Tryz.prog 140 #[.int .i64 y] (grow (redrawn W3 e) os) (fun e w'' => e = .returned (.int .i64 (-1)) ∧ ∃ p : Regrown, w'' = grow (redrawn W3 p.d) p.os) := fun e os => Calls.regrown_of (sign_neg y (by omega) _)
          have r2 : ∀ e os, Calls Tryz.prog 140 #[.int .i64 x] (grow (redrawn W3 e) os) (fun e w'' => e = .returned (.int .i64 (-1)) ∧ ∃ p : Regrown, w'' = grow (redrawn W3 p.d) p.os) := fun e os => Calls.regrown_of (sign_neg x (by omega) _)
          refine wp_region_quiet_below (by kernel_rfl) (by kernel_rfl) ?_; (repeat (first | go_big_quiet_step ((first | with_reducible exact r1 _ _ | with_reducible exact r2 _ _)))); refine wpQuiet_nil ?_; intro _ hw'; obtain ⟨⟨dq, osq⟩, rfl⟩ := hw'
          go_wp2_with fail
          go_ret
          exact ⟨ret_int HX.out.symm, B2.out.trans ((bt.trans ((below_regrown W3 dq osq).mono bt.size)).mono B2.out.size)⟩
        · rw [if_neg k5] at HX
          go_upto_region 7 with (first | (with_reducible refine (A1.out _).mono ?_; rintro e w' ⟨rfl, rfl⟩) | (with_reducible refine (A2.out _).mono ?_; rintro e w' ⟨rfl, rfl⟩) | fail)
          generalize hW : w2.alloc (.cells #[.int .i64 5, .int .i64 4, .int .i64 3, .int .i64 6, .int .i64 0, .int .i64 2, .int .i64 7, .int .i64 0, .int .i64 1] 133) = W3
          obtain ⟨kt, bt, hsz⟩ := TN.out W3 hW.symm
          clear hW hsz
          have t0 := tab_regrown kt 6 (.int .i64 7) rfl
          have r1 : ∀ e os, Calls Tryz.prog 140 #[.int .i64 y] (grow (redrawn W3 e) os) (fun e w'' => e = .returned (.int .i64 1) ∧ ∃ p : Regrown, w'' = grow (redrawn W3 p.d) p.os) := fun e os => Calls.regrown_of (sign_pos y (by omega) _)
          have r2 : ∀ e os, Calls Tryz.prog 140 #[.int .i64 x] (grow (redrawn W3 e) os) (fun e w'' => e = .returned (.int .i64 (-1)) ∧ ∃ p : Regrown, w'' = grow (redrawn W3 p.d) p.os) := fun e os => Calls.regrown_of (sign_neg x (by omega) _)
          refine wp_region_quiet_below (by kernel_rfl) (by kernel_rfl) ?_; (repeat (first | go_big_quiet_step ((first | with_reducible exact r1 _ _ | with_reducible exact r2 _ _)))); refine wpQuiet_nil ?_; intro _ hw'; obtain ⟨⟨dq, osq⟩, rfl⟩ := hw'
          go_wp2_with fail
          go_ret
          exact ⟨ret_int HX.out.symm, B2.out.trans ((bt.trans ((below_regrown W3 dq osq).mono bt.size)).mono B2.out.size)⟩
end Go.Proofs.YtihhpmhigmegjaaGreatDoor
namespace Go.Proofs.YtihhpmhigmegjaaGreatDoor
open Go.ChangeShapes Go.WideShapes Go.ChangeAt Go.RowKit Go.Sort

def wordQ (f b : Ent) : ByteArray := if f.x = b.x ∧ f.y = b.y then ⟨#[110, 101, 119]⟩ else dirsL.getD (dirV (b.x - f.x) (b.y - f.y)).toNat ⟨#[]⟩
def outQ (f b : Ent) : ByteArray := (wordQ f b ++ ⟨#[32]⟩) ++ b.text
def resQ (o : ByteArray) : ByteArray × Int := if phrB o = true then (o, 0) else (⟨#[]⟩, 3)
def firstQ (xs : List Ent) (i : Nat) : Ent := xs.getD i ⟨⟨#[]⟩, 0, 0, 0⟩
/-- The text and the code. -/
def qtV (xs : List Ent) (b : Ent) (d : Int) : ByteArray × Int :=
  if codeE xs (entB b) d = 0 then
    match whichE xs (pBar b d) with
    | [] => (b.text, 0)
    | i :: _ => resQ (outQ (firstQ xs i.toNat) b)
  else (⟨#[]⟩, codeE xs (entB b) d)
theorem dirs_at {k : Nat} (h : k < 8) : dirsL.getD k ⟨#[]⟩ = dirsL[k]'(by rw [dirs_len]; exact h) := by
  rw [List.getD_eq_getElem?_getD, List.getElem?_eq_getElem (by rw [dirs_len]; exact h)]; rfl
theorem dirs_size {k : Nat} (h : k < 8) : (dirsL[k]'(by rw [dirs_len]; exact h)).size ≤ 9 :=
  (show ∀ s ∈ dirsL, s.size ≤ 9 by decide) _ (List.getElem_mem _)
theorem wTo_in {xs : List Ent} {p : Ent → Bool} : ∀ {k : Nat}, ∀ v ∈ wTo xs p k, 0 ≤ v ∧ v < (k : Int)
  | 0, v, h => by simp [wTo] at h
  | k + 1, v, h => by
    unfold wTo at h
    revert h
    (repeat' split) <;> intro h
    all_goals first
      | (have := wTo_in v h; omega)
      | (rcases List.mem_append.1 h with h | h
         · have := wTo_in v h; omega
         · have := List.mem_singleton.1 h; omega)
/-- What the two functions do once the code is 0 and something bars. -/
theorem qtV_some {xs : List Ent} {b : Ent} {d : Int} {i : Int} {T : List Int} (hz : codeE xs (entB b) d = 0) (hL : whichE xs (pBar b d) = i :: T) :
    ∃ (k : Nat) (hk : k < xs.length), i = k ∧ qtV xs b d = resQ (outQ xs[k] b) := by
  obtain ⟨h0, h1⟩ := wTo_in (xs := xs) (p := pBar b d) (k := xs.length) i (by rw [← whichE, hL]; exact List.mem_cons_self ..)
  refine ⟨i.toNat, by omega, by omega, ?_⟩
  rw [qtV, if_pos hz, hL]
  dsimp only
  rw [firstQ, List.getD_eq_getElem?_getD, List.getElem?_eq_getElem (by omega)]
  rfl
theorem qtV_none {xs : List Ent} {b : Ent} {d : Int} (hz : codeE xs (entB b) d = 0) (hL : whichE xs (pBar b d) = []) : qtV xs b d = (b.text, 0) := by
  rw [qtV, if_pos hz, hL]
theorem qtV_bad {xs : List Ent} {b : Ent} {d : Int} (hz : ¬ codeE xs (entB b) d = 0) : qtV xs b d = (⟨#[]⟩, codeE xs (entB b) d) := by
  rw [qtV, if_neg hz]
theorem in_co {f : Ent} (h : entB f = true) : Co f.x ∧ Co f.y := by obtain ⟨h1, h2, _⟩ := ent_bd h; unfold Co; omega
set_option maxRecDepth 100000 in
set_option maxHeartbeats 2000000 in
theorem specQt_any (xs : List Ent) (b : Ent) (dist : Int) (hs : ∀ b ∈ xs, b.text.size ≤ 1048576) (hb : b.text.size ≤ 1048576) (A : Option Addr) (c : Nat) (w : World) (h : HasEnt w xs A) :
    Calls Tryz.prog 32 #[.slice A xs.length c, b.val, .int .i64 dist] w fun e w' => e = .returned (.tuple #[.string (qtV xs b dist).1, .int .i64 (qtV xs b dist).2]) ∧ Below w.heap.size w w' := by
  have HC0 := Lib.hid (fun W (hb' : Below w.heap.size w W) => specCodeE_any xs b dist A c W (h.below hb') hs hb)
  have KN := Lib.hid (blks_one w 45 #[.string b.text, .int .i64 b.x, .int .i64 b.y, .int .i64 b.since])
  by_cases hz : codeE xs (entB b) dist = 0
  · obtain ⟨hx, hm, hb1, hd⟩ := codeE_zero hz
    have HW := Lib.hid (fun W (hb' : Below w.heap.size w W) => specWhich_any xs b dist true hx hb1 hd A c W (h.below hb') hm)
    have HE := Lib.hid (show whichE xs (pBar b dist) = whichE xs (fun f => homB f b dist && (decide (cmpE f b ≤ 0) == true)) from
      wTo_congr (fun f _ => by
        unfold pBar
        rw [homB_comm]
        cases decide (cmpE f b ≤ 0) <;> rfl) _)
    rw [← HE.out] at HW
    rw [hz] at HC0
    clear HE
    cases hL : whichE xs (pBar b dist) with
    | nil =>
      have HR := Lib.hid (qtV_none hz hL)
      rw [hL] at HW
      generalize qtV xs b dist = r at HR ⊢
      clear hL hz hx hb1 hd hs h
      unfold Ent.val at HC0 HW ⊢
      go_enter Tryz.func32, Tryz.ntmps32
      go_wp2_with fail
      generalize hW : w.alloc (.cells #[.string b.text, .int .i64 b.x, .int .i64 b.y, .int .i64 b.since] 45) = W
      obtain ⟨kb, bw, hsz⟩ := KN.out W hW.symm
      clear hW hsz
      refine (HC0.out W bw).mono ?_; rintro e w1 ⟨rfl, b1⟩
      have KB1 := Lib.hid (kb.below b1 kb.lt)
      obtain ⟨x0, x1, x2, x3⟩ := cells_4 KB1.out
      have B1 := Lib.hid (bw.trans (b1.mono bw.size)); clear kb bw b1
      go_wp2_with fail
      refine (HW.out w1 B1.out).mono ?_; rintro e w2 ⟨v, rfl, own2, b2⟩
      obtain ⟨A2, c2, rfl, _⟩ := own_shape own2
      obtain ⟨x0, x1, x2, x3⟩ := cells_4 (KB1.out.below b2 KB1.out.lt)
      have B2 := Lib.hid b2; clear own2 b2
      go_wp2_with fail
      go_ret2
      exact ⟨by rw [HR.out]; (first | done | rfl), B1.out.trans (B2.out.mono B1.out.size)⟩
    | cons i T =>
      obtain ⟨k, hk, rfl, hq⟩ := qtV_some hz hL
      have HR := Lib.hid hq; clear hq
      rw [hL] at HW
      have HC := Lib.hid (enC_get xs k hk)
      have HH := Lib.hid h
      obtain ⟨f, hf⟩ : ∃ f, xs[k] = f := ⟨_, rfl⟩
      rw [hf] at HC HR
      have hfB : entB f = true := hx f (hf ▸ List.getElem_mem hk)
      obtain ⟨cf1, cf2⟩ := in_co hfB
      obtain ⟨cb1, cb2⟩ := in_co hb1
      have HDir := Lib.hid (specDir_any f.x f.y b.x b.y cf1 cf2 cb1 cb2)
      have HO := Lib.hid (show outQ f b = (wordQ f b ++ ⟨#[32]⟩) ++ b.text from rfl)
      have HWq := Lib.hid (show wordQ f b = if f.x = b.x ∧ f.y = b.y then ⟨#[110, 101, 119]⟩ else dirsL.getD (dirV (b.x - f.x) (b.y - f.y)).toNat ⟨#[]⟩ from rfl)
      obtain ⟨dv0, dv1⟩ := dirV_bd (b.x - f.x) (b.y - f.y)
      obtain ⟨j, hj⟩ : ∃ j : Nat, dirV (b.x - f.x) (b.y - f.y) = (j : Int) := ⟨(dirV (b.x - f.x) (b.y - f.y)).toNat, by omega⟩
      have hj8 : j < 8 := by omega
      rw [hj] at HDir HWq
      rw [Int.toNat_natCast, dirs_at hj8] at HWq
      have HWd := Lib.hid (word_any j hj8)
      have hsz := dirs_size hj8
      generalize dirsL[j] = u at HWq HWd hsz
      generalize qtV xs b dist = r at HR ⊢
      clear hj dv0 dv1 cf1 cf2 cb1 cb2 hfB hf hL hz hx hb1 hd hs h
      unfold Ent.val at HC0 HW ⊢
      go_enter Tryz.func32, Tryz.ntmps32
      go_wp2_with fail
      generalize hW : w.alloc (.cells #[.string b.text, .int .i64 b.x, .int .i64 b.y, .int .i64 b.since] 45) = W
      obtain ⟨kb, bw, hszW⟩ := KN.out W hW.symm
      clear hW hszW
      refine (HC0.out W bw).mono ?_; rintro e w1 ⟨rfl, b1⟩
      have KB1 := Lib.hid (kb.below b1 kb.lt)
      obtain ⟨x0, x1, x2, x3⟩ := cells_4 KB1.out
      have B1 := Lib.hid (bw.trans (b1.mono bw.size)); clear kb bw b1
      go_wp2_with fail
      refine (HW.out w1 B1.out).mono ?_; rintro e w2 ⟨v, rfl, own2, b2⟩
      obtain ⟨A2, c2, rfl, _⟩ := own_shape own2
      have KB2 := Lib.hid (KB1.out.below b2 KB1.out.lt)
      obtain ⟨x0, x1, x2, x3⟩ := cells_4 KB2.out
      have B2 := Lib.hid (B1.out.trans (b2.mono B1.out.size))
      obtain ⟨a2, o2, rfl, hao2, hc2⟩ := (Reads.of_own own2).2 (by simp)
      have y0 : w2.cell? ⟨a2, o2, none⟩ = some (.int .i64 k) := hc2 0 (.int .i64 k) rfl
      obtain ⟨ab, ao, rfl, hadb, hcell⟩ := (HH.out.below B2.out).1.2 (by omega)
      obtain ⟨e0, e1, e2, e3⟩ := HC.out
      have z0 := hcell _ _ e0
      have z1 := hcell _ _ e1
      have z2 := hcell _ _ e2
      have z3 := hcell _ _ e3
      rw [← Nat.add_assoc] at z1 z2 z3
      have z2' : w2.cell? ⟨ab, ao + k * 4 + 1 + 1, none⟩ = some (.int .i64 f.y) := z2
      have hn : (((T.length : Int) + 1) == 0) = false := by rw [beq_eq_false_iff_ne]; omega
      clear own2 b2 hc2
      go_upto_region 9 with (fail)
      have KP := Lib.hid (blks_one w2 43 #[.int .i64 f.x, .int .i64 f.y])
      clear z0 z1 z2 z2' z3 y0 hcell
      generalize hW : w2.alloc (.cells #[.int .i64 f.x, .int .i64 f.y] 43) = W3
      obtain ⟨kp, bw3, hszW⟩ := KP.out W3 hW.symm
      clear hW hszW
      have KB3 := Lib.hid (KB2.out.below bw3 KB2.out.lt)
      obtain ⟨x0, x1, x2, x3⟩ := cells_4 KB3.out
      obtain ⟨p0, p1⟩ := cells_2 kp
      have B3 := Lib.hid (B2.out.trans (bw3.mono B2.out.size))
      clear bw3
      by_cases hxy : f.x = b.x ∧ f.y = b.y
      · rw [if_pos hxy] at HWq
        obtain ⟨h1, h2⟩ := hxy
        rw [HWq.out] at HO
        have HPh := Lib.hid (specPhr_any ((⟨#[110, 101, 119]⟩ ++ ⟨#[32]⟩) ++ b.text) (by rw [ByteArray.size_append, ByteArray.size_append]; have s1 : (⟨#[110, 101, 119]⟩ : ByteArray).size = 3 := rfl; have s2 : (⟨#[32]⟩ : ByteArray).size = 1 := rfl; omega))
        rw [← HO.out] at HPh
        generalize outQ f b = o at HO HR HPh
        rw [resQ] at HR
        go_wp2_with fail
        rw [← HO.out]
        refine (HPh.out W3).mono ?_; rintro e w4 ⟨rfl, b4⟩
        have B4 := Lib.hid (B3.out.trans (b4.mono B3.out.size))
        clear b4
        cases hp : phrB o <;> rw [hp] at HR
        all_goals
          go_wp2_with fail
          go_ret2
          exact ⟨by rw [HR.out]; (first | done | rfl), B4.out⟩
      · rw [if_neg hxy] at HWq
        rw [HWq.out] at HO
        have HPh := Lib.hid (specPhr_any ((u ++ ⟨#[32]⟩) ++ b.text) (by rw [ByteArray.size_append, ByteArray.size_append]; have s2 : (⟨#[32]⟩ : ByteArray).size = 1 := rfl; omega))
        rw [← HO.out] at HPh
        generalize outQ f b = o at HO HR HPh
        rw [resQ] at HR
        by_cases hX : f.x = b.x
        · have hY : ¬ f.y = b.y := fun h => hxy ⟨hX, h⟩
          rw [hX] at HDir
          clear hxy
          go_wp2_with fail
          with_reducible refine (HDir.out W3).mono ?_
          rintro e w4 ⟨rfl, b4⟩
          have KB4 := Lib.hid (KB3.out.below b4 KB3.out.lt)
          have B4 := Lib.hid (B3.out.trans (b4.mono B3.out.size))
          clear b4
          go_wp2_with fail
          refine (HWd.out w4).mono ?_; rintro e w5 ⟨rfl, b5⟩
          have KB5 := Lib.hid (KB4.out.below b5 KB4.out.lt)
          have B5 := Lib.hid (B4.out.trans (b5.mono B4.out.size))
          clear b5
          obtain ⟨x0, x1, x2, x3⟩ := cells_4 KB5.out
          go_wp2_with fail
          rw [← HO.out]
          refine (HPh.out w5).mono ?_; rintro e w6 ⟨rfl, b6⟩
          have B6 := Lib.hid (B5.out.trans (b6.mono B5.out.size))
          clear b6
          cases hp : phrB o <;> rw [hp] at HR
          all_goals
            go_wp2_with fail
            go_ret2
            exact ⟨by rw [HR.out]; (first | done | rfl), B6.out⟩
        · clear hxy
          go_wp2_with fail
          with_reducible refine (HDir.out W3).mono ?_
          rintro e w4 ⟨rfl, b4⟩
          have KB4 := Lib.hid (KB3.out.below b4 KB3.out.lt)
          have B4 := Lib.hid (B3.out.trans (b4.mono B3.out.size))
          clear b4
          go_wp2_with fail
          refine (HWd.out w4).mono ?_; rintro e w5 ⟨rfl, b5⟩
          have KB5 := Lib.hid (KB4.out.below b5 KB4.out.lt)
          have B5 := Lib.hid (B4.out.trans (b5.mono B4.out.size))
          clear b5
          obtain ⟨x0, x1, x2, x3⟩ := cells_4 KB5.out
          go_wp2_with fail
          rw [← HO.out]
          refine (HPh.out w5).mono ?_; rintro e w6 ⟨rfl, b6⟩
          have B6 := Lib.hid (B5.out.trans (b6.mono B5.out.size))
          clear b6
          cases hp : phrB o <;> rw [hp] at HR
          all_goals
            go_wp2_with fail
            go_ret2
            exact ⟨by rw [HR.out]; (first | done | rfl), B6.out⟩
  · have HR := Lib.hid (qtV_bad hz)
    generalize qtV xs b dist = r at HR ⊢
    generalize codeE xs (entB b) dist = cz at HC0 hz HR
    have hne : (cz != 0) = true := by rw [bne_iff_ne]; exact hz
    clear hz hs h hb
    unfold Ent.val at HC0 ⊢
    go_enter Tryz.func32, Tryz.ntmps32
    go_wp2_with fail
    generalize hW : w.alloc (.cells #[.string b.text, .int .i64 b.x, .int .i64 b.y, .int .i64 b.since] 45) = W
    obtain ⟨kb, bw, hsz⟩ := KN.out W hW.symm
    clear hW hsz
    refine (HC0.out W bw).mono ?_; rintro e w1 ⟨rfl, b1⟩
    go_wp2_with fail
    go_ret2
    exact ⟨by rw [HR.out]; (first | done | rfl), bw.trans (b1.mono bw.size)⟩
end Go.Proofs.YtihhpmhigmegjaaGreatDoor
namespace Go.Proofs.YtihhpmhigmegjaaGreatDoor
open Go.ChangeShapes Go.WideShapes Go.ChangeAt Go.RowKit Go.Sort

theorem wTo_sub {xs : List Ent} {p q : Ent → Bool} (h : ∀ f, p f = true → q f = true) (v : Int) : ∀ k, v ∈ wTo xs p k → v ∈ wTo xs q k
  | 0, hv => hv
  | k + 1, hv => by
    by_cases hk : k < xs.length
    · rw [wTo_at hk] at hv ⊢
      by_cases hp : p xs[k] = true
      · rw [if_pos hp] at hv
        rw [if_pos (h _ hp)]
        rcases List.mem_append.1 hv with hv | hv
        · exact List.mem_append_left _ (wTo_sub h v k hv)
        · exact List.mem_append_right _ hv
      · rw [if_neg hp] at hv
        have := wTo_sub h v k hv
        split
        · exact List.mem_append_left _ this
        · exact this
    · have e : ∀ p : Ent → Bool, wTo xs p (k + 1) = wTo xs p k := fun p => by rw [wTo, List.getElem?_eq_none (by omega)]
      rw [e] at hv ⊢
      exact wTo_sub h v k hv
theorem wTo_add {xs : List Ent} {p q r : Ent → Bool} (h : ∀ f, (r f = true ∧ (p f = true ∧ q f = false ∨ p f = false ∧ q f = true)) ∨ (r f = false ∧ p f = false ∧ q f = false)) : ∀ k, (wTo xs r k).length = (wTo xs p k).length + (wTo xs q k).length
  | 0 => rfl
  | k + 1 => by
    have ih := wTo_add (xs := xs) h k
    by_cases hk : k < xs.length
    · rw [wTo_at hk, wTo_at hk, wTo_at hk]
      rcases h xs[k] with ⟨h1, ⟨h2, h3⟩ | ⟨h2, h3⟩⟩ | ⟨h1, h2, h3⟩ <;> rw [h1, h2, h3] <;> simp <;> omega
    · have e : ∀ p : Ent → Bool, wTo xs p (k + 1) = wTo xs p k := fun p => by rw [wTo, List.getElem?_eq_none (by omega)]
      rw [e, e, e]; exact ih
theorem hom_split (b : Ent) (d : Int) (f : Ent) : (pAll b d f = true ∧ (pBar b d f = true ∧ pDis b d f = false ∨ pBar b d f = false ∧ pDis b d f = true)) ∨ (pAll b d f = false ∧ pBar b d f = false ∧ pDis b d f = false) := by
  have ha := cmpE_anti f b
  unfold pAll pBar pDis
  cases homB b f d
  · right; simp
  · left
    by_cases h : cmpE f b ≤ 0
    · refine ⟨rfl, .inl ⟨by simp [h], by simp; omega⟩⟩
    · refine ⟨rfl, .inr ⟨by simp; omega, by simp; omega⟩⟩
theorem dis_in {xs : List Ent} {b : Ent} {d : Int} (v : Int) (h : v ∈ rowE xs b d (pDis b d)) : v ∈ rowE xs b d (pAll b d) := by
  unfold rowE at *
  split at h
  · rw [if_pos (by assumption)]
    refine wTo_sub (fun f hf => ?_) v _ h
    unfold pDis at hf; unfold pAll
    rw [Bool.and_eq_true] at hf; rw [hf.1]; rfl
  · simp at h
theorem adm_len {xs : List Ent} {b : Ent} {d : Int} (hz : codeE xs (entB b) d = 0) : admB xs b d = decide ((rowE xs b d (pAll b d)).length = (rowE xs b d (pDis b d)).length) := by
  have := wTo_add (xs := xs) (hom_split b d) xs.length
  unfold admB rowE
  rw [hz, if_pos rfl, if_pos rfl, if_pos rfl]
  unfold whichE at *
  simp only [beq_self_eq_true, Bool.true_and]
  rw [decide_eq_decide]; omega
theorem adm_text {xs : List Ent} {b : Ent} {d : Int} (hz : codeE xs (entB b) d = 0) : (admB xs b d = true → qtV xs b d = (b.text, 0)) ∧ (admB xs b d = false → (qtV xs b d).2 = 3 ∨ ((qtV xs b d).2 = 0 ∧ (qtV xs b d).1 ≠ b.text)) := by
  have hr : rowE xs b d (pBar b d) = whichE xs (pBar b d) := by unfold rowE; rw [if_pos hz]
  have ha : admB xs b d = decide ((whichE xs (pBar b d)).length = 0) := by unfold admB; rw [hz, hr]; rfl
  rw [ha]
  refine ⟨fun h => qtV_none hz (List.eq_nil_of_length_eq_zero (of_decide_eq_true h)), fun h => ?_⟩
  have h := of_decide_eq_false h
  cases hL : whichE xs (pBar b d) with
  | nil => rw [hL] at h; simp at h
  | cons i T =>
    obtain ⟨k, hk, _, e⟩ := qtV_some hz hL
    rw [e]
    unfold resQ
    split
    · right
      refine ⟨rfl, fun e => ?_⟩
      have e := congrArg ByteArray.size e
      unfold outQ at e
      simp only [ByteArray.size_append] at e
      have : (⟨#[32]⟩ : ByteArray).size = 1 := rfl
      omega
    · left; rfl
end Go.Proofs.YtihhpmhigmegjaaGreatDoor
namespace Go.Proofs.YtihhpmhigmegjaaGreatDoor
open Go.ChangeShapes Go.WideShapes Go.ChangeAt Go.RowKit Go.Sort

def atE (xs : List Ent) (i : Int) : Ent := xs.getD i.toNat ⟨⟨#[]⟩, 0, 0, 0⟩
theorem atE_eq {xs : List Ent} {k : Nat} (h : k < xs.length) : atE xs k = xs[k] := by
  rw [atE, Int.toNat_natCast, List.getD_eq_getElem?_getD, List.getElem?_eq_getElem h]; rfl
def ltE (xs : List Ent) (i k : Int) : Bool := decide (cmpE (atE xs i) (atE xs k) < 0)
/-- The place of x in S, seen from place j. -/
def posR (lt : Int → Int → Bool) (x : Int) (S : List Int) : Nat → Nat
  | 0 => 0
  | j + 1 => if lt x (S.getD j 0) = true then posR lt x S j else j + 1
def insR (lt : Int → Int → Bool) (x : Int) (S : List Int) : List Int := S.take (posR lt x S S.length) ++ x :: S.drop (posR lt x S S.length)
def ordL (lt : Int → Int → Bool) : Nat → List Int
  | 0 => []
  | k + 1 => insR lt k (ordL lt k)
theorem posR_le (lt : Int → Int → Bool) (x : Int) (S : List Int) : ∀ j, posR lt x S j ≤ j
  | 0 => Nat.le_refl _
  | j + 1 => by
    unfold posR
    split
    · have := posR_le lt x S j; omega
    · exact Nat.le_refl _
theorem insR_len (lt : Int → Int → Bool) (x : Int) (S : List Int) : (insR lt x S).length = S.length + 1 := by
  unfold insR
  have := posR_le lt x S S.length
  simp only [List.length_append, List.length_take, List.length_cons, List.length_drop]
  omega
theorem ordL_len (lt : Int → Int → Bool) : ∀ k, (ordL lt k).length = k
  | 0 => rfl
  | k + 1 => by unfold ordL; rw [insR_len, ordL_len lt k]
theorem insR_mem (lt : Int → Int → Bool) (x : Int) (S : List Int) (v : Int) (h : v ∈ insR lt x S) : v = x ∨ v ∈ S := by
  unfold insR at h
  rcases List.mem_append.1 h with h | h
  · exact Or.inr (List.mem_of_mem_take h)
  · rcases List.mem_cons.1 h with h | h
    · exact Or.inl h
    · exact Or.inr (List.mem_of_mem_drop h)
theorem ordL_in (lt : Int → Int → Bool) : ∀ k, ∀ v ∈ ordL lt k, 0 ≤ v ∧ v < (k : Int)
  | 0, v, h => by simp [ordL] at h
  | k + 1, v, h => by
    rcases insR_mem lt k _ v h with h | h
    · omega
    · have := ordL_in lt k v h; omega
theorem getD_at {S : List Int} {j : Nat} (h : j < S.length) : S.getD j 0 = S[j] := by
  rw [List.getD_eq_getElem?_getD, List.getElem?_eq_getElem h]; rfl
/-- The list while x is sought a place: x lies at place j of S. -/
def midL (S : List Int) (x : Int) (j : Nat) : List Int := S.take j ++ x :: S.drop j
theorem midL_len {S : List Int} {x : Int} {j : Nat} (h : j ≤ S.length) : (midL S x j).length = S.length + 1 := by
  unfold midL
  simp only [List.length_append, List.length_take, List.length_cons, List.length_drop]
  omega
theorem midL_at {S : List Int} {x : Int} {j : Nat} (h : j ≤ S.length) : (midL S x j)[j]? = some x := by
  unfold midL
  rw [List.getElem?_append_right (by rw [List.length_take]; omega), List.length_take, show j - min j S.length = 0 by omega]
  rfl
theorem midL_before {S : List Int} {x : Int} {j : Nat} (h : j < S.length) : (midL S x (j + 1))[j]? = some S[j] := by
  unfold midL
  rw [List.getElem?_append_left (by rw [List.length_take]; omega), List.getElem?_take_of_lt (by omega), List.getElem?_eq_getElem h]
/-- The swap of places j and j + 1. -/
theorem midL_swap {S R : List Int} {x : Int} {j : Nat} (h : j < S.length) : ((midL S x (j + 1) ++ R).set (j + 1) S[j]).set j x = midL S x j ++ R := by
  have h1 : S.take (j + 1) = S.take j ++ [S[j]] := by rw [List.take_succ_eq_append_getElem h]
  have h2 : S.drop j = S[j] :: S.drop (j + 1) := List.drop_eq_getElem_cons h
  have h3 : (S.take j).length = j := by rw [List.length_take]; omega
  unfold midL
  rw [h1, h2]
  have e1 : (S.take j ++ [S[j]] ++ x :: S.drop (j + 1) ++ R) = S.take j ++ (S[j] :: x :: (S.drop (j + 1) ++ R)) := by simp only [List.append_assoc, List.cons_append, List.nil_append]
  have e2 : (S.take j ++ x :: S[j] :: S.drop (j + 1) ++ R) = S.take j ++ (x :: S[j] :: (S.drop (j + 1) ++ R)) := by simp only [List.append_assoc, List.cons_append, List.nil_append]
  rw [e1, e2, List.set_append_right _ _ (by omega), h3, show j + 1 - j = 1 by omega, List.set_append_right _ _ (by omega), h3, Nat.sub_self]
  rfl
theorem insR_mid {lt : Int → Int → Bool} {x : Int} {S : List Int} : insR lt x S = midL S x (posR lt x S S.length) := rfl
theorem posR_zero (lt : Int → Int → Bool) (x : Int) (S : List Int) : posR lt x S 0 = 0 := rfl
theorem posR_go {lt : Int → Int → Bool} {x : Int} {S : List Int} {j : Nat} (h : j < S.length) (hl : lt x S[j] = true) : posR lt x S (j + 1) = posR lt x S j := by
  rw [posR, getD_at h, if_pos hl]
theorem posR_stop {lt : Int → Int → Bool} {x : Int} {S : List Int} {j : Nat} (h : j < S.length) (hl : lt x S[j] = false) : posR lt x S (j + 1) = j + 1 := by
  rw [posR, getD_at h, if_neg (by rw [hl]; decide)]
/-- The indices in their own order. -/
def upL (a n : Nat) : List Int := (List.range' a n).map fun i : Nat => (i : Int)
theorem upL_len (a n : Nat) : (upL a n).length = n := by simp [upL]
theorem upL_cons (a n : Nat) : upL a (n + 1) = (a : Int) :: upL (a + 1) n := by simp [upL, List.range'_succ]
theorem upL_snoc (n : Nat) : upL 0 (n + 1) = upL 0 n ++ [(n : Int)] := by
  simp [upL, List.range'_concat]
theorem ord_next (lt : Int → Int → Bool) (k : Nat) : midL (ordL lt k) k (posR lt k (ordL lt k) (ordL lt k).length) = ordL lt (k + 1) := rfl
theorem mid_start (S : List Int) (x : Int) : midL S x S.length = S ++ [x] := by simp [midL]
end Go.Proofs.YtihhpmhigmegjaaGreatDoor
namespace Go.Proofs.YtihhpmhigmegjaaGreatDoor
open Go.ChangeShapes Go.WideShapes Go.ChangeAt Go.RowKit Go.Sort

/-- The indices kept, of a list of indices: each that none of the kept ones bars. -/
def clrL (P : Int → Int → Bool) (O : List Int) : List Int := O.foldl (fun K i => if K.any (fun k => P k i) = true then K else K ++ [i]) []
theorem clrL_nil (P : Int → Int → Bool) : clrL P [] = [] := rfl
theorem clrL_snoc (P : Int → Int → Bool) (O : List Int) (i : Int) : clrL P (O ++ [i]) = if (clrL P O).any (fun k => P k i) = true then clrL P O else clrL P O ++ [i] := by
  unfold clrL
  rw [List.foldl_append]; rfl
theorem clrL_take {P : Int → Int → Bool} {O : List Int} {k : Nat} (h : k < O.length) : clrL P (O.take (k + 1)) = if (clrL P (O.take k)).any (fun v => P v O[k]) = true then clrL P (O.take k) else clrL P (O.take k) ++ [O[k]] := by
  rw [List.take_succ_eq_append_getElem h, clrL_snoc]
theorem clrL_aux (P : Int → Int → Bool) : ∀ (O K : List Int), ∃ T, O.foldl (fun K i => if K.any (fun k => P k i) = true then K else K ++ [i]) K = K ++ T ∧ T.Sublist O
  | [], K => ⟨[], by simp, List.Sublist.refl _⟩
  | a :: O, K => by
    rw [List.foldl_cons]
    split
    · obtain ⟨T, h1, h2⟩ := clrL_aux P O K
      exact ⟨T, h1, h2.cons _⟩
    · obtain ⟨T, h1, h2⟩ := clrL_aux P O (K ++ [a])
      exact ⟨a :: T, by rw [h1, List.append_assoc]; rfl, h2.cons_cons _⟩
theorem clrL_sub (P : Int → Int → Bool) (O : List Int) : (clrL P O).Sublist O := by
  obtain ⟨T, h1, h2⟩ := clrL_aux P O []
  unfold clrL
  rw [h1]; exact h2
theorem clrL_len (P : Int → Int → Bool) (O : List Int) : (clrL P O).length ≤ O.length := (clrL_sub P O).length_le
theorem insR_perm (lt : Int → Int → Bool) (x : Int) (S : List Int) : (insR lt x S).Perm (x :: S) := by
  unfold insR
  refine List.Perm.trans List.perm_middle ?_
  rw [List.take_append_drop]
theorem ordL_perm (lt : Int → Int → Bool) : ∀ k, (ordL lt k).Perm (upL 0 k)
  | 0 => by simp [ordL, upL]
  | k + 1 => by
    rw [upL_snoc]
    refine (insR_perm lt k (ordL lt k)).trans ?_
    exact ((ordL_perm lt k).cons _).trans (List.perm_append_singleton _ _).symm
theorem upL_sorted (a n : Nat) : (upL a n).Pairwise (· < ·) := by
  unfold upL
  rw [List.pairwise_map]
  exact List.Pairwise.imp (fun h => by omega) (List.pairwise_lt_range' (s := a) (n := n) 1)
theorem upL_nodup (a n : Nat) : (upL a n).Nodup := (upL_sorted a n).imp (fun h => by omega)
theorem upL_mem {n : Nat} {v : Int} : v ∈ upL 0 n ↔ 0 ≤ v ∧ v < (n : Int) := by
  unfold upL
  simp only [List.mem_map, List.mem_range']
  constructor
  · rintro ⟨i, ⟨j, h1, h2⟩, rfl⟩; omega
  · rintro ⟨h1, h2⟩; exact ⟨v.toNat, ⟨v.toNat, by omega, by omega⟩, by omega⟩
/-- The indices of the kept entries, in their own order. -/
def inB' (K : List Int) (v : Int) : Bool := K.any (fun k => k == v)
theorem inB'_iff {K : List Int} {v : Int} : inB' K v = true ↔ v ∈ K := by
  unfold inB'
  rw [List.any_eq_true]
  constructor
  · rintro ⟨x, h1, h2⟩; rw [beq_iff_eq] at h2; rwa [← h2]
  · intro h; exact ⟨v, h, by simp⟩
def refTo (K : List Int) (k : Nat) : List Int := (upL 0 k).filter (inB' K)
theorem refTo_next (K : List Int) (k : Nat) : refTo K (k + 1) = if inB' K k = true then refTo K k ++ [(k : Int)] else refTo K k := by
  unfold refTo
  rw [upL_snoc, List.filter_append]
  cases h : inB' K (k : Int) <;> simp [h]
theorem refTo_len (K : List Int) (k : Nat) : (refTo K k).length ≤ k := by
  unfold refTo
  have := List.length_filter_le (inB' K) (upL 0 k)
  rwa [upL_len] at this
theorem sort_ref {P : Int → Int → Bool} {lt : Int → Int → Bool} (n : Nat) : (clrL P (ordL lt n)).mergeSort (fun x y => decide (x ≤ y)) = refTo (clrL P (ordL lt n)) n := by
  have hsub := clrL_sub P (ordL lt n)
  have hperm := ordL_perm lt n
  have hnd : (ordL lt n).Nodup := hperm.nodup_iff.2 (upL_nodup 0 n)
  have hkn : (clrL P (ordL lt n)).Nodup := hnd.sublist hsub
  have hkm : ∀ v ∈ clrL P (ordL lt n), 0 ≤ v ∧ v < (n : Int) := fun v hv => ordL_in lt n v (hsub.subset hv)
  generalize clrL P (ordL lt n) = K at *
  have hrn : (refTo K n).Nodup := (upL_nodup 0 n).sublist List.filter_sublist
  have hp : (K.mergeSort (fun x y => decide (x ≤ y))).Perm (refTo K n) := by
    refine (List.mergeSort_perm K _).trans ?_
    rw [List.perm_ext_iff_of_nodup hkn hrn]
    intro v
    unfold refTo
    rw [List.mem_filter, upL_mem, inB'_iff]
    exact ⟨fun h => ⟨hkm v h, h⟩, fun h => h.2⟩
  have h1 : (K.mergeSort (fun x y => decide (x ≤ y))).Pairwise (· ≤ ·) := by
    have := List.pairwise_mergeSort (le := fun x y : Int => decide (x ≤ y)) (fun a b c h1 h2 => by simp at *; omega) (fun a b => by simp; omega) K
    exact this.imp (fun h => by simpa using h)
  have h2 : (refTo K n).Pairwise (· ≤ ·) := ((upL_sorted 0 n).sublist List.filter_sublist).imp (fun h => by omega)
  exact hp.eq_of_pairwise (fun a b _ _ h1 h2 => by omega) h1 h2
end Go.Proofs.YtihhpmhigmegjaaGreatDoor
namespace Go.Proofs.YtihhpmhigmegjaaGreatDoor
open Go.ChangeShapes Go.WideShapes Go.ChangeAt Go.RowKit Go.Sort

theorem inC_num (L : List Int) (k : Nat) (h : k < L.length) : (inC L)[k]? = some (.int .i64 L[k]) := by simp [inC, h]
set_option maxRecDepth 100000 in
theorem likeInts_same (L : List Int) (hm : L.length ≤ 1048576) (A A' : Option Addr) (c c' : Nat) (w : World) (hr : Reads w w.heap.size 1 A L.length (inC L)) (hr' : Reads w w.heap.size 1 A' L.length (inC L)) :
    Calls Tryz.prog 19 #[.slice A L.length c, .slice A' L.length c'] w fun e w' => e = .returned (.bool true) ∧ Below w.heap.size w w' := by
  have HR := Lib.hid hr; have HR' := Lib.hid hr'; clear hr hr'
  go_enter Tryz.func19, Tryz.ntmps19
  go_wp2_with fail
  go_loopw [5] (fun v5 wr => ∃ k : Nat, k ≤ L.length ∧ Hid (Below w.heap.size w wr) ∧ v5 = .int .i64 k) (fun i _ => L.length - (intOf i).toNat)
  case atStart => exact ⟨0, by omega, Below.refl _ _, rfl⟩
  case round =>
    obtain ⟨k, hk, BW, rfl⟩ := hrel
    by_cases hlt : k < L.length
    · obtain ⟨ab, ao, rfl, hadb, hcell⟩ := (HR.out.below BW.out).2 (by omega)
      obtain ⟨ab', ao', rfl, hadb', hcell'⟩ := (HR'.out.below BW.out).2 (by omega)
      have c0 := cell_regrown (hcell _ _ (inC_num L k hlt))
      have c1 := cell_regrown (hcell' _ _ (inC_num L k hlt))
      clear hcell hcell'
      generalize L[k] = x at c0 c1
      go_upto_region 6 with (fail)
      refine wp_region_quiet_below (by kernel_rfl) (by kernel_rfl) ?_; (repeat (first | go_big_quiet_step (fail))); refine wpQuiet_nil ?_; intro _ hw'; obtain ⟨⟨dq, osq⟩, rfl⟩ := hw'
      have B2 := Lib.hid (BW.out.trans ((below_regrown wr dq osq).mono BW.out.size))
      generalize grow (redrawn wr dq) osq = w2 at B2 ⊢
      clear c0 c1
      go_wp2_with fail
      go_roundw
      case rel => exact ⟨k + 1, by omega, B2.out, by go_num⟩
      case measure => simp [intOf]; omega
    · obtain rfl : k = L.length := by omega
      go_wp2_with fail
      go_ret
      exact ⟨rfl, BW.out⟩
theorem inB'_cons (x : Int) (R : List Int) (v : Int) : inB' (x :: R) v = ((x == v) || inB' R v) := rfl
theorem inB'_drop (L : List Int) (v : Int) {k : Nat} (h : k < L.length) : inB' (L.drop k) v = ((L[k] == v) || inB' (L.drop (k + 1)) v) := by rw [List.drop_eq_getElem_cons h, inB'_cons]
set_option maxRecDepth 100000 in
theorem hasInt_any (L : List Int) (v : Int) (hm : L.length ≤ 1048576) (A : Option Addr) (c : Nat) (w : World) (hr : Reads w w.heap.size 1 A L.length (inC L)) :
    Calls Tryz.prog 23 #[.slice A L.length c, .int .i64 v] w fun e w' => e = .returned (.bool (inB' L v)) ∧ Below w.heap.size w w' := by
  have HR := Lib.hid hr; clear hr
  have HD := Lib.hid (fun k (h : k < L.length) => inB'_drop L v h)
  have HE := Lib.hid (show inB' (L.drop L.length) v = false by rw [List.drop_length]; rfl)
  obtain ⟨r, hr⟩ : ∃ r, inB' L v = r := ⟨_, rfl⟩
  have H0 := Lib.hid (show inB' (L.drop 0) v = r from hr)
  rw [hr]
  clear hr
  go_enter Tryz.func23, Tryz.ntmps23
  go_wp2_with fail
  go_loopw [5] (fun v5 wr => ∃ k : Nat, k ≤ L.length ∧ Hid (inB' (L.drop k) v = r) ∧ Hid (Below w.heap.size w wr) ∧ v5 = .int .i64 k) (fun i _ => L.length - (intOf i).toNat)
  case atStart => exact ⟨0, by omega, H0.out, Below.refl _ _, rfl⟩
  case round =>
    obtain ⟨k, hk, HK, BW, rfl⟩ := hrel
    by_cases hlt : k < L.length
    · obtain ⟨ab, ao, rfl, hadb, hcell⟩ := (HR.out.below BW.out).2 (by omega)
      have c0 := hcell _ _ (inC_num L k hlt)
      have HN := Lib.hid ((HD.out k hlt).symm.trans HK.out)
      clear hcell
      generalize L[k] = x at c0 HN
      by_cases hne : x = v
      · have HR1 := Lib.hid (show true = r by have := HN.out; rw [hne] at this; simpa using this)
        subst hne
        go_wp2_with fail
        go_ret
        exact ⟨ret_bool HR1.out, BW.out⟩
      · have HK1 := Lib.hid (show inB' (L.drop (k + 1)) v = r by have := HN.out; rw [show (x == v) = false by simpa using hne, Bool.false_or] at this; exact this)
        clear HN HK
        go_wp2_with fail
        go_roundw
        case rel => exact ⟨k + 1, by omega, HK1.out, BW.out, by go_num⟩
        case measure => simp [intOf]; omega
    · obtain rfl : k = L.length := by omega
      have HR1 := Lib.hid (show false = r from HE.out.symm.trans HK.out)
      clear HK
      go_wp2_with fail
      go_ret
      exact ⟨ret_bool HR1.out, BW.out⟩
set_option maxRecDepth 100000 in
theorem big_any (A : Option Addr) (n c : Nat) (hn : n ≤ 9223372036854775807) (w : World) :
    Calls Tryz.prog 6 #[.slice A n c] w fun e w' => e = .returned (.bool (decide ((4096 : Int) < n))) ∧ w = w' := by
  go_enter Tryz.func6, Tryz.ntmps6
  go_wp2
  go_ret
  exact ⟨rfl, rfl⟩
end Go.Proofs.YtihhpmhigmegjaaGreatDoor
namespace Go.Proofs.YtihhpmhigmegjaaGreatDoor
open Go.ChangeShapes Go.WideShapes Go.ChangeAt Go.RowKit Go.Sort

theorem dirs_cell {W : World} (h : Dirs W) {k : Nat} (hk : k < 8) : W.cell? ⟨0, k, none⟩ = some (.string (dirsL[k]'(by rw [dirs_len]; exact hk))) := by
  obtain ⟨b, o, he, _, hc⟩ := h.2 (by decide)
  obtain ⟨rfl, rfl⟩ : 0 = b ∧ 0 = o := by
    have := Option.some.inj he
    injection this with h1 h2
    exact ⟨h1, h2⟩
  have := hc k _ (txC_get _ _ (by rw [dirs_len]; exact hk))
  rwa [Nat.zero_add] at this
set_option maxRecDepth 100000 in
set_option maxHeartbeats 2000000 in
theorem implQt_any (xs : List Ent) (b : Ent) (dist : Int) (hs : ∀ b ∈ xs, b.text.size ≤ 1048576) (hb : b.text.size ≤ 1048576) (A : Option Addr) (c : Nat) (w : World) (h : HasEnt w xs A) (hdir : Dirs w) :
    Calls Tryz.prog 31 #[.slice A xs.length c, b.val, .int .i64 dist] w fun e w' => e = .returned (.tuple #[.string (qtV xs b dist).1, .int .i64 (qtV xs b dist).2]) ∧ Below w.heap.size w w' := by
  have HI := Lib.hid (implEnt_any b hb)
  have HDs := Lib.hid hdir; clear hdir
  have HC0 := Lib.hid (fun W (hb' : Below w.heap.size w W) => implCodeE_any xs (entB b) dist A c W (h.below hb') hs)
  have KN := Lib.hid (blks_one w 45 #[.string b.text, .int .i64 b.x, .int .i64 b.y, .int .i64 b.since])
  by_cases hz : codeE xs (entB b) dist = 0
  · obtain ⟨hx, hm, hb1, hd⟩ := codeE_zero hz
    have HW := Lib.hid (fun W (hb' : Below w.heap.size w W) => barring_any xs b dist hx hb1 hd A c W (h.below hb') hm)
    rw [hz] at HC0
    have hb2 := hb1
    rw [hb2] at HC0 HI
    clear hb2
    cases hL : whichE xs (pBar b dist) with
    | nil =>
      have HR := Lib.hid (qtV_none hz hL)
      rw [hL] at HW
      generalize qtV xs b dist = r at HR ⊢
      clear hL hz hx hb1 hd hs h
      unfold Ent.val at HW HI ⊢
      go_enter Tryz.func31, Tryz.ntmps31
      go_wp2_with fail
      generalize hW : w.alloc (.cells #[.string b.text, .int .i64 b.x, .int .i64 b.y, .int .i64 b.since] 45) = W
      obtain ⟨kb, bw, hsz⟩ := KN.out W hW.symm
      clear hW hsz
      refine (HI.out W).mono ?_; rintro e w0 ⟨rfl, b0⟩
      have kb := kb.below b0 kb.lt
      have bw := bw.trans (b0.mono bw.size)
      clear b0
      go_wp2_with fail
      refine (HC0.out w0 bw).mono ?_; rintro e w1 ⟨rfl, b1⟩
      have KB1 := Lib.hid (kb.below b1 kb.lt)
      obtain ⟨x0, x1, x2, x3⟩ := cells_4 KB1.out
      have B1 := Lib.hid (bw.trans (b1.mono bw.size)); clear kb bw b1
      go_wp2_with fail
      refine (HW.out w1 B1.out).mono ?_; rintro e w2 ⟨v, rfl, own2, b2⟩
      obtain ⟨A2, c2, rfl, _⟩ := own_shape own2
      obtain ⟨x0, x1, x2, x3⟩ := cells_4 (KB1.out.below b2 KB1.out.lt)
      have B2 := Lib.hid b2; clear own2 b2
      go_wp2_with fail
      go_ret2
      exact ⟨by rw [HR.out]; (first | done | rfl), B1.out.trans (B2.out.mono B1.out.size)⟩
    | cons i T =>
      obtain ⟨k, hk, rfl, hq⟩ := qtV_some hz hL
      have HR := Lib.hid hq; clear hq
      rw [hL] at HW
      have HC := Lib.hid (enC_get xs k hk)
      have HH := Lib.hid h
      obtain ⟨f, hf⟩ : ∃ f, xs[k] = f := ⟨_, rfl⟩
      rw [hf] at HC HR
      have hfB : entB f = true := hx f (hf ▸ List.getElem_mem hk)
      obtain ⟨cf1, cf2⟩ := in_co hfB
      obtain ⟨cb1, cb2⟩ := in_co hb1
      have HDir := Lib.hid (implDir_any f.x f.y b.x b.y cf1 cf2 cb1 cb2)
      have HO := Lib.hid (show outQ f b = (wordQ f b ++ ⟨#[32]⟩) ++ b.text from rfl)
      have HWq := Lib.hid (show wordQ f b = if f.x = b.x ∧ f.y = b.y then ⟨#[110, 101, 119]⟩ else dirsL.getD (dirV (b.x - f.x) (b.y - f.y)).toNat ⟨#[]⟩ from rfl)
      obtain ⟨dv0, dv1⟩ := dirV_bd (b.x - f.x) (b.y - f.y)
      obtain ⟨j, hj⟩ : ∃ j : Nat, dirV (b.x - f.x) (b.y - f.y) = (j : Int) := ⟨(dirV (b.x - f.x) (b.y - f.y)).toNat, by omega⟩
      have hj8 : j < 8 := by omega
      rw [hj] at HDir HWq
      rw [Int.toNat_natCast, dirs_at hj8] at HWq
      have HWd := Lib.hid (fun W (hb' : Below w.heap.size w W) => dirs_cell (HDs.out.below hb') hj8)
      have hsz := dirs_size hj8
      generalize dirsL[j] = u at HWq HWd hsz
      generalize qtV xs b dist = r at HR ⊢
      clear hj dv0 dv1 cf1 cf2 cb1 cb2 hfB hf hL hz hx hb1 hd hs h
      unfold Ent.val at HW HI ⊢
      go_enter Tryz.func31, Tryz.ntmps31
      go_wp2_with fail
      generalize hW : w.alloc (.cells #[.string b.text, .int .i64 b.x, .int .i64 b.y, .int .i64 b.since] 45) = W
      obtain ⟨kb, bw, hszW⟩ := KN.out W hW.symm
      clear hW hszW
      refine (HI.out W).mono ?_; rintro e w0 ⟨rfl, b0⟩
      have kb := kb.below b0 kb.lt
      have bw := bw.trans (b0.mono bw.size)
      clear b0
      go_wp2_with fail
      refine (HC0.out w0 bw).mono ?_; rintro e w1 ⟨rfl, b1⟩
      have KB1 := Lib.hid (kb.below b1 kb.lt)
      obtain ⟨x0, x1, x2, x3⟩ := cells_4 KB1.out
      have B1 := Lib.hid (bw.trans (b1.mono bw.size)); clear kb bw b1
      go_wp2_with fail
      refine (HW.out w1 B1.out).mono ?_; rintro e w2 ⟨v, rfl, own2, b2⟩
      obtain ⟨A2, c2, rfl, _⟩ := own_shape own2
      have KB2 := Lib.hid (KB1.out.below b2 KB1.out.lt)
      obtain ⟨x0, x1, x2, x3⟩ := cells_4 KB2.out
      have B2 := Lib.hid (B1.out.trans (b2.mono B1.out.size))
      obtain ⟨a2, o2, rfl, hao2, hc2⟩ := (Reads.of_own own2).2 (by simp)
      have y0 : w2.cell? ⟨a2, o2, none⟩ = some (.int .i64 k) := hc2 0 (.int .i64 k) rfl
      obtain ⟨ab, ao, rfl, hadb, hcell⟩ := (HH.out.below B2.out).1.2 (by omega)
      obtain ⟨e0, e1, e2, e3⟩ := HC.out
      have z0 := hcell _ _ e0
      have z1 := hcell _ _ e1
      have z2 := hcell _ _ e2
      have z3 := hcell _ _ e3
      rw [← Nat.add_assoc] at z1 z2 z3
      have z2' : w2.cell? ⟨ab, ao + k * 4 + 1 + 1, none⟩ = some (.int .i64 f.y) := z2
      have hn : (((T.length : Int) + 1) == 0) = false := by rw [beq_eq_false_iff_ne]; omega
      clear own2 b2 hc2
      go_upto_region 9 with (fail)
      have KP := Lib.hid (blks_one w2 43 #[.int .i64 f.x, .int .i64 f.y])
      clear z0 z1 z2 z2' z3 y0 hcell
      generalize hW : w2.alloc (.cells #[.int .i64 f.x, .int .i64 f.y] 43) = W3
      obtain ⟨kp, bw3, hszW⟩ := KP.out W3 hW.symm
      clear hW hszW
      have KB3 := Lib.hid (KB2.out.below bw3 KB2.out.lt)
      obtain ⟨x0, x1, x2, x3⟩ := cells_4 KB3.out
      obtain ⟨p0, p1⟩ := cells_2 kp
      have B3 := Lib.hid (B2.out.trans (bw3.mono B2.out.size))
      clear bw3
      by_cases hxy : f.x = b.x ∧ f.y = b.y
      · rw [if_pos hxy] at HWq
        obtain ⟨h1, h2⟩ := hxy
        rw [HWq.out] at HO
        have HPh := Lib.hid (implPhr_any ((⟨#[110, 101, 119]⟩ ++ ⟨#[32]⟩) ++ b.text) (by rw [ByteArray.size_append, ByteArray.size_append]; have s1 : (⟨#[110, 101, 119]⟩ : ByteArray).size = 3 := rfl; have s2 : (⟨#[32]⟩ : ByteArray).size = 1 := rfl; omega))
        rw [← HO.out] at HPh
        generalize outQ f b = o at HO HR HPh
        rw [resQ] at HR
        go_wp2_with fail
        rw [← HO.out]
        refine (HPh.out W3).mono ?_; rintro e w4 ⟨rfl, b4⟩
        have B4 := Lib.hid (B3.out.trans (b4.mono B3.out.size))
        clear b4
        cases hp : phrB o <;> rw [hp] at HR
        all_goals
          go_wp2_with fail
          go_ret2
          exact ⟨by rw [HR.out]; (first | done | rfl), B4.out⟩
      · rw [if_neg hxy] at HWq
        rw [HWq.out] at HO
        have HPh := Lib.hid (implPhr_any ((u ++ ⟨#[32]⟩) ++ b.text) (by rw [ByteArray.size_append, ByteArray.size_append]; have s2 : (⟨#[32]⟩ : ByteArray).size = 1 := rfl; omega))
        rw [← HO.out] at HPh
        generalize outQ f b = o at HO HR HPh
        rw [resQ] at HR
        by_cases hX : f.x = b.x
        · have hY : ¬ f.y = b.y := fun h => hxy ⟨hX, h⟩
          rw [hX] at HDir hxy
          go_wp2_with fail
          with_reducible refine (HDir.out hxy W3).mono ?_
          rintro e w4 ⟨rfl, b4⟩
          have KB4 := Lib.hid (KB3.out.below b4 KB3.out.lt)
          have B4 := Lib.hid (B3.out.trans (b4.mono B3.out.size))
          clear b4
          obtain ⟨x0, x1, x2, x3⟩ := cells_4 KB4.out
          have d0 := HWd.out w4 B4.out
          go_wp2_with fail
          rw [← HO.out]
          refine (HPh.out w4).mono ?_; rintro e w6 ⟨rfl, b6⟩
          have B6 := Lib.hid (B4.out.trans (b6.mono B4.out.size))
          clear b6
          cases hp : phrB o <;> rw [hp] at HR
          all_goals
            go_wp2_with fail
            go_ret2
            exact ⟨by rw [HR.out]; (first | done | rfl), B6.out⟩
        · go_wp2_with fail
          with_reducible refine (HDir.out hxy W3).mono ?_
          rintro e w4 ⟨rfl, b4⟩
          have KB4 := Lib.hid (KB3.out.below b4 KB3.out.lt)
          have B4 := Lib.hid (B3.out.trans (b4.mono B3.out.size))
          clear b4
          obtain ⟨x0, x1, x2, x3⟩ := cells_4 KB4.out
          have d0 := HWd.out w4 B4.out
          go_wp2_with fail
          rw [← HO.out]
          refine (HPh.out w4).mono ?_; rintro e w6 ⟨rfl, b6⟩
          have B6 := Lib.hid (B4.out.trans (b6.mono B4.out.size))
          clear b6
          cases hp : phrB o <;> rw [hp] at HR
          all_goals
            go_wp2_with fail
            go_ret2
            exact ⟨by rw [HR.out]; (first | done | rfl), B6.out⟩
  · have HR := Lib.hid (qtV_bad hz)
    generalize qtV xs b dist = r at HR ⊢
    generalize codeE xs (entB b) dist = cz at HC0 hz HR
    have hne : (cz != 0) = true := by rw [bne_iff_ne]; exact hz
    clear hz hs h hb
    unfold Ent.val at HI ⊢
    go_enter Tryz.func31, Tryz.ntmps31
    go_wp2_with fail
    generalize hW : w.alloc (.cells #[.string b.text, .int .i64 b.x, .int .i64 b.y, .int .i64 b.since] 45) = W
    obtain ⟨kb, bw, hsz⟩ := KN.out W hW.symm
    clear hW hsz
    refine (HI.out W).mono ?_; rintro e w0 ⟨rfl, b0⟩
    have kb := kb.below b0 kb.lt
    have bw := bw.trans (b0.mono bw.size)
    clear b0
    go_wp2_with fail
    refine (HC0.out w0 bw).mono ?_; rintro e w1 ⟨rfl, b1⟩
    go_wp2_with fail
    go_ret2
    exact ⟨by rw [HR.out]; (first | done | rfl), bw.trans (b1.mono bw.size)⟩
end Go.Proofs.YtihhpmhigmegjaaGreatDoor
namespace Go.Proofs.YtihhpmhigmegjaaGreatDoor
open Go.ChangeShapes Go.WideShapes Go.ChangeAt Go.RowKit Go.Sort

theorem codeH_cases (xs : List Ent) (ok : Bool) (d : Int) : codeE xs ok d = 0 ∨ codeE xs ok d ≠ 0 := Decidable.em _
set_option maxRecDepth 100000 in
set_option maxHeartbeats 8000000 in
theorem lawHoms_any (A : Option Addr) (n c : Nat) (w : World) (hn : n ≤ 9223372036854775807) (h : n ≤ 4096 → Code8 w A n) (hdir : Dirs w) :
    Calls Tryz.prog 4 #[.slice A n c] w fun e w' => e = .returned (.bool true) ∧ Below w.heap.size w w' := by
  have HC := Lib.hid h; clear h
  by_cases hb : (4096 : Int) < n
  · have hd : decide ((4096 : Int) < n) = true := by simpa using hb
    have HD := Lib.hid hd; clear hd hb
    go_enter Tryz.func4, Tryz.ntmps4
    go_wp2_with fail
    refine (big_any A n c hn w).mono ?_; rw [HD.out]; rintro e w' ⟨rfl, rfl⟩
    go_wp2_with fail
    go_ret
    exact ⟨rfl, Below.refl _ _⟩
  · have hd : decide ((4096 : Int) < n) = false := by simpa using hb
    have HD := Lib.hid hd; clear hd
    have hc := HC.out (by omega)
    have Cd0 := Lib.hid hc; clear hc hb
    have B0 := Lib.hid (Below.refl w.heap.size w)
    go_enter Tryz.func4, Tryz.ntmps4
    go_wp2_with fail
    refine (big_any A n c hn w).mono ?_; rw [HD.out]; rintro e w' ⟨rfl, rfl⟩
    have Dr0 := Lib.hid hdir; clear hdir
    go_wp2_with fail
    refine (drawHom_any A n c w Cd0.out).mono ?_
    rintro e w1 ⟨L, ⟨tx, ex, ey, si⟩, dd, Bq, dq, rfl, own, hsm, hln, hsb, b⟩
    have B1 := Lib.hid (B0.out.trans (b.mono B0.out.size))
    have Cd1 := Lib.hid (Cd0.out.below b)
    have Dr1 := Lib.hid (Dr0.out.below b)
    have OL1 := Lib.hid (own)
    clear b B0 Cd0 Dr0
    clear own
    dsimp only [SmallE] at hsb
    have hz : ∀ b ∈ L, b.text.size ≤ 1048576 := fun b hb => by have := hsm b hb; dsimp only [SmallE] at this; omega
    have HH := Lib.hid (fun W (h : W.ownsRow w.heap.size 45 4 (.slice Bq L.length dq) L.length (enC L)) => (⟨Reads.of_own h, by omega, fun b hb => by have := hz b hb; unfold Ent.Ok; omega⟩ : HasEnt W L Bq))
    clear hsm
    have IH := Lib.hid (fun W h => implHomL_any L ⟨tx, ex, ey, si⟩ dd hz (by dsimp only; omega) Bq dq W (HH.out W h))
    have SH := Lib.hid (fun W h => specHomL_any L ⟨tx, ex, ey, si⟩ dd hz (by dsimp only; omega) Bq dq W (HH.out W h))
    have IA := Lib.hid (fun W h => implAdm_any L ⟨tx, ex, ey, si⟩ dd hz (by dsimp only; omega) Bq dq W (HH.out W h))
    have SA := Lib.hid (fun W h => specAdm_any L ⟨tx, ex, ey, si⟩ dd hz (by dsimp only; omega) Bq dq W (HH.out W h))
    have ID := Lib.hid (fun W h => implDis_any L ⟨tx, ex, ey, si⟩ dd hz (by dsimp only; omega) Bq dq W (HH.out W h))
    have SD := Lib.hid (fun W h => specDis_any L ⟨tx, ex, ey, si⟩ dd hz (by dsimp only; omega) Bq dq W (HH.out W h))
    have SQ := Lib.hid (fun W h => specQt_any L ⟨tx, ex, ey, si⟩ dd hz (by dsimp only; omega) Bq dq W (HH.out W h))
    have IQ := Lib.hid (fun W h hD => implQt_any L ⟨tx, ex, ey, si⟩ dd hz (by dsimp only; omega) Bq dq W (HH.out W h) hD)
    have P1 := Lib.hid (fun v h => dis_in (xs := L) (b := ⟨tx, ex, ey, si⟩) (d := dd) v h)
    have P2 := Lib.hid (fun hz0 => adm_len (xs := L) (b := ⟨tx, ex, ey, si⟩) (d := dd) hz0)
    have P3 := Lib.hid (fun hz0 => adm_text (xs := L) (b := ⟨tx, ex, ey, si⟩) (d := dd) hz0)
    have HQ := Lib.hid (fun hz0 => qtV_bad (xs := L) (b := ⟨tx, ex, ey, si⟩) (d := dd) hz0)
    have hHl : (rowE L ⟨tx, ex, ey, si⟩ dd (pAll ⟨tx, ex, ey, si⟩ dd)).length ≤ 20 := Nat.le_trans (rowE_len _ _ _ _) hln
    have hDl : (rowE L ⟨tx, ex, ey, si⟩ dd (pDis ⟨tx, ex, ey, si⟩ dd)).length ≤ 20 := Nat.le_trans (rowE_len _ _ _ _) hln
    unfold Ent.val at *
    dsimp only at IH SH IA SA ID SD IQ SQ
    generalize rowE L ⟨tx, ex, ey, si⟩ dd (pAll ⟨tx, ex, ey, si⟩ dd) = H at *
    generalize rowE L ⟨tx, ex, ey, si⟩ dd (pDis ⟨tx, ex, ey, si⟩ dd) = D at *
    generalize admB L ⟨tx, ex, ey, si⟩ dd = ad at *
    generalize codeE L (entB ⟨tx, ex, ey, si⟩) dd = code at *
    generalize qtV L ⟨tx, ex, ey, si⟩ dd = qt at *
    obtain ⟨qs, qc⟩ := qt
    dsimp only at P3 IQ SQ HQ
    clear HH hz
    go_upto_region 4 with (fail)
    have b : Below w1.heap.size w1 (w1.alloc (.cells #[.string tx, .int .i64 ex, .int .i64 ey, .int .i64 si] 45)) := (Below.refl _ _).alloc (Nat.le_refl _) _
    have nk := Blk.new w1 45 #[.string tx, .int .i64 ex, .int .i64 ey, .int .i64 si]
    generalize w1.alloc (.cells #[.string tx, .int .i64 ex, .int .i64 ey, .int .i64 si] 45) = w2 at b nk ⊢
    have nk := Lib.hid nk
    have B2 := Lib.hid (B1.out.trans (b.mono B1.out.size))
    have Cd2 := Lib.hid (Cd1.out.below b)
    have Dr2 := Lib.hid (Dr1.out.below b)
    have OL2 := Lib.hid (own_below OL1.out b)
    have X2 := Lib.hid (nk.out)
    clear b B1 Cd1 Dr1 OL1
    clear nk
    obtain ⟨q0, q1, q2, q3⟩ := cells_4 X2.out
    go_wp2_with fail
    refine (IH.out _ OL2.out).mono ?_
    rintro e w3 ⟨v, rfl, own, b⟩
    clear q0 q1 q2 q3 IH
    obtain ⟨AH, cH, rfl, _⟩ := own_shape own
    have B3 := Lib.hid (B2.out.trans (b.mono B2.out.size))
    have Cd3 := Lib.hid (Cd2.out.below b)
    have Dr3 := Lib.hid (Dr2.out.below b)
    have OL3 := Lib.hid (own_below OL2.out b)
    have X3 := Lib.hid (X2.out.below b X2.out.lt)
    have OH3 := Lib.hid (own)
    clear b B2 Cd2 Dr2 OL2 X2
    clear own
    obtain ⟨q0, q1, q2, q3⟩ := cells_4 X3.out
    go_wp2_with fail
    refine (SH.out _ OL3.out).mono ?_
    rintro e w4 ⟨v, rfl, own, b⟩
    clear q0 q1 q2 q3 SH
    obtain ⟨AG, cG, rfl, _⟩ := own_shape own
    have B4 := Lib.hid (B3.out.trans (b.mono B3.out.size))
    have Cd4 := Lib.hid (Cd3.out.below b)
    have Dr4 := Lib.hid (Dr3.out.below b)
    have OL4 := Lib.hid (own_below OL3.out b)
    have X4 := Lib.hid (X3.out.below b X3.out.lt)
    have OH4 := Lib.hid (own_below OH3.out b)
    have OG4 := Lib.hid (own)
    clear b B3 Cd3 Dr3 OL3 X3 OH3
    clear own
    obtain ⟨q0, q1, q2, q3⟩ := cells_4 X4.out
    go_wp2_with fail
    refine (IA.out _ OL4.out).mono ?_
    rintro e w5 ⟨rfl, b⟩
    clear q0 q1 q2 q3 IA
    have B5 := Lib.hid (B4.out.trans (b.mono B4.out.size))
    have Cd5 := Lib.hid (Cd4.out.below b)
    have Dr5 := Lib.hid (Dr4.out.below b)
    have OL5 := Lib.hid (own_below OL4.out b)
    have X5 := Lib.hid (X4.out.below b X4.out.lt)
    have OH5 := Lib.hid (own_below OH4.out b)
    have OG5 := Lib.hid (own_below OG4.out b)
    clear b B4 Cd4 Dr4 OL4 X4 OH4 OG4
    obtain ⟨q0, q1, q2, q3⟩ := cells_4 X5.out
    go_wp2_with fail
    refine (SA.out _ OL5.out).mono ?_
    rintro e w6 ⟨rfl, b⟩
    clear q0 q1 q2 q3 SA
    have B6 := Lib.hid (B5.out.trans (b.mono B5.out.size))
    have Cd6 := Lib.hid (Cd5.out.below b)
    have Dr6 := Lib.hid (Dr5.out.below b)
    have OL6 := Lib.hid (own_below OL5.out b)
    have X6 := Lib.hid (X5.out.below b X5.out.lt)
    have OH6 := Lib.hid (own_below OH5.out b)
    have OG6 := Lib.hid (own_below OG5.out b)
    clear b B5 Cd5 Dr5 OL5 X5 OH5 OG5
    obtain ⟨q0, q1, q2, q3⟩ := cells_4 X6.out
    go_wp2_with fail
    refine (ID.out _ OL6.out).mono ?_
    rintro e w7 ⟨v, rfl, own, b⟩
    clear q0 q1 q2 q3 ID
    obtain ⟨AD, cD, rfl, _⟩ := own_shape own
    have B7 := Lib.hid (B6.out.trans (b.mono B6.out.size))
    have Cd7 := Lib.hid (Cd6.out.below b)
    have Dr7 := Lib.hid (Dr6.out.below b)
    have OL7 := Lib.hid (own_below OL6.out b)
    have X7 := Lib.hid (X6.out.below b X6.out.lt)
    have OH7 := Lib.hid (own_below OH6.out b)
    have OG7 := Lib.hid (own_below OG6.out b)
    have OD7 := Lib.hid (own)
    clear b B6 Cd6 Dr6 OL6 X6 OH6 OG6
    clear own
    obtain ⟨q0, q1, q2, q3⟩ := cells_4 X7.out
    go_wp2_with fail
    refine (SD.out _ OL7.out).mono ?_
    rintro e w8 ⟨v, rfl, own, b⟩
    clear q0 q1 q2 q3 SD
    obtain ⟨AE, cE, rfl, _⟩ := own_shape own
    have B8 := Lib.hid (B7.out.trans (b.mono B7.out.size))
    have Cd8 := Lib.hid (Cd7.out.below b)
    have Dr8 := Lib.hid (Dr7.out.below b)
    have OL8 := Lib.hid (own_below OL7.out b)
    have X8 := Lib.hid (X7.out.below b X7.out.lt)
    have OH8 := Lib.hid (own_below OH7.out b)
    have OG8 := Lib.hid (own_below OG7.out b)
    have OD8 := Lib.hid (own_below OD7.out b)
    have OE8 := Lib.hid (own)
    clear b B7 Cd7 Dr7 OL7 X7 OH7 OG7 OD7
    clear own
    obtain ⟨q0, q1, q2, q3⟩ := cells_4 X8.out
    go_wp2_with fail
    refine (IQ.out _ OL8.out Dr8.out).mono ?_
    rintro e w9 ⟨rfl, b⟩
    clear q0 q1 q2 q3 IQ
    have B9 := Lib.hid (B8.out.trans (b.mono B8.out.size))
    have Cd9 := Lib.hid (Cd8.out.below b)
    have Dr9 := Lib.hid (Dr8.out.below b)
    have OL9 := Lib.hid (own_below OL8.out b)
    have X9 := Lib.hid (X8.out.below b X8.out.lt)
    have OH9 := Lib.hid (own_below OH8.out b)
    have OG9 := Lib.hid (own_below OG8.out b)
    have OD9 := Lib.hid (own_below OD8.out b)
    have OE9 := Lib.hid (own_below OE8.out b)
    clear b B8 Cd8 Dr8 OL8 X8 OH8 OG8 OD8 OE8
    obtain ⟨q0, q1, q2, q3⟩ := cells_4 X9.out
    go_wp2_with fail
    refine (SQ.out _ OL9.out).mono ?_
    rintro e w10 ⟨rfl, b⟩
    clear q0 q1 q2 q3 SQ
    have B10 := Lib.hid (B9.out.trans (b.mono B9.out.size))
    have Cd10 := Lib.hid (Cd9.out.below b)
    have Dr10 := Lib.hid (Dr9.out.below b)
    have OL10 := Lib.hid (own_below OL9.out b)
    have X10 := Lib.hid (X9.out.below b X9.out.lt)
    have OH10 := Lib.hid (own_below OH9.out b)
    have OG10 := Lib.hid (own_below OG9.out b)
    have OD10 := Lib.hid (own_below OD9.out b)
    have OE10 := Lib.hid (own_below OE9.out b)
    clear b B9 Cd9 Dr9 OL9 X9 OH9 OG9 OD9 OE9
    clear OL10
    clear Cd10
    clear Dr10
    go_wp2_with fail
    refine (likeInts_same H (by omega) AH AG cH cG _ (Reads.of_own OH10.out) (Reads.of_own OG10.out)).mono ?_
    rintro e w11 ⟨rfl, b⟩
    have B11 := Lib.hid (B10.out.trans (b.mono B10.out.size))
    have X11 := Lib.hid (X10.out.below b X10.out.lt)
    have OH11 := Lib.hid (own_below OH10.out b)
    have OG11 := Lib.hid (own_below OG10.out b)
    have OD11 := Lib.hid (own_below OD10.out b)
    have OE11 := Lib.hid (own_below OE10.out b)
    clear b B10 X10 OH10 OG10 OD10 OE10
    clear OG11
    go_wp2_with fail
    refine (likeInts_same D (by omega) AD AE cD cE _ (Reads.of_own OD11.out) (Reads.of_own OE11.out)).mono ?_
    rintro e w12 ⟨rfl, b⟩
    have B12 := Lib.hid (B11.out.trans (b.mono B11.out.size))
    have X12 := Lib.hid (X11.out.below b X11.out.lt)
    have OH12 := Lib.hid (own_below OH11.out b)
    have OD12 := Lib.hid (own_below OD11.out b)
    have OE12 := Lib.hid (own_below OE11.out b)
    clear b B11 X11 OH11 OD11 OE11
    clear OE12
    by_cases hcd : code = 0
    rotate_left
    · have hcd1 : (code != 0) = true := by simpa using hcd
      clear P1 P2 P3 HQ
      go_wp2_with fail
      go_ret
      exact ⟨rfl, B12.out⟩
    subst hcd
    have P2' := Lib.hid (P2.out rfl); have P3' := Lib.hid (P3.out rfl)
    clear P2 P3 HQ
    obtain ⟨q0, q1, q2, q3⟩ := cells_4 X12.out
    have fx := q0
    clear q0 q1 q2 q3
    have X0 := Lib.hid (X12.out)
    clear fx
    go_wp2_with fail
    go_loopw [22] (fun v22 wr => ∃ k : Nat, k ≤ D.length ∧ Hid (Below w12.heap.size w12 wr) ∧ v22 = .int .i64 (k : Int)) (fun v _ => D.length - (intOf v).toNat)
    case atStart => exact ⟨0, by omega, Below.refl _ _, rfl⟩
    case round =>
      obtain ⟨k, hk, BW, rfl⟩ := hrel
      have OH := Lib.hid (own_below OH12.out BW.out); have OD := Lib.hid (own_below OD12.out BW.out)
      by_cases hlt : k < D.length
      · obtain ⟨ab, ao, rfl, hadb, hcell⟩ := (Reads.of_own OD.out).2 (by omega)
        have c0 := hcell _ _ (inC_num D k hlt)
        have HI := Lib.hid (hasInt_any H D[k] (by omega) AH cH wr (Reads.of_own OH.out))
        rw [inB'_iff.2 (P1.out _ (List.getElem_mem hlt))] at HI
        clear hcell
        generalize D[k] = x at c0 HI
        have k1 : (0 : Int) ≤ (k : Int) := by omega
        have k2 : (k : Int) < (D.length : Int) := by omega
        go_wp2_with fail
        refine HI.out.mono ?_
        rintro e w3 ⟨rfl, b⟩
        have B3 := Lib.hid (BW.out.trans (b.mono BW.out.size))
        clear b c0
        go_wp2_with fail
        go_roundw
        case rel => exact ⟨k + 1, by omega, B3.out, by go_num⟩
        case measure => simp [intOf]; omega
      · obtain rfl : k = D.length := by omega
        have BB := Lib.hid (B12.out.trans (BW.out.mono B12.out.size))
        obtain ⟨q0, q1, q2, q3⟩ := cells_4 (X0.out.below BW.out X0.out.lt)
        clear OH OD P1
        generalize H.length = hn at *
        generalize D.length = dn at *
        have hP2 := P2'.out
        have hP3 := P3'.out
        clear P2' P3'
        cases ad
        · have hne : ¬ hn = dn := by simpa using hP2
          have hne1 : ((hn : Int) == (dn : Int)) = false := by simp; omega
          have h3 := hP3.2 rfl
          clear hP2 hP3 hne
          rcases h3 with rfl | ⟨rfl, hq⟩
          · go_wp2_with fail
            go_ret
            exact ⟨rfl, BB.out⟩
          · have hq1 : (qs.toList == tx.toList) = false := by rw [str_eq]; simpa using hq
            clear hq
            go_wp2_with fail
            go_ret
            exact ⟨rfl, BB.out⟩
        · have he : hn = dn := by simpa using hP2
          have h3 := hP3.1 rfl
          injection h3 with e1 e2
          subst he e1 e2
          clear hP2 hP3
          go_wp2_with fail
          go_ret
          exact ⟨rfl, BB.out⟩
end Go.Proofs.YtihhpmhigmegjaaGreatDoor
