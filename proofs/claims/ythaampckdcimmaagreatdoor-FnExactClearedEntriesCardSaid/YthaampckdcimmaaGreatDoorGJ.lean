/- HomonymsOf, IsAdmitted and Displaced of the program. -/
import Derived.Test.YthaampckdcimmaaGreatDoorRows
import Derived.Test.YthaampckdcimmaaGreatDoorL0
import Derived.Test.YthaampckdcimmaaGreatDoorM0
import Derived.WalkKit
import Derived.ProofKit
import Derived.OpenShut
import Derived.BigQuiet
import Derived.Outline
import Derived.WalkSpells
import Derived.WalkLawsBesides
import Derived.Deep.DeepCutAuto
import Derived.Test.YthaampckdcimmaaGreatDoorGI
import Derived.Test.YthaampckdcimmaaGreatDoorGD
import Derived.Test.YthaampckdcimmaaGreatDoorGF
import Derived.Test.YthaampckdcimmaaGreatDoorGG
import Derived.Laws.EntriesVeiled
namespace Go.Proofs.YthaampckdcimmaaGreatDoor
open Go.ChangeShapes Go.WideShapes Go.ChangeAt Go.RowKit Go.Sort

theorem all1_any (f : Ent) (w : World) : Calls Tryz.prog 43 #[f.val] w fun e w' => e = .returned (.bool true) ∧ Below w.heap.size w w' := by
  unfold Ent.val
  go_enter Tryz.func43, Tryz.ntmps43
  go_wp2_with fail
  go_ret
  exact ⟨rfl, by (repeat (first | exact Below.refl _ _ | assumption | refine Below.drew ?_ | refine below_drewN' ?_ _ | refine Below.alloc ?_ (by (try simp); (try omega)) _ | refine Below.setCell ?_ (by (try simp); (try omega)) _))⟩
theorem bar1_any (f b : Ent) (g : Nat) (w : World) (hb : Blk w g 28 #[.string b.text, .int .i64 b.x, .int .i64 b.y, .int .i64 b.since]) : Calls Tryz.prog 79 #[f.val, .pointer (some ⟨g, 0, none⟩)] w fun e w' => e = .returned (.bool (decide (cmpE f b ≤ 0))) ∧ Below w.heap.size w w' := by
  have HC := Lib.hid (implCmpE_any f b)
  have KN := Lib.hid (blks_one w 28 #[.string f.text, .int .i64 f.x, .int .i64 f.y, .int .i64 f.since])
  have HB := Lib.hid hb; clear hb
  unfold Ent.val at HC ⊢
  generalize cmpE f b = q at *
  go_enter Tryz.func79, Tryz.ntmps79
  go_upto_region 1 with (fail)
  generalize hW : w.alloc (.cells #[.string f.text, .int .i64 f.x, .int .i64 f.y, .int .i64 f.since] 28) = W
  obtain ⟨kf, bw, hsz⟩ := KN.out W hW.symm
  clear hW hsz
  obtain ⟨x0, x1, x2, x3⟩ := cells_4 kf
  obtain ⟨y0, y1, y2, y3⟩ := cells_4 (HB.out.below bw HB.out.lt)
  have BW := Lib.hid bw; clear bw kf
  go_wp2_with fail
  refine (HC.out _).mono ?_; rintro e w1 ⟨rfl, b1⟩
  go_wp2_with fail
  go_ret
  exact ⟨rfl, BW.out.trans (b1.mono BW.out.size)⟩
theorem dis1_any (f b : Ent) (g : Nat) (w : World) (hb : Blk w g 28 #[.string b.text, .int .i64 b.x, .int .i64 b.y, .int .i64 b.since]) : Calls Tryz.prog 48 #[f.val, .pointer (some ⟨g, 0, none⟩)] w fun e w' => e = .returned (.bool (decide (cmpE b f < 0))) ∧ Below w.heap.size w w' := by
  have HC := Lib.hid (implCmpE_any b f)
  have KN := Lib.hid (blks_one w 28 #[.string f.text, .int .i64 f.x, .int .i64 f.y, .int .i64 f.since])
  have HB := Lib.hid hb; clear hb
  unfold Ent.val at HC ⊢
  generalize cmpE b f = q at *
  go_enter Tryz.func48, Tryz.ntmps48
  go_upto_region 1 with (fail)
  generalize hW : w.alloc (.cells #[.string f.text, .int .i64 f.x, .int .i64 f.y, .int .i64 f.since] 28) = W
  obtain ⟨kf, bw, hsz⟩ := KN.out W hW.symm
  clear hW hsz
  obtain ⟨x0, x1, x2, x3⟩ := cells_4 kf
  obtain ⟨y0, y1, y2, y3⟩ := cells_4 (HB.out.below bw HB.out.lt)
  have BW := Lib.hid bw; clear bw kf
  go_wp2_with fail
  refine (HC.out _).mono ?_; rintro e w1 ⟨rfl, b1⟩
  go_wp2_with fail
  go_ret
  exact ⟨rfl, BW.out.trans (b1.mono BW.out.size)⟩
set_option maxRecDepth 100000 in
set_option maxHeartbeats 2000000 in
theorem barring_any (xs : List Ent) (b : Ent) (dist : Int) (hx : ∀ f ∈ xs, entB f = true) (hb : entB b = true) (hd : 0 ≤ dist ∧ dist ≤ 4000) (A : Option Addr) (c : Nat) (w : World) (h : HasEnt w xs A) (hm : xs.length ≤ 12) :
    Calls Tryz.prog 46 #[.slice A xs.length c, b.val, .int .i64 dist] w fun e w' => ∃ v, e = .returned v ∧ w'.ownsRow w.heap.size 2 1 v (whichE xs (pBar b dist)).length (inC (whichE xs (pBar b dist))) ∧ Below w.heap.size w w' := by
  have hmf : ∀ (fn : Fn) (first cap : Array Value) (w : World), (Instr.makeFunc fn first cap).run Tryz.prog w = .ok (.func fn first cap) w := fun _ _ _ _ => rfl
  have HH := Lib.hid (fun (g : Nat) W (hb' : Below w.heap.size w W) (hk : Blk W g 28 #[.string b.text, .int .i64 b.x, .int .i64 b.y, .int .i64 b.since]) => homBar_any (fun f => decide (cmpE f b ≤ 0)) xs b dist hx hb hd g A c W (h.below hb') hm (fun f _ W' hb2 => bar1_any f b g W' (hk.below hb2 hk.lt)))
  have KN := Lib.hid (blks_one w 28 #[.string b.text, .int .i64 b.x, .int .i64 b.y, .int .i64 b.since])
  clear hx hb hd h
  change Hid (∀ (g : Nat) W, Below w.heap.size w W → _ → Calls Tryz.prog _ _ _ _) at HH
  have HE : (fun f => homB b f dist && decide (cmpE f b ≤ 0)) = pBar b dist := rfl
  rw [HE] at HH
  clear HE
  generalize whichE xs (pBar b dist) = LL at *
  unfold Ent.val at HH ⊢
  go_enter Tryz.func46, Tryz.ntmps46
  go_upto_region 1 with (fail)
  generalize hW : w.alloc (.cells #[.string b.text, .int .i64 b.x, .int .i64 b.y, .int .i64 b.since] 28) = W
  obtain ⟨kb, bw, hsz⟩ := KN.out W hW.symm
  clear hW hsz
  obtain ⟨x0, x1, x2, x3⟩ := cells_4 kb
  have KB := Lib.hid kb; have BW := Lib.hid bw; clear kb bw
  go_wp2_with fail
  refine (HH.out _ W BW.out KB.out).mono ?_; rintro e w1 ⟨v, rfl, own1, b1⟩
  have O1 := Lib.hid own1; have B1 := Lib.hid b1; clear own1 b1
  go_wp2_with fail
  go_ret
  exact ⟨_, rfl, own_mono O1.out BW.out.size, BW.out.trans (B1.out.mono BW.out.size)⟩
set_option maxRecDepth 100000 in
set_option maxHeartbeats 2000000 in
theorem implHomL_any (xs : List Ent) (b : Ent) (dist : Int) (hs : ∀ b ∈ xs, b.text.size ≤ 1048576) (hb : b.text.size ≤ 1048576) (A : Option Addr) (c : Nat) (w : World) (h : HasEnt w xs A) :
    Calls Tryz.prog 8 #[.slice A xs.length c, b.val, .int .i64 dist] w fun e w' => ∃ v, e = .returned (.tuple #[v, .int .i64 (codeE xs (entB b) dist)]) ∧ w'.ownsRow w.heap.size 2 1 v (rowE xs b dist (pAll b dist)).length (inC (rowE xs b dist (pAll b dist))) ∧ Below w.heap.size w w' := by
  have hmf : ∀ (fn : Fn) (first cap : Array Value) (w : World), (Instr.makeFunc fn first cap).run Tryz.prog w = .ok (.func fn first cap) w := fun _ _ _ _ => rfl
  have HI := Lib.hid (implEnt_any b hb)
  have HC0 := Lib.hid (fun W (hb' : Below w.heap.size w W) => implCodeE_any xs (entB b) dist A c W (h.below hb') hs)
  have KN := Lib.hid (blks_one w 28 #[.string b.text, .int .i64 b.x, .int .i64 b.y, .int .i64 b.since])
  by_cases hz : codeE xs (entB b) dist = 0
  · obtain ⟨hx, hm, hb1, hd⟩ := codeE_zero hz
    have HH := Lib.hid (fun W (hb' : Below w.heap.size w W) => homAll_any (fun _ => true) xs b dist hx hb1 hd A c W (h.below hb') hm (fun f _ W' _ => all1_any f W'))
    have HE := Lib.hid (show rowE xs b dist (pAll b dist) = whichE xs (fun f => homB b f dist && true) by rw [rowE, if_pos hz]; rfl)
    generalize rowE xs b dist (pAll b dist) = LL at HE ⊢
    have HE2 := HE.out
    rw [← HE2] at HH
    clear HE2
    rw [hz] at HC0 ⊢
    rw [hb1] at HC0 HI
    clear hb1
    clear hz hx hd hs h HE hb
    unfold Ent.val at HH HI ⊢
    go_enter Tryz.func8, Tryz.ntmps8
    go_wp2_with fail
    generalize hW : w.alloc (.cells #[.string b.text, .int .i64 b.x, .int .i64 b.y, .int .i64 b.since] 28) = W
    obtain ⟨kb, bw, hsz⟩ := KN.out W hW.symm
    clear hW hsz
    refine (HI.out W).mono ?_; rintro e w1 ⟨rfl, b1⟩
    have KB := Lib.hid (kb.below b1 kb.lt); have B1 := Lib.hid (bw.trans (b1.mono bw.size)); clear kb bw b1
    go_wp2_with fail
    refine (HC0.out w1 B1.out).mono ?_; rintro e w2 ⟨rfl, b2⟩
    have KB2 := Lib.hid (KB.out.below b2 KB.out.lt); have B2 := Lib.hid (B1.out.trans (b2.mono B1.out.size)); clear b2
    obtain ⟨x0, x1, x2, x3⟩ := cells_4 KB2.out
    go_wp2_with fail
    refine (HH.out w2 B2.out).mono ?_; rintro e w3 ⟨v, rfl, own3, b3⟩
    have O3 := Lib.hid own3; have B3 := Lib.hid b3; clear own3 b3
    go_wp2_with fail
    go_ret2
    exact ⟨_, rfl, own_mono O3.out B2.out.size, B2.out.trans (B3.out.mono B2.out.size)⟩
  · have HE := Lib.hid (show rowE xs b dist (pAll b dist) = [] by rw [rowE, if_neg hz])
    generalize rowE xs b dist (pAll b dist) = LL at HE ⊢
    generalize entB b = ok at *
    generalize codeE xs ok dist = cz at HC0 hz ⊢
    have hne : (cz != 0) = true := by rw [bne_iff_ne]; exact hz
    clear hz hs h hb
    unfold Ent.val at HI ⊢
    go_enter Tryz.func8, Tryz.ntmps8
    go_wp2_with fail
    generalize hW : w.alloc (.cells #[.string b.text, .int .i64 b.x, .int .i64 b.y, .int .i64 b.since] 28) = W
    obtain ⟨kb, bw, hsz⟩ := KN.out W hW.symm
    clear hW hsz
    refine (HI.out W).mono ?_; rintro e w1 ⟨rfl, b1⟩
    have B1 := Lib.hid (bw.trans (b1.mono bw.size)); clear kb bw b1
    go_wp2_with fail
    refine (HC0.out w1 B1.out).mono ?_; rintro e w2 ⟨rfl, b2⟩
    go_wp2_with fail
    go_ret2
    exact ⟨_, rfl, by rw [HE.out]; exact World.ownsRow_nil _ _ _ _, B1.out.trans (b2.mono B1.out.size)⟩
set_option maxRecDepth 100000 in
set_option maxHeartbeats 2000000 in
theorem implDis_any (xs : List Ent) (b : Ent) (dist : Int) (hs : ∀ b ∈ xs, b.text.size ≤ 1048576) (hb : b.text.size ≤ 1048576) (A : Option Addr) (c : Nat) (w : World) (h : HasEnt w xs A) :
    Calls Tryz.prog 12 #[.slice A xs.length c, b.val, .int .i64 dist] w fun e w' => ∃ v, e = .returned (.tuple #[v, .int .i64 (codeE xs (entB b) dist)]) ∧ w'.ownsRow w.heap.size 2 1 v (rowE xs b dist (pDis b dist)).length (inC (rowE xs b dist (pDis b dist))) ∧ Below w.heap.size w w' := by
  have hmf : ∀ (fn : Fn) (first cap : Array Value) (w : World), (Instr.makeFunc fn first cap).run Tryz.prog w = .ok (.func fn first cap) w := fun _ _ _ _ => rfl
  have HI := Lib.hid (implEnt_any b hb)
  have HC0 := Lib.hid (fun W (hb' : Below w.heap.size w W) => implCodeE_any xs (entB b) dist A c W (h.below hb') hs)
  have KN := Lib.hid (blks_one w 28 #[.string b.text, .int .i64 b.x, .int .i64 b.y, .int .i64 b.since])
  by_cases hz : codeE xs (entB b) dist = 0
  · obtain ⟨hx, hm, hb1, hd⟩ := codeE_zero hz
    have HH := Lib.hid (fun (g : Nat) W (hb' : Below w.heap.size w W) (hk : Blk W g 28 #[.string b.text, .int .i64 b.x, .int .i64 b.y, .int .i64 b.since]) => homDis_any (fun f => decide (cmpE b f < 0)) xs b dist hx hb1 hd g A c W (h.below hb') hm (fun f _ W' hb2 => dis1_any f b g W' (hk.below hb2 hk.lt)))
    have HE := Lib.hid (show rowE xs b dist (pDis b dist) = whichE xs (fun f => homB b f dist && decide (cmpE b f < 0)) by rw [rowE, if_pos hz]; rfl)
    generalize rowE xs b dist (pDis b dist) = LL at HE ⊢
    have HE2 := HE.out
    rw [← HE2] at HH
    clear HE2
    rw [hz] at HC0 ⊢
    rw [hb1] at HC0 HI
    clear hb1
    clear hz hx hd hs h HE hb
    unfold Ent.val at HH HI ⊢
    go_enter Tryz.func12, Tryz.ntmps12
    go_wp2_with fail
    generalize hW : w.alloc (.cells #[.string b.text, .int .i64 b.x, .int .i64 b.y, .int .i64 b.since] 28) = W
    obtain ⟨kb, bw, hsz⟩ := KN.out W hW.symm
    clear hW hsz
    refine (HI.out W).mono ?_; rintro e w1 ⟨rfl, b1⟩
    have KB := Lib.hid (kb.below b1 kb.lt); have B1 := Lib.hid (bw.trans (b1.mono bw.size)); clear kb bw b1
    go_wp2_with fail
    refine (HC0.out w1 B1.out).mono ?_; rintro e w2 ⟨rfl, b2⟩
    have KB2 := Lib.hid (KB.out.below b2 KB.out.lt); have B2 := Lib.hid (B1.out.trans (b2.mono B1.out.size)); clear b2
    obtain ⟨x0, x1, x2, x3⟩ := cells_4 KB2.out
    go_wp2_with fail
    refine (HH.out _ w2 B2.out KB2.out).mono ?_; rintro e w3 ⟨v, rfl, own3, b3⟩
    have O3 := Lib.hid own3; have B3 := Lib.hid b3; clear own3 b3
    go_wp2_with fail
    go_ret2
    exact ⟨_, rfl, own_mono O3.out B2.out.size, B2.out.trans (B3.out.mono B2.out.size)⟩
  · have HE := Lib.hid (show rowE xs b dist (pDis b dist) = [] by rw [rowE, if_neg hz])
    generalize rowE xs b dist (pDis b dist) = LL at HE ⊢
    generalize entB b = ok at *
    generalize codeE xs ok dist = cz at HC0 hz ⊢
    have hne : (cz != 0) = true := by rw [bne_iff_ne]; exact hz
    clear hz hs h hb
    unfold Ent.val at HI ⊢
    go_enter Tryz.func12, Tryz.ntmps12
    go_wp2_with fail
    generalize hW : w.alloc (.cells #[.string b.text, .int .i64 b.x, .int .i64 b.y, .int .i64 b.since] 28) = W
    obtain ⟨kb, bw, hsz⟩ := KN.out W hW.symm
    clear hW hsz
    refine (HI.out W).mono ?_; rintro e w1 ⟨rfl, b1⟩
    have B1 := Lib.hid (bw.trans (b1.mono bw.size)); clear kb bw b1
    go_wp2_with fail
    refine (HC0.out w1 B1.out).mono ?_; rintro e w2 ⟨rfl, b2⟩
    go_wp2_with fail
    go_ret2
    exact ⟨_, rfl, by rw [HE.out]; exact World.ownsRow_nil _ _ _ _, B1.out.trans (b2.mono B1.out.size)⟩
set_option maxRecDepth 100000 in
set_option maxHeartbeats 2000000 in
theorem implAdm_any (xs : List Ent) (b : Ent) (dist : Int) (hs : ∀ b ∈ xs, b.text.size ≤ 1048576) (hb : b.text.size ≤ 1048576) (A : Option Addr) (c : Nat) (w : World) (h : HasEnt w xs A) :
    Calls Tryz.prog 10 #[.slice A xs.length c, b.val, .int .i64 dist] w fun e w' => e = .returned (.tuple #[.bool (admB xs b dist), .int .i64 (codeE xs (entB b) dist)]) ∧ Below w.heap.size w w' := by
  have hmf : ∀ (fn : Fn) (first cap : Array Value) (w : World), (Instr.makeFunc fn first cap).run Tryz.prog w = .ok (.func fn first cap) w := fun _ _ _ _ => rfl
  have HI := Lib.hid (implEnt_any b hb)
  have HC0 := Lib.hid (fun W (hb' : Below w.heap.size w W) => implCodeE_any xs (entB b) dist A c W (h.below hb') hs)
  have KN := Lib.hid (blks_one w 28 #[.string b.text, .int .i64 b.x, .int .i64 b.y, .int .i64 b.since])
  by_cases hz : codeE xs (entB b) dist = 0
  · obtain ⟨hx, hm, hb1, hd⟩ := codeE_zero hz
    have HH := Lib.hid (fun W (hb' : Below w.heap.size w W) => barring_any xs b dist hx hb1 hd A c W (h.below hb') hm)
    have HE := Lib.hid (show admB xs b dist = decide ((whichE xs (pBar b dist)).length = 0) by rw [admB, hz, rowE, if_pos hz]; rfl)
    generalize admB xs b dist = r at HE ⊢
    have HR := HE
    generalize whichE xs (pBar b dist) = LL at HH HR HE
    rw [hz] at HC0 ⊢
    rw [hb1] at HC0 HI
    clear hb1
    clear hz hx hd hs h HE hb
    unfold Ent.val at HH HI ⊢
    go_enter Tryz.func10, Tryz.ntmps10
    go_wp2_with fail
    generalize hW : w.alloc (.cells #[.string b.text, .int .i64 b.x, .int .i64 b.y, .int .i64 b.since] 28) = W
    obtain ⟨kb, bw, hsz⟩ := KN.out W hW.symm
    clear hW hsz
    refine (HI.out W).mono ?_; rintro e w1 ⟨rfl, b1⟩
    have KB := Lib.hid (kb.below b1 kb.lt); have B1 := Lib.hid (bw.trans (b1.mono bw.size)); clear kb bw b1
    go_wp2_with fail
    refine (HC0.out w1 B1.out).mono ?_; rintro e w2 ⟨rfl, b2⟩
    have KB2 := Lib.hid (KB.out.below b2 KB.out.lt); have B2 := Lib.hid (B1.out.trans (b2.mono B1.out.size)); clear b2
    obtain ⟨x0, x1, x2, x3⟩ := cells_4 KB2.out
    go_wp2_with fail
    refine (HH.out w2 B2.out).mono ?_; rintro e w3 ⟨v, rfl, own3, b3⟩
    obtain ⟨A2, c2, rfl, _⟩ := own_shape own3
    have B3 := Lib.hid b3; clear own3 b3
    go_wp2_with fail
    go_ret2
    exact ⟨by rw [HR.out]; (first | done | rfl | (by_cases h0 : LL.length = 0 <;> simp [h0]) | (simp; omega)), B2.out.trans (B3.out.mono B2.out.size)⟩
  · have HE := Lib.hid (show admB xs b dist = false by
      have : (codeE xs (entB b) dist == 0) = false := by simpa using hz
      rw [admB, this, Bool.false_and])
    generalize admB xs b dist = r at HE ⊢
    generalize entB b = ok at *
    generalize codeE xs ok dist = cz at HC0 hz ⊢
    have hne : (cz != 0) = true := by rw [bne_iff_ne]; exact hz
    clear hz hs h hb
    unfold Ent.val at HI ⊢
    go_enter Tryz.func10, Tryz.ntmps10
    go_wp2_with fail
    generalize hW : w.alloc (.cells #[.string b.text, .int .i64 b.x, .int .i64 b.y, .int .i64 b.since] 28) = W
    obtain ⟨kb, bw, hsz⟩ := KN.out W hW.symm
    clear hW hsz
    refine (HI.out W).mono ?_; rintro e w1 ⟨rfl, b1⟩
    have B1 := Lib.hid (bw.trans (b1.mono bw.size)); clear kb bw b1
    go_wp2_with fail
    refine (HC0.out w1 B1.out).mono ?_; rintro e w2 ⟨rfl, b2⟩
    go_wp2_with fail
    go_ret2
    exact ⟨by rw [HE.out]; first | done | rfl, B1.out.trans (b2.mono B1.out.size)⟩
end Go.Proofs.YthaampckdcimmaaGreatDoor
