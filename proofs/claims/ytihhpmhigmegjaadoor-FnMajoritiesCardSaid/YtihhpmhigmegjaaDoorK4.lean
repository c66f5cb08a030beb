/- CastBallot of the program. -/
import Derived.Test.YtihhpmhigmegjaaDoorRows
import Derived.Test.YtihhpmhigmegjaaDoorL0
import Derived.Test.YtihhpmhigmegjaaDoorM0
import Derived.WalkKit
import Derived.ProofKit
import Derived.OpenShut
import Derived.BigQuiet
import Derived.Outline
import Derived.WalkSpells
import Derived.WalkLawsBesides
import Derived.Deep.DeepCutAuto
import Derived.Test.YtihhpmhigmegjaaDoorK3
namespace Go.Proofs.YtihhpmhigmegjaaDoor
open Go.ChangeShapes Go.WideShapes Go.ChangeAt Go.RowKit Go.Sort

theorem insert_any (xs : List Bal) (hn : xs.length ≤ 10) (i : Nat) (hi : i ≤ xs.length) (y : Bal) (base : Nat) (OV : Option Addr) (cap vb : Nat) (w : World) (hown : w.ownsRow base 32 3 (.slice OV xs.length cap) xs.length (baC xs)) (hb : base ≤ w.heap.size) (hv : Blk w vb 32 y.cells.toArray) (hne : ∀ k, (Value.slice OV xs.length cap).ownBlock = some k → vb ≠ k) :
    Calls Tryd.prog 43 #[.slice OV xs.length cap, .int .i64 i, .slice (some ⟨vb, 0, none⟩) 1 1] w fun e w' => ∃ v, e = .returned v ∧ w'.ownsRow base 32 3 v (xs.length + 1) (baC (insB xs i y)) ∧ Below base w w' := by
  by_cases he : i = xs.length
  · subst he
    exact insert_end xs hn y base OV cap vb w hown hb hv
  · rcases hown.2 with ⟨h0, h1⟩ | ⟨g, c, cur, hvv, hbg, hh, hnc, hcm, hsz, htk⟩
    · omega
    · simp only [Value.slice.injEq, true_and] at hvv
      obtain ⟨rfl, rfl⟩ := hvv
      by_cases hc : cap = xs.length
      · subst hc
        exact insert_grow xs hn i (by omega) y base g vb w hown hb hv
      · exact insert_room xs hn i (by omega) y base g cap cur vb w hbg hh (by omega) hcm hsz htk hv (hne g rfl)
/-- The ballots with a further one; the error. -/
def castN (xs : List Bal) (y : Bal) : List Bal := if fndB xs y.name = true then xs.set (posB xs y.name) y else insB xs (posB xs y.name) y
def castL (xs : List Bal) (y : Bal) : List Bal := if areB xs = true then (if areB (castN xs y) = true then castN xs y else []) else []
def castC (xs : List Bal) (y : Bal) : Int := if areB xs = true then (if areB (castN xs y) = true then 0 else 5) else 1
theorem pos_le (xs : List Bal) (s : ByteArray) : posB xs s ≤ xs.length := by unfold posB; exact List.Sublist.length_le (List.takeWhile_sublist _)
theorem castN_mem {xs : List Bal} {y b : Bal} (h : b ∈ castN xs y) : b ∈ xs ∨ b = y := by
  unfold castN at h
  split at h
  · exact List.mem_or_eq_of_mem_set h
  · rw [insB, List.mem_append, List.mem_cons] at h
    rcases h with h | h | h
    · exact .inl (List.mem_of_mem_take h)
    · exact .inr h
    · exact .inl (List.mem_of_mem_drop h)
theorem baC_set3 (xs : List Bal) (i : Nat) (y : Bal) (h : i < xs.length) : baC (xs.set i y) = (((baC xs).set (i * 3) (.string y.name)).set (i * 3 + 1) (.int .i64 y.choice)).set (i * 3 + 2) (.int .i64 y.weight) := by
  induction xs generalizing i with
  | nil => simp at h
  | cons x r ih =>
    cases i with
    | zero => simp [baC_cons]
    | succ i =>
      have := ih i (by simpa using h)
      rw [show (i + 1) * 3 = i * 3 + 1 + 1 + 1 by omega, show i * 3 + 1 + 1 + 1 + 1 = i * 3 + 1 + 1 + 1 + 1 from rfl, show i * 3 + 1 + 1 + 1 + 2 = i * 3 + 2 + 1 + 1 + 1 by omega]
      simp [baC_cons, this]
set_option maxRecDepth 100000 in
set_option maxHeartbeats 4000000 in
theorem implCast_any (xs : List Bal) (y : Bal) (hy : y.name.size ≤ 9223372036854775807) (A : Option Addr) (c : Nat) (hA : A = none → c = 0) (w : World) (h : HasBal w xs A) :
    Calls Tryd.prog 12 #[.slice A xs.length c, y.val] w fun e w' => ∃ v, e = .returned (.tuple #[v, .int .i64 (castC xs y)]) ∧ w'.ownsRow w.heap.size 32 3 v (castL xs y).length (baC (castL xs y)) ∧ Below w.heap.size w w' := by
  have H := Lib.hid h; clear h
  have HC := Lib.hid (show castC xs y = if areB xs = true then (if areB (castN xs y) = true then 0 else 5) else 1 from rfl)
  have HL := Lib.hid (show castL xs y = if areB xs = true then (if areB (castN xs y) = true then castN xs y else []) else [] from rfl)
  have HM := Lib.hid (fun b (h : b ∈ castN xs y) => (show b.name.size ≤ 9223372036854775807 from (castN_mem h).elim (fun h => H.out.2.2 b h) (fun h => by rw [h]; exact hy)))
  have HN := Lib.hid (show castN xs y = if fndB xs y.name = true then xs.set (posB xs y.name) y else insB xs (posB xs y.name) y from rfl)
  have HP := Lib.hid (pos_le xs y.name)
  have HFn := Lib.hid (show fndB xs y.name = true → posB xs y.name < xs.length from fun h => by unfold fndB at h; simp at h; exact h.1)
  have HS := Lib.hid (fun ha A c w hr => search_any xs ha y A c w hr)
  have HI := Lib.hid (fun hn base OV cap vb w ho hb hv hne => insert_any xs hn (posB xs y.name) (pos_le _ _) y base OV cap vb w ho hb hv hne)
  have HB3 := Lib.hid (fun i h => baC_set3 xs i y h)
  generalize castC xs y = cc at HC ⊢
  generalize castL xs y = cl at HL ⊢
  generalize castN xs y = cn at HC HL HM HN
  generalize posB xs y.name = ps at HN HP HFn HS HI
  generalize fndB xs y.name = fd at HN HFn HS
  obtain ⟨n, ch, wt⟩ := y
  unfold Bal.val at HS ⊢
  unfold Bal.cells at HI
  dsimp only at HS HI HB3 ⊢
  have KN := Lib.hid (blks_one w 32 #[.string n, .int .i64 ch, .int .i64 wt])
  cases ha : areB xs
  · rw [ha] at HC HL
    have HA := Lib.hid ha; clear ha
    go_enter Tryd.func12, Tryd.ntmps12
    go_wp2_with fail
    generalize hW : w.alloc (.cells #[.string n, .int .i64 ch, .int .i64 wt] 32) = W
    obtain ⟨bk, bw, _⟩ := KN.out W hW.symm
    clear hW
    have H1 := H.out.below bw
    refine (implAre_any xs _ _ _ H1.1 H1.2.1 H1.2.2).mono ?_; rw [HA.out]; rintro e w1 ⟨rfl, b1⟩
    go_wp2_with fail
    go_ret2
    exact ⟨_, by rw [HC.out]; rfl, by rw [HL.out]; exact World.ownsRow_nil _ _ _ _, bw.trans (b1.mono bw.size)⟩
  · rw [ha] at HC HL
    have hm := (fits_of ha).1.1
    have HA := Lib.hid ha; clear ha
    go_enter Tryd.func12, Tryd.ntmps12
    go_wp2_with fail
    generalize hW : w.alloc (.cells #[.string n, .int .i64 ch, .int .i64 wt] 32) = W
    obtain ⟨bk, bw, hwz⟩ := KN.out W hW.symm
    clear hW
    have H1 := H.out.below bw
    refine (implAre_any xs _ _ _ H1.1 H1.2.1 H1.2.2).mono ?_; rw [HA.out]; rintro e w1 ⟨rfl, b1⟩
    have B1 := Lib.hid (bw.trans (b1.mono bw.size)); have K1 := Lib.hid (bk.below b1 bk.lt)
    have hz1 := K1.out.lt
    clear b1 bk bw H1
    go_wp2_with fail
    refine (clone_bal A xs.length c (baC xs) w1 (H.out.below B1.out).1 (baC_one xs) (by omega) hA).mono ?_; rintro e w2 ⟨v, rfl, own, b2⟩
    obtain ⟨OV, cap, rfl, _⟩ := own_shape own
    have B2 := Lib.hid (B1.out.trans (b2.mono B1.out.size)); have K2 := Lib.hid (K1.out.below b2 K1.out.lt)
    have O2 := Lib.hid own
    have hz12 := b2.size
    clear own b2
    obtain ⟨k0, k1, k2⟩ := cells_3 K2.out
    go_wp2_with fail
    refine (HS.out HA.out OV cap w2 (Reads.of_own O2.out)).mono ?_; rintro e w3 ⟨rfl, b3⟩
    have B3 := Lib.hid (B2.out.trans (b3.mono B2.out.size)); have K3 := Lib.hid (K2.out.below b3 K2.out.lt); have O3 := Lib.hid (own_below O2.out b3)
    have hzz := Lib.hid (show w1.heap.size ≤ w3.heap.size from Nat.le_trans hz12 b3.size)
    clear b3 k0 k1 k2
    obtain ⟨k0, k1, k2⟩ := cells_3 K3.out
    cases fd
    · rw [if_neg (by decide)] at HN
      have HLn := Lib.hid (show cn.length = xs.length + 1 by rw [HN.out, insB_len HP.out])
      have hno : ∀ k, (Value.slice OV xs.length cap).ownBlock = some k → w3.heap.size ≠ k := fun k hk => by have := own_lt O3.out k hk; omega
      have VB := Blk.new w3 32 #[.string n, .int .i64 ch, .int .i64 wt]
      have BA := (Below.refl w3.heap.size w3).alloc (Nat.le_refl _) (.cells #[.string n, .int .i64 ch, .int .i64 wt] 32)
      have IN := Lib.hid (HI.out hm w1.heap.size OV cap w3.heap.size (w3.alloc (.cells #[.string n, .int .i64 ch, .int .i64 wt] 32)) (O3.out.alloc _) (by have := own_lt O3.out; have := B2.out.size; have := BA.size; have z := hzz.out; omega) VB hno)
      have BA' := Lib.hid (B3.out.trans (BA.mono B3.out.size))
      clear VB BA hno
      go_wp2_with fail
      refine IN.out.mono ?_; rintro e w4 ⟨v4, rfl, own4, b4⟩
      obtain ⟨A4, c4, rfl, _⟩ := own_shape own4
      have O4 := Lib.hid (show w4.ownsRow w1.heap.size 32 3 (.slice A4 (xs.length + 1) c4) (xs.length + 1) (baC cn) by rw [HN.out]; exact own4)
      have B4 := Lib.hid (BA'.out.trans (b4.mono B1.out.size))
      clear own4 b4
      go_wp2_with fail
      have DI := implAre_any cn A4 c4 w4 (Reads.of_own (by rw [HLn.out]; exact O4.out)) (by rw [HLn.out]; omega) HM.out
      rw [HLn.out] at DI
      cases hcn : areB cn
      all_goals
        rw [hcn] at HC HL DI
        clear hcn
        refine DI.mono ?_; clear DI; rintro e w5 ⟨rfl, b5⟩
        have B5 := Lib.hid (B4.out.trans (b5.mono B4.out.size)); have O5 := Lib.hid (own_below O4.out b5)
        clear b5
        go_wp2_with fail
        go_ret2
      · exact ⟨_, by rw [HC.out]; rfl, by rw [HL.out]; exact World.ownsRow_nil _ _ _ _, B5.out⟩
      · exact ⟨_, by rw [HC.out]; rfl, by rw [show cl = cn by rw [HL.out]; simp, HLn.out]; exact own_mono O5.out B1.out.size, B5.out⟩
    · rw [if_pos rfl] at HN
      have hps := HFn.out rfl
      have HLn := Lib.hid (show cn.length = xs.length by rw [HN.out, List.length_set])
      obtain ⟨g, cap', hv, hbg, hgl⟩ := O3.out.form (by omega)
      simp only [Value.slice.injEq, true_and] at hv
      obtain ⟨rfl, rfl⟩ := hv
      have hlen : (baC xs).length = xs.length * 3 := baC_len xs
      have q0 := O3.out.cellAt (ps * 3) (by omega)
      rw [List.getElem?_eq_getElem (by omega)] at q0
      have q1 := O3.out.cellAt (ps * 3 + 1) (by omega)
      rw [List.getElem?_eq_getElem (by omega)] at q1
      have q2 := O3.out.cellAt (ps * 3 + 2) (by omega)
      rw [List.getElem?_eq_getElem (by omega)] at q2
      have f0 := O3.out.frozenAt (ps * 3)
      have f1 := O3.out.frozenAt (ps * 3 + 1)
      have f2 := O3.out.frozenAt (ps * 3 + 2)
      have s1 := O3.out.stored (ps * 3) (.string n)
      have s2 := s1.1.stored (ps * 3 + 1) (.int .i64 ch)
      have s3 := s2.1.stored (ps * 3 + 2) (.int .i64 wt)
      have O4' := s3.1
      rw [← HB3.out ps hps] at O4'
      have B4' := Lib.hid (((B3.out.setCell (p := ⟨g, ps * 3, none⟩) (Nat.le_trans B1.out.size hbg) (.string n)).setCell (p := ⟨g, ps * 3 + 1, none⟩) (Nat.le_trans B1.out.size hbg) (.int .i64 ch)).setCell (p := ⟨g, ps * 3 + 2, none⟩) (Nat.le_trans B1.out.size hbg) (.int .i64 wt))
      have O4'' := Lib.hid O4'
      generalize (baC xs)[ps * 3]'(by omega) = u0 at q0
      generalize (baC xs)[ps * 3 + 1]'(by omega) = u1 at q1
      generalize (baC xs)[ps * 3 + 2]'(by omega) = u2 at q2
      clear s1 s2 s3 O4'
      have zp : (ps : Int) < (xs.length : Int) := by omega
      have zq : (0 : Int) ≤ (ps : Int) := by omega
      go_wp2_with fail
      generalize ((w3.setCell ⟨g, ps * 3, none⟩ (.string n)).setCell ⟨g, ps * 3 + 1, none⟩ (.int .i64 ch)).setCell ⟨g, ps * 3 + 2, none⟩ (.int .i64 wt) = w4 at O4'' B4' ⊢
      have O4 := Lib.hid (show w4.ownsRow w1.heap.size 32 3 (.slice (some ⟨g, 0, none⟩) xs.length cap) xs.length (baC cn) by rw [HN.out]; exact O4''.out)
      have B4 := B4'
      have DI := implAre_any cn (some ⟨g, 0, none⟩) cap w4 (Reads.of_own (by rw [HLn.out]; exact O4.out)) (by rw [HLn.out]; omega) HM.out
      rw [HLn.out] at DI
      cases hcn : areB cn
      all_goals
        rw [hcn] at HC HL DI
        clear hcn
        refine DI.mono ?_; clear DI; rintro e w5 ⟨rfl, b5⟩
        have B5 := Lib.hid (B4.out.trans (b5.mono B4.out.size)); have O5 := Lib.hid (own_below O4.out b5)
        clear b5
        go_wp2_with fail
        go_ret2
      · exact ⟨_, by rw [HC.out]; rfl, by rw [HL.out]; exact World.ownsRow_nil _ _ _ _, B5.out⟩
      · exact ⟨_, by rw [HC.out]; rfl, by rw [show cl = cn by rw [HL.out]; simp, HLn.out]; exact own_mono O5.out B1.out.size, B5.out⟩
end Go.Proofs.YtihhpmhigmegjaaDoor
