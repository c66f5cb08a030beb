/- CastBallot of the reference. -/
import Derived.Test.YtihhpmhigmegjaaDoorRows
import Derived.Test.YtihhpmhigmegjaaDoorL0
import Derived.Test.YtihhpmhigmegjaaDoorM0
import Derived.WalkKit
import Derived.ProofKit
import Derived.OpenShut
import Derived.BigQuiet
import Derived.Outline
import Derived.WalkSpells
import Derived.WalkLawsBesides
import Derived.Deep.DeepCutAuto
import Derived.Test.YtihhpmhigmegjaaDoorK4
namespace Go.Proofs.YtihhpmhigmegjaaDoor
open Go.ChangeShapes Go.WideShapes Go.ChangeAt Go.RowKit Go.Sort

/-- The reference's loop: the ballots and whether the further one is among them. -/
def rcTo (xs : List Bal) (y : Bal) : Nat → List Bal × Bool
  | 0 => ([], false)
  | k + 1 => match xs[k]? with
    | none => rcTo xs y k
    | some b => ((if b.name = y.name then (if ((rcTo xs y k).2 || strLt b.name y.name) = true then (rcTo xs y k).1 else (rcTo xs y k).1 ++ [y]) else (if ((rcTo xs y k).2 || strLt b.name y.name) = true then (rcTo xs y k).1 else (rcTo xs y k).1 ++ [y]) ++ [b]), (rcTo xs y k).2 || !strLt b.name y.name)
theorem rc_step {xs : List Bal} {y : Bal} {k : Nat} (h : k < xs.length) : rcTo xs y (k + 1) = ((if xs[k].name = y.name then (if ((rcTo xs y k).2 || strLt xs[k].name y.name) = true then (rcTo xs y k).1 else (rcTo xs y k).1 ++ [y]) else (if ((rcTo xs y k).2 || strLt xs[k].name y.name) = true then (rcTo xs y k).1 else (rcTo xs y k).1 ++ [y]) ++ [xs[k]]), (rcTo xs y k).2 || !strLt xs[k].name y.name) := by
  rw [rcTo, List.getElem?_eq_getElem h]
theorem rc_len {xs : List Bal} {y : Bal} : ∀ k, (rcTo xs y k).1.length ≤ 2 * k
  | 0 => by simp [rcTo]
  | k + 1 => by
    have := rc_len (xs := xs) (y := y) k
    rw [rcTo]
    cases xs[k]? with
    | none => simp; omega
    | some b => simp only; (repeat' split) <;> simp <;> omega
theorem rc_before {xs : List Bal} {y : Bal} : ∀ k, k ≤ posB xs y.name → rcTo xs y k = (xs.take k, false)
  | 0, _ => by simp [rcTo]
  | k + 1, h => by
    have hp := pos_le xs y.name
    have hk : k < xs.length := by omega
    have hs := (take_while_spec (p := fun b => strLt b.name y.name) xs).1 k hk (by unfold posB at h; omega)
    have hne : xs[k].name ≠ y.name := fun e => by
      have : strLt xs[k].name y.name = true := hs
      rw [e, strLt_self] at this; cases this
    rw [rc_step hk, rc_before k (by omega), if_neg hne, hs]
    simp only [Bool.false_or, if_true, Bool.not_true]
    rw [List.take_succ_eq_append_getElem hk]
theorem rc_after {xs : List Bal} {y : Bal} (ha : areB xs = true) (hps : posB xs y.name < xs.length) : ∀ m, posB xs y.name + 1 + m ≤ xs.length →
    rcTo xs y (posB xs y.name + 1 + m) = (xs.take (posB xs y.name) ++ y :: ((if xs[posB xs y.name].name = y.name then [] else [xs[posB xs y.name]]) ++ (xs.drop (posB xs y.name + 1)).take m), true)
  | 0, _ => by
    have hs := (take_while_spec (p := fun b => strLt b.name y.name) xs).2 (by unfold posB at hps; exact hps)
    have hs' : strLt xs[posB xs y.name].name y.name = false := hs
    rw [Nat.add_zero, rc_step hps, rc_before _ (Nat.le_refl _), hs']
    split <;> simp
  | m + 1, h => by
    have hk : posB xs y.name + 1 + m < xs.length := by omega
    have ih := rc_after ha hps m (by omega)
    have hs := (take_while_spec (p := fun b => strLt b.name y.name) xs).2 (by unfold posB at hps; exact hps)
    have hs' : strLt xs[posB xs y.name].name y.name = false := hs
    have hne : xs[posB xs y.name + 1 + m].name ≠ y.name := fun e => by
      have := names_lt ha m (posB xs y.name) hk
      rw [nmAt_eq hps, nmAt_eq hk, e, hs'] at this; cases this
    rw [show posB xs y.name + 1 + (m + 1) = posB xs y.name + 1 + m + 1 by omega, rc_step hk, ih, if_neg hne]
    have ht : (xs.drop (posB xs y.name + 1)).take (m + 1) = (xs.drop (posB xs y.name + 1)).take m ++ [xs[posB xs y.name + 1 + m]] := by
      rw [List.take_succ_eq_append_getElem (by rw [List.length_drop]; omega), List.getElem_drop]
    rw [ht]
    simp
def rcL (xs : List Bal) (y : Bal) : List Bal := if (rcTo xs y xs.length).2 = true then (rcTo xs y xs.length).1 else (rcTo xs y xs.length).1 ++ [y]
theorem rc_cast {xs : List Bal} {y : Bal} (ha : areB xs = true) : rcL xs y = castN xs y := by
  have hp := pos_le xs y.name
  unfold rcL castN fndB
  by_cases hps : posB xs y.name < xs.length
  · have h := rc_after ha hps (xs.length - (posB xs y.name + 1)) (by omega)
    rw [show posB xs y.name + 1 + (xs.length - (posB xs y.name + 1)) = xs.length by omega] at h
    rw [h, if_pos rfl, List.take_of_length_le (l := xs.drop (posB xs y.name + 1)) (by rw [List.length_drop]; omega), nmAt_eq hps]
    by_cases he : xs[posB xs y.name].name = y.name
    · rw [if_pos he, if_pos (by simp [hps, he]), List.set_eq_take_append_cons_drop, if_pos hps]
      simp
    · rw [if_neg he, if_neg (by simp [he]), insB, List.drop_eq_getElem_cons hps]
      simp
  · have e : posB xs y.name = xs.length := by omega
    have h := rc_before (xs := xs) (y := y) xs.length (by omega)
    rw [h, if_neg (by simp), if_neg (by simp [hps]), insB, e]
    simp
theorem less_total : ∀ x y : List UInt8, (Op.bytesLess y x || y == x) = !Op.bytesLess x y
  | [], [] => by simp [Op.bytesLess]
  | [], _ :: _ => by simp [Op.bytesLess]
  | _ :: _, [] => by simp [Op.bytesLess]
  | a :: x, b :: y => by
    have ih := less_total x y
    simp only [bytesLess_eq] at ih ⊢
    simp only [List.cons_lt_cons_iff, List.cons_beq_cons]
    by_cases h1 : a < b
    · have h2 : ¬ b < a := fun h => absurd (UInt8.lt_trans h1 h) (UInt8.lt_irrefl a)
      have h3 : ¬ b = a := fun h => by rw [h] at h1; exact absurd h1 (UInt8.lt_irrefl a)
      simp [h1, h2, h3]
    · by_cases h2 : b < a
      · have h3 : ¬ a = b := fun h => by rw [h] at h2; exact absurd h2 (UInt8.lt_irrefl b)
        simp [h1, h2, h3]
      · have h3 : a = b := by
          apply UInt8.toNat.inj
          rw [UInt8.lt_iff_toNat_lt] at h1 h2
          omega
        subst h3
        simp only [h1, false_or, true_and, beq_self_eq_true, Bool.true_and]
        exact ih
theorem bal1_own (w : World) (a b c : Value) : Reads (w.alloc (.cells #[a, b, c] 32)) (w.heap.size + 1) 3 (some ⟨w.heap.size, 0, none⟩) 1 [a, b, c] := by
  refine ⟨rfl, fun _ => ⟨_, 0, rfl, by omega, fun j u hu => ?_⟩⟩
  have := (Blk.new w 32 #[a, b, c]).cell j
  rw [Nat.zero_add, this]
  simpa using hu
theorem rc_mem {xs : List Bal} {y : Bal} : ∀ k, ∀ b ∈ (rcTo xs y k).1, b ∈ xs ∨ b = y
  | 0, b, h => by simp [rcTo] at h
  | k + 1, b, h => by
    have ih := rc_mem (xs := xs) (y := y) k
    rw [rcTo] at h
    cases hx : xs[k]? with
    | none => rw [hx] at h; exact ih b h
    | some z =>
      rw [hx] at h
      have hz : z ∈ xs := List.mem_of_getElem? hx
      simp only at h
      split at h <;> split at h
      · exact ih b h
      · rcases List.mem_append.1 h with h | h
        · exact ih b h
        · exact .inr (by simpa using h)
      · rcases List.mem_append.1 h with h | h
        · exact ih b h
        · exact .inl (by rw [show b = z by simpa using h]; exact hz)
      · rcases List.mem_append.1 h with h | h
        · rcases List.mem_append.1 h with h | h
          · exact ih b h
          · exact .inr (by simpa using h)
        · exact .inl (by rw [show b = z by simpa using h]; exact hz)
set_option maxRecDepth 100000 in
set_option maxHeartbeats 4000000 in
theorem specCast_any (xs : List Bal) (y : Bal) (hy : y.name.size ≤ 9223372036854775807) (A : Option Addr) (c : Nat) (w : World) (h : HasBal w xs A) :
    Calls Tryd.prog 13 #[.slice A xs.length c, y.val] w fun e w' => ∃ v, e = .returned (.tuple #[v, .int .i64 (castC xs y)]) ∧ w'.ownsRow w.heap.size 32 3 v (castL xs y).length (baC (castL xs y)) ∧ Below w.heap.size w w' := by
  have H := Lib.hid h; clear h
  obtain ⟨i0, hi0, hz0, hz1, hz2⟩ := info_parts infoBal
  have HC := Lib.hid (show castC xs y = if areB xs = true then (if areB (castN xs y) = true then 0 else 5) else 1 from rfl)
  have HL := Lib.hid (show castL xs y = if areB xs = true then (if areB (castN xs y) = true then castN xs y else []) else [] from rfl)
  have HM := Lib.hid (fun b (h : b ∈ castN xs y) => (show b.name.size ≤ 9223372036854775807 from (castN_mem h).elim (fun h => H.out.2.2 b h) (fun h => by rw [h]; exact hy)))
  have HN := Lib.hid (fun ha => (rc_cast (xs := xs) (y := y) ha).symm)
  have HRL := Lib.hid (show rcL xs y = if (rcTo xs y xs.length).2 = true then (rcTo xs y xs.length).1 else (rcTo xs y xs.length).1 ++ [y] from rfl)
  have HS := Lib.hid (fun k (h : k < xs.length) => rc_step (y := y) h)
  have HLn := Lib.hid (fun k => rc_len (xs := xs) (y := y) k)
  generalize castC xs y = cc at HC ⊢
  generalize castL xs y = cl at HL ⊢
  generalize castN xs y = cn at HC HL HM HN
  generalize rcL xs y = rl at HN HRL
  have HR0 := Lib.hid (show rcTo xs y 0 = ([], false) from rfl)
  generalize rcTo xs y = rt at HRL HS HLn HR0
  obtain ⟨n, ch, wt⟩ := y
  unfold Bal.val
  dsimp only at HS ⊢
  have KN := Lib.hid (blks_one w 32 #[.string n, .int .i64 ch, .int .i64 wt])
  cases ha : areB xs
  · rw [ha] at HC HL
    have HA := Lib.hid ha; clear ha
    go_enter Tryd.func13, Tryd.ntmps13
    go_wp2_with fail
    generalize hW : w.alloc (.cells #[.string n, .int .i64 ch, .int .i64 wt] 32) = W
    obtain ⟨bk, bw, _⟩ := KN.out W hW.symm
    clear hW
    have H1 := H.out.below bw
    refine (specAre_any xs _ _ _ H1.1 H1.2.1 H1.2.2).mono ?_; rw [HA.out]; rintro e w1 ⟨rfl, b1⟩
    go_wp2_with fail
    go_ret2
    exact ⟨_, by rw [HC.out]; rfl, by rw [HL.out]; exact World.ownsRow_nil _ _ _ _, bw.trans (b1.mono bw.size)⟩
  rw [ha] at HC HL
  have hm := (fits_of ha).1.1
  have HN2 := Lib.hid (HN.out ha)
  have HA := Lib.hid ha; clear ha
  go_enter Tryd.func13, Tryd.ntmps13
  go_wp2_with fail
  generalize hW : w.alloc (.cells #[.string n, .int .i64 ch, .int .i64 wt] 32) = W
  obtain ⟨bk, bw, hwz⟩ := KN.out W hW.symm
  clear hW
  have H1 := H.out.below bw
  refine (specAre_any xs _ _ _ H1.1 H1.2.1 H1.2.2).mono ?_; rw [HA.out]; rintro e w1 ⟨rfl, b1⟩
  have B1 := Lib.hid (bw.trans (b1.mono bw.size)); have K1 := Lib.hid (bk.below b1 bk.lt)
  clear b1 bk bw H1
  go_wp2_with fail
  go_loopw [6, 7, 8] (fun v6 v7 v8 wr => ∃ (k m : Nat) (V : Option Addr) (d : Nat), k ≤ xs.length ∧ m ≤ 2 * k ∧ Hid ((rt k).1.length = m) ∧ v6 = .slice V m d ∧ Hid (wr.ownsRow (w.heap.size + 1) 32 3 (.slice V m d) m (baC (rt k).1)) ∧ v7 = .bool (rt k).2 ∧ Hid (Blk wr w.heap.size 32 #[.string n, .int .i64 ch, .int .i64 wt]) ∧ Hid (Below w.heap.size w wr) ∧ v8 = .int .i64 k) (fun _ _ i _ => xs.length - (intOf i).toNat)
  case atStart => exact ⟨0, 0, some ⟨w1.heap.size, 0, none⟩, 0, by omega, by omega, by rw [HR0.out]; rfl, rfl, by rw [HR0.out]; exact own_mono (World.ownsRow_made (e := 32) (size := 3) w1 #[] 0 (Nat.le_refl _) (by decide) rfl) K1.out.lt, by rw [HR0.out], K1.out.alloc _, B1.out.alloc B1.out.size _, rfl⟩
  case round =>
    obtain ⟨k, m, V, d, hk, hmk, HMl, rfl, HO, rfl, BK, BW, rfl⟩ := hrel
    by_cases hlt : k < xs.length
    · obtain ⟨ab, ao, rfl, hadb, hcell⟩ := (H.out.1.below BW.out).2 (by omega)
      obtain ⟨e0, e1, e2⟩ := baC_get xs k hlt
      have c0 := hcell _ _ e0
      have c1 := hcell _ _ e1
      have c2 := hcell _ _ e2
      rw [← Nat.add_assoc] at c1 c2
      clear hcell e0 e1 e2
      have HCL := Lib.hid (fun W (hb : Below w.heap.size w W) => (show W.cell? ⟨ab, ao + k * 3, none⟩ = some (.string xs[k].name) ∧ W.cell? ⟨ab, ao + k * 3 + 1, none⟩ = some (.int .i64 xs[k].choice) ∧ W.cell? ⟨ab, ao + k * 3 + 2, none⟩ = some (.int .i64 xs[k].weight) from by
        obtain ⟨ab', ao', hA, _, hc⟩ := (H.out.1.below hb).2 (by omega)
        cases hA
        have h1 := hc _ _ (baC_get xs k hlt).2.1
        have h2 := hc _ _ (baC_get xs k hlt).2.2
        rw [← Nat.add_assoc] at h1 h2
        exact ⟨hc _ _ (baC_get xs k hlt).1, h1, h2⟩))
      have HSk := Lib.hid (HS.out k hlt)
      generalize xs[k] = b at c0 c1 c2 HSk HCL
      obtain ⟨bn, bc, bw⟩ := b
      dsimp only at c0 c1 c2 HSk HCL
      obtain ⟨k0, k1, k2⟩ := cells_3 BK.out
      have se := str_eq bn n
      generalize hr1 : (rt k).1 = ok at HO HSk HMl
      generalize hr2 : (rt k).2 = dn at HSk ⊢
      clear hr1 hr2
      have d0 := cell_regrown c0
      have g0 := cell_regrown k0
      have zk : (k : Int) < (xs.length : Int) := by omega
      have zq : (0 : Int) ≤ (k : Int) := by omega
      rcases (show dn = true ∨ (dn = false ∧ Op.bytesLess bn.toList n.toList = true) ∨ (dn = false ∧ Op.bytesLess bn.toList n.toList = false) by cases dn <;> cases Op.bytesLess bn.toList n.toList <;> simp) with hd | ⟨hd, hl⟩ | ⟨hd, hl⟩
      · subst hd
        simp only [Bool.true_or, Bool.false_or, Bool.or_true, Bool.or_false, if_true, Bool.not_true, Bool.not_false, Bool.false_eq_true, if_false] at HSk
        by_cases he : bn = n
        · rw [decide_eq_true he] at se
          rw [if_pos he] at HSk
          have hes := he.symm
          clear he
          clear hes
          go_upto_region 8 with (fail)
          refine wp_region_quiet_below (by kernel_rfl) (by kernel_rfl) ?_; (repeat (first | go_big_quiet_step (fail))); refine wpQuiet_nil ?_; intro _ hw'; obtain ⟨⟨dq, osq⟩, rfl⟩ := hw'
          generalize hw2 : grow (redrawn wr dq) osq = w2
          have K2 := Lib.hid (hw2 ▸ BK.out.below (below_regrown wr dq osq) BK.out.lt : Blk w2 w.heap.size 32 #[.string n, .int .i64 ch, .int .i64 wt])
          have W2 := Lib.hid (hw2 ▸ BW.out.trans ((below_regrown wr dq osq).mono BW.out.size) : Below w.heap.size w w2)
          have O2 := Lib.hid (hw2 ▸ own_below HO.out (below_regrown wr dq osq) : w2.ownsRow (w.heap.size + 1) 32 3 (.slice V m d) m (baC ok))
          clear hw2 d0 g0 c0 c1 c2 k0 k1 k2
          obtain ⟨c0, c1, c2⟩ := HCL.out _ W2.out
          obtain ⟨k0, k1, k2⟩ := cells_3 K2.out
          have d0 := cell_regrown c0
          have g0 := cell_regrown k0
          go_upto_region 11 with (fail)
          refine wp_region_quiet_below (by kernel_rfl) (by kernel_rfl) ?_; (repeat (first | go_big_quiet_step (fail))); refine wpQuiet_nil ?_; intro _ hw'; obtain ⟨⟨dq2, osq2⟩, rfl⟩ := hw'
          generalize hw4 : grow (redrawn w2 dq2) osq2 = w4
          have K4 := Lib.hid (hw4 ▸ K2.out.below (below_regrown w2 dq2 osq2) K2.out.lt : Blk w4 w.heap.size 32 #[.string n, .int .i64 ch, .int .i64 wt])
          have W4 := Lib.hid (hw4 ▸ W2.out.trans ((below_regrown w2 dq2 osq2).mono W2.out.size) : Below w.heap.size w w4)
          have O4 := Lib.hid (hw4 ▸ own_below O2.out (below_regrown w2 dq2 osq2) : w4.ownsRow (w.heap.size + 1) 32 3 (.slice V m d) (m) (baC (ok)))
          clear hw4 d0 g0 c0 c1 c2 k0 k1 k2
          obtain ⟨c0, c1, c2⟩ := HCL.out _ W4.out
          go_wp2_with fail
          go_roundw
          case rel => exact ⟨k + 1, m, V, d, by omega, by omega, by have := HMl.out; rw [HSk.out]; simp [Hid, this], rfl, by rw [HSk.out]; exact O4.out, by rw [HSk.out], K4.out, W4.out, by go_num⟩
          case measure => simp [intOf]; omega
        · rw [decide_eq_false he] at se
          rw [if_neg he] at HSk
          have hes : ¬ n = bn := fun h => he h.symm
          clear he
          clear hes
          go_upto_region 8 with (fail)
          refine wp_region_quiet_below (by kernel_rfl) (by kernel_rfl) ?_; (repeat (first | go_big_quiet_step (fail))); refine wpQuiet_nil ?_; intro _ hw'; obtain ⟨⟨dq, osq⟩, rfl⟩ := hw'
          generalize hw2 : grow (redrawn wr dq) osq = w2
          have K2 := Lib.hid (hw2 ▸ BK.out.below (below_regrown wr dq osq) BK.out.lt : Blk w2 w.heap.size 32 #[.string n, .int .i64 ch, .int .i64 wt])
          have W2 := Lib.hid (hw2 ▸ BW.out.trans ((below_regrown wr dq osq).mono BW.out.size) : Below w.heap.size w w2)
          have O2 := Lib.hid (hw2 ▸ own_below HO.out (below_regrown wr dq osq) : w2.ownsRow (w.heap.size + 1) 32 3 (.slice V m d) m (baC ok))
          clear hw2 d0 g0 c0 c1 c2 k0 k1 k2
          obtain ⟨c0, c1, c2⟩ := HCL.out _ W2.out
          obtain ⟨k0, k1, k2⟩ := cells_3 K2.out
          have d0 := cell_regrown c0
          have g0 := cell_regrown k0
          go_upto_region 11 with (fail)
          refine wp_region_quiet_below (by kernel_rfl) (by kernel_rfl) ?_; (repeat (first | go_big_quiet_step (fail))); refine wpQuiet_nil ?_; intro _ hw'; obtain ⟨⟨dq2, osq2⟩, rfl⟩ := hw'
          generalize hw4 : grow (redrawn w2 dq2) osq2 = w4
          have K4 := Lib.hid (hw4 ▸ K2.out.below (below_regrown w2 dq2 osq2) K2.out.lt : Blk w4 w.heap.size 32 #[.string n, .int .i64 ch, .int .i64 wt])
          have W4 := Lib.hid (hw4 ▸ W2.out.trans ((below_regrown w2 dq2 osq2).mono W2.out.size) : Below w.heap.size w w4)
          have O4 := Lib.hid (hw4 ▸ own_below O2.out (below_regrown w2 dq2 osq2) : w4.ownsRow (w.heap.size + 1) 32 3 (.slice V m d) (m) (baC (ok)))
          clear hw4 d0 g0 c0 c1 c2 k0 k1 k2
          obtain ⟨c0, c1, c2⟩ := HCL.out _ W4.out
          go_wp2_with (at_builtin; refine wpList_append_any _ rfl (.tmp 43) (.tmp 48) _ rfl (w.heap.size + 1) 32 i0 _ 3 32 Tryd.underlying24 hi0 hz0 hz1 hz2 rfl (by omega) (.slice V m d) (m) (baC (ok)) rfl (O4.out.alloc _) _ (some ⟨w4.heap.size, 0, none⟩) 1 1 [.string bn, .int .i64 bc, .int .i64 bw] rfl (bal1_own _ _ _ _) (by simp [Value.oneCell']) (by simp only [maxLen]; omega) (by omega) (by have := K4.out.lt; simp; omega) ?_; intro v5 x5 hown5 hg5 hat5; obtain ⟨A5, d5, rfl, _⟩ := own_shape hown5)
          have W5 := Lib.hid (below_own (W4.out.alloc W4.out.size (.cells #[.string bn, .int .i64 bc, .int .i64 bw] 32)) (O4.out.alloc _) hg5 (Nat.le_succ _) (by have := W4.out.size; simp; omega))
          have K5 := Lib.hid (show Blk x5 w.heap.size 32 #[.string n, .int .i64 ch, .int .i64 wt] from (hg5.block w.heap.size (by have := K4.out.lt; simp; omega) (fun e => Nat.not_succ_le_self _ (own_lt (O4.out.alloc (.cells #[.string bn, .int .i64 bc, .int .i64 bw] 32)) _ e.symm).1)).trans (K4.out.alloc _))
          have O5 := Lib.hid (show x5.ownsRow (w.heap.size + 1) 32 3 (.slice A5 (m + 1) d5) (m + 1) (baC ((ok) ++ [⟨bn, bc, bw⟩])) by rw [baC_app1]; exact hown5)
          clear hg5 hat5 hown5
          go_roundw
          case rel => exact ⟨k + 1, m + 1, A5, d5, by omega, by omega, by have := HMl.out; rw [HSk.out]; simp [Hid, this], rfl, by rw [HSk.out]; exact O5.out, by rw [HSk.out], K5.out, W5.out, by go_num⟩
          case measure => simp [intOf]; omega
      · subst hd
        rw [show strLt bn n = true from hl] at HSk
        simp only [Bool.true_or, Bool.false_or, Bool.or_true, Bool.or_false, if_true, Bool.not_true, Bool.not_false, Bool.false_eq_true, if_false] at HSk
        by_cases he : bn = n
        · rw [he] at hl; exact absurd hl (by rw [show Op.bytesLess n.toList n.toList = false from strLt_self n]; decide)
        · rw [decide_eq_false he] at se
          rw [if_neg he] at HSk
          have hes : ¬ n = bn := fun h => he h.symm
          clear he
          have q2 : (n.toList == bn.toList) = false := by rw [str_eq, decide_eq_false hes]
          have q1 : Op.bytesLess n.toList bn.toList = false := by have := less_total bn.toList n.toList; rw [hl, q2, Bool.or_false] at this; exact this
          clear hes
          go_upto_region 8 with (fail)
          refine wp_region_quiet_below (by kernel_rfl) (by kernel_rfl) ?_; (repeat (first | go_big_quiet_step (fail))); refine wpQuiet_nil ?_; intro _ hw'; obtain ⟨⟨dq, osq⟩, rfl⟩ := hw'
          generalize hw2 : grow (redrawn wr dq) osq = w2
          have K2 := Lib.hid (hw2 ▸ BK.out.below (below_regrown wr dq osq) BK.out.lt : Blk w2 w.heap.size 32 #[.string n, .int .i64 ch, .int .i64 wt])
          have W2 := Lib.hid (hw2 ▸ BW.out.trans ((below_regrown wr dq osq).mono BW.out.size) : Below w.heap.size w w2)
          have O2 := Lib.hid (hw2 ▸ own_below HO.out (below_regrown wr dq osq) : w2.ownsRow (w.heap.size + 1) 32 3 (.slice V m d) m (baC ok))
          clear hw2 d0 g0 c0 c1 c2 k0 k1 k2
          obtain ⟨c0, c1, c2⟩ := HCL.out _ W2.out
          obtain ⟨k0, k1, k2⟩ := cells_3 K2.out
          have d0 := cell_regrown c0
          have g0 := cell_regrown k0
          go_upto_region 11 with (fail)
          refine wp_region_quiet_below (by kernel_rfl) (by kernel_rfl) ?_; (repeat (first | go_big_quiet_step (fail))); refine wpQuiet_nil ?_; intro _ hw'; obtain ⟨⟨dq2, osq2⟩, rfl⟩ := hw'
          generalize hw4 : grow (redrawn w2 dq2) osq2 = w4
          have K4 := Lib.hid (hw4 ▸ K2.out.below (below_regrown w2 dq2 osq2) K2.out.lt : Blk w4 w.heap.size 32 #[.string n, .int .i64 ch, .int .i64 wt])
          have W4 := Lib.hid (hw4 ▸ W2.out.trans ((below_regrown w2 dq2 osq2).mono W2.out.size) : Below w.heap.size w w4)
          have O4 := Lib.hid (hw4 ▸ own_below O2.out (below_regrown w2 dq2 osq2) : w4.ownsRow (w.heap.size + 1) 32 3 (.slice V m d) (m) (baC (ok)))
          clear hw4 d0 g0 c0 c1 c2 k0 k1 k2
          obtain ⟨c0, c1, c2⟩ := HCL.out _ W4.out
          go_wp2_with (at_builtin; refine wpList_append_any _ rfl (.tmp 43) (.tmp 48) _ rfl (w.heap.size + 1) 32 i0 _ 3 32 Tryd.underlying24 hi0 hz0 hz1 hz2 rfl (by omega) (.slice V m d) (m) (baC (ok)) rfl (O4.out.alloc _) _ (some ⟨w4.heap.size, 0, none⟩) 1 1 [.string bn, .int .i64 bc, .int .i64 bw] rfl (bal1_own _ _ _ _) (by simp [Value.oneCell']) (by simp only [maxLen]; omega) (by omega) (by have := K4.out.lt; simp; omega) ?_; intro v5 x5 hown5 hg5 hat5; obtain ⟨A5, d5, rfl, _⟩ := own_shape hown5)
          have W5 := Lib.hid (below_own (W4.out.alloc W4.out.size (.cells #[.string bn, .int .i64 bc, .int .i64 bw] 32)) (O4.out.alloc _) hg5 (Nat.le_succ _) (by have := W4.out.size; simp; omega))
          have K5 := Lib.hid (show Blk x5 w.heap.size 32 #[.string n, .int .i64 ch, .int .i64 wt] from (hg5.block w.heap.size (by have := K4.out.lt; simp; omega) (fun e => Nat.not_succ_le_self _ (own_lt (O4.out.alloc (.cells #[.string bn, .int .i64 bc, .int .i64 bw] 32)) _ e.symm).1)).trans (K4.out.alloc _))
          have O5 := Lib.hid (show x5.ownsRow (w.heap.size + 1) 32 3 (.slice A5 (m + 1) d5) (m + 1) (baC ((ok) ++ [⟨bn, bc, bw⟩])) by rw [baC_app1]; exact hown5)
          clear hg5 hat5 hown5
          go_roundw
          case rel => exact ⟨k + 1, m + 1, A5, d5, by omega, by omega, by have := HMl.out; rw [HSk.out]; simp [Hid, this], rfl, by rw [HSk.out]; exact O5.out, by rw [HSk.out], K5.out, W5.out, by go_num⟩
          case measure => simp [intOf]; omega
      · subst hd
        rw [show strLt bn n = false from hl] at HSk
        simp only [Bool.true_or, Bool.false_or, Bool.or_true, Bool.or_false, if_true, Bool.not_true, Bool.not_false, Bool.false_eq_true, if_false] at HSk
        by_cases he : bn = n
        · rw [decide_eq_true he] at se
          rw [if_pos he] at HSk
          have hes := he.symm
          clear he
          have q2 : (n.toList == bn.toList) = true := by rw [str_eq, decide_eq_true hes]
          have q1 : Op.bytesLess n.toList bn.toList = false := by rw [hes]; exact strLt_self bn
          clear hes
          go_upto_region 8 with (fail)
          refine wp_region_quiet_below (by kernel_rfl) (by kernel_rfl) ?_; (repeat (first | go_big_quiet_step (fail))); refine wpQuiet_nil ?_; intro _ hw'; obtain ⟨⟨dq, osq⟩, rfl⟩ := hw'
          generalize hw2 : grow (redrawn wr dq) osq = w2
          have K2 := Lib.hid (hw2 ▸ BK.out.below (below_regrown wr dq osq) BK.out.lt : Blk w2 w.heap.size 32 #[.string n, .int .i64 ch, .int .i64 wt])
          have W2 := Lib.hid (hw2 ▸ BW.out.trans ((below_regrown wr dq osq).mono BW.out.size) : Below w.heap.size w w2)
          have O2 := Lib.hid (hw2 ▸ own_below HO.out (below_regrown wr dq osq) : w2.ownsRow (w.heap.size + 1) 32 3 (.slice V m d) m (baC ok))
          clear hw2 d0 g0 c0 c1 c2 k0 k1 k2
          obtain ⟨k0, k1, k2⟩ := cells_3 K2.out
          go_wp2_with (at_builtin; refine wpList_append_any _ rfl (.tmp 31) (.tmp 33) _ rfl (w.heap.size + 1) 32 i0 _ 3 32 Tryd.underlying24 hi0 hz0 hz1 hz2 rfl (by omega) (.slice V m d) (m) (baC (ok)) rfl (O2.out.alloc _) _ (some ⟨w2.heap.size, 0, none⟩) 1 1 [.string n, .int .i64 ch, .int .i64 wt] rfl (bal1_own _ _ _ _) (by simp [Value.oneCell']) (by simp only [maxLen]; omega) (by omega) (by have := K2.out.lt; simp; omega) ?_; intro v3 x3 hown3 hg3 hat3; obtain ⟨A3, d3, rfl, _⟩ := own_shape hown3)
          have W3 := Lib.hid (below_own (W2.out.alloc W2.out.size (.cells #[.string n, .int .i64 ch, .int .i64 wt] 32)) (O2.out.alloc _) hg3 (Nat.le_succ _) (by have := W2.out.size; simp; omega))
          have K3 := Lib.hid (show Blk x3 w.heap.size 32 #[.string n, .int .i64 ch, .int .i64 wt] from (hg3.block w.heap.size (by have := K2.out.lt; simp; omega) (fun e => Nat.not_succ_le_self _ (own_lt (O2.out.alloc (.cells #[.string n, .int .i64 ch, .int .i64 wt] 32)) _ e.symm).1)).trans (K2.out.alloc _))
          have O3 := Lib.hid (show x3.ownsRow (w.heap.size + 1) 32 3 (.slice A3 (m + 1) d3) (m + 1) (baC (ok ++ [⟨n, ch, wt⟩])) by rw [baC_app1]; exact hown3)
          clear hg3 hat3 hown3 k0 k1 k2
          obtain ⟨c0, c1, c2⟩ := HCL.out _ W3.out
          obtain ⟨k0, k1, k2⟩ := cells_3 K3.out
          have d0 := cell_regrown c0
          have g0 := cell_regrown k0
          refine wp_region_quiet_below (by kernel_rfl) (by kernel_rfl) ?_; (repeat (first | go_big_quiet_step (fail))); refine wpQuiet_nil ?_; intro _ hw'; obtain ⟨⟨dq2, osq2⟩, rfl⟩ := hw'
          generalize hw4 : grow (redrawn x3 dq2) osq2 = w4
          have K4 := Lib.hid (hw4 ▸ K3.out.below (below_regrown x3 dq2 osq2) K3.out.lt : Blk w4 w.heap.size 32 #[.string n, .int .i64 ch, .int .i64 wt])
          have W4 := Lib.hid (hw4 ▸ W3.out.trans ((below_regrown x3 dq2 osq2).mono W3.out.size) : Below w.heap.size w w4)
          have O4 := Lib.hid (hw4 ▸ own_below O3.out (below_regrown x3 dq2 osq2) : w4.ownsRow (w.heap.size + 1) 32 3 (.slice A3 (m + 1) d3) (m + 1) (baC (ok ++ [⟨n, ch, wt⟩])))
          clear hw4 d0 g0 c0 c1 c2 k0 k1 k2
          obtain ⟨c0, c1, c2⟩ := HCL.out _ W4.out
          go_wp2_with fail
          go_roundw
          case rel => exact ⟨k + 1, m + 1, A3, d3, by omega, by omega, by have := HMl.out; rw [HSk.out]; simp [Hid, this], rfl, by rw [HSk.out]; exact O4.out, by rw [HSk.out], K4.out, W4.out, by go_num⟩
          case measure => simp [intOf]; omega
        · rw [decide_eq_false he] at se
          rw [if_neg he] at HSk
          have hes : ¬ n = bn := fun h => he h.symm
          clear he
          have q2 : (n.toList == bn.toList) = false := by rw [str_eq, decide_eq_false hes]
          have q1 : Op.bytesLess n.toList bn.toList = true := by have := less_total bn.toList n.toList; rw [hl, q2, Bool.or_false] at this; exact this
          clear hes
          go_upto_region 8 with (fail)
          refine wp_region_quiet_below (by kernel_rfl) (by kernel_rfl) ?_; (repeat (first | go_big_quiet_step (fail))); refine wpQuiet_nil ?_; intro _ hw'; obtain ⟨⟨dq, osq⟩, rfl⟩ := hw'
          generalize hw2 : grow (redrawn wr dq) osq = w2
          have K2 := Lib.hid (hw2 ▸ BK.out.below (below_regrown wr dq osq) BK.out.lt : Blk w2 w.heap.size 32 #[.string n, .int .i64 ch, .int .i64 wt])
          have W2 := Lib.hid (hw2 ▸ BW.out.trans ((below_regrown wr dq osq).mono BW.out.size) : Below w.heap.size w w2)
          have O2 := Lib.hid (hw2 ▸ own_below HO.out (below_regrown wr dq osq) : w2.ownsRow (w.heap.size + 1) 32 3 (.slice V m d) m (baC ok))
          clear hw2 d0 g0 c0 c1 c2 k0 k1 k2
          obtain ⟨k0, k1, k2⟩ := cells_3 K2.out
          go_wp2_with (at_builtin; refine wpList_append_any _ rfl (.tmp 31) (.tmp 33) _ rfl (w.heap.size + 1) 32 i0 _ 3 32 Tryd.underlying24 hi0 hz0 hz1 hz2 rfl (by omega) (.slice V m d) (m) (baC (ok)) rfl (O2.out.alloc _) _ (some ⟨w2.heap.size, 0, none⟩) 1 1 [.string n, .int .i64 ch, .int .i64 wt] rfl (bal1_own _ _ _ _) (by simp [Value.oneCell']) (by simp only [maxLen]; omega) (by omega) (by have := K2.out.lt; simp; omega) ?_; intro v3 x3 hown3 hg3 hat3; obtain ⟨A3, d3, rfl, _⟩ := own_shape hown3)
          have W3 := Lib.hid (below_own (W2.out.alloc W2.out.size (.cells #[.string n, .int .i64 ch, .int .i64 wt] 32)) (O2.out.alloc _) hg3 (Nat.le_succ _) (by have := W2.out.size; simp; omega))
          have K3 := Lib.hid (show Blk x3 w.heap.size 32 #[.string n, .int .i64 ch, .int .i64 wt] from (hg3.block w.heap.size (by have := K2.out.lt; simp; omega) (fun e => Nat.not_succ_le_self _ (own_lt (O2.out.alloc (.cells #[.string n, .int .i64 ch, .int .i64 wt] 32)) _ e.symm).1)).trans (K2.out.alloc _))
          have O3 := Lib.hid (show x3.ownsRow (w.heap.size + 1) 32 3 (.slice A3 (m + 1) d3) (m + 1) (baC (ok ++ [⟨n, ch, wt⟩])) by rw [baC_app1]; exact hown3)
          clear hg3 hat3 hown3 k0 k1 k2
          obtain ⟨c0, c1, c2⟩ := HCL.out _ W3.out
          obtain ⟨k0, k1, k2⟩ := cells_3 K3.out
          have d0 := cell_regrown c0
          have g0 := cell_regrown k0
          refine wp_region_quiet_below (by kernel_rfl) (by kernel_rfl) ?_; (repeat (first | go_big_quiet_step (fail))); refine wpQuiet_nil ?_; intro _ hw'; obtain ⟨⟨dq2, osq2⟩, rfl⟩ := hw'
          generalize hw4 : grow (redrawn x3 dq2) osq2 = w4
          have K4 := Lib.hid (hw4 ▸ K3.out.below (below_regrown x3 dq2 osq2) K3.out.lt : Blk w4 w.heap.size 32 #[.string n, .int .i64 ch, .int .i64 wt])
          have W4 := Lib.hid (hw4 ▸ W3.out.trans ((below_regrown x3 dq2 osq2).mono W3.out.size) : Below w.heap.size w w4)
          have O4 := Lib.hid (hw4 ▸ own_below O3.out (below_regrown x3 dq2 osq2) : w4.ownsRow (w.heap.size + 1) 32 3 (.slice A3 (m + 1) d3) (m + 1) (baC (ok ++ [⟨n, ch, wt⟩])))
          clear hw4 d0 g0 c0 c1 c2 k0 k1 k2
          obtain ⟨c0, c1, c2⟩ := HCL.out _ W4.out
          go_wp2_with (at_builtin; refine wpList_append_any _ rfl (.tmp 43) (.tmp 48) _ rfl (w.heap.size + 1) 32 i0 _ 3 32 Tryd.underlying24 hi0 hz0 hz1 hz2 rfl (by omega) (.slice A3 (m + 1) d3) (m + 1) (baC (ok ++ [⟨n, ch, wt⟩])) rfl (O4.out.alloc _) _ (some ⟨w4.heap.size, 0, none⟩) 1 1 [.string bn, .int .i64 bc, .int .i64 bw] rfl (bal1_own _ _ _ _) (by simp [Value.oneCell']) (by simp only [maxLen]; omega) (by omega) (by have := K4.out.lt; simp; omega) ?_; intro v5 x5 hown5 hg5 hat5; obtain ⟨A5, d5, rfl, _⟩ := own_shape hown5)
          have W5 := Lib.hid (below_own (W4.out.alloc W4.out.size (.cells #[.string bn, .int .i64 bc, .int .i64 bw] 32)) (O4.out.alloc _) hg5 (Nat.le_succ _) (by have := W4.out.size; simp; omega))
          have K5 := Lib.hid (show Blk x5 w.heap.size 32 #[.string n, .int .i64 ch, .int .i64 wt] from (hg5.block w.heap.size (by have := K4.out.lt; simp; omega) (fun e => Nat.not_succ_le_self _ (own_lt (O4.out.alloc (.cells #[.string bn, .int .i64 bc, .int .i64 bw] 32)) _ e.symm).1)).trans (K4.out.alloc _))
          have O5 := Lib.hid (show x5.ownsRow (w.heap.size + 1) 32 3 (.slice A5 (m + 1 + 1) d5) (m + 1 + 1) (baC ((ok ++ [⟨n, ch, wt⟩]) ++ [⟨bn, bc, bw⟩])) by rw [baC_app1]; exact hown5)
          clear hg5 hat5 hown5
          go_roundw
          case rel => exact ⟨k + 1, m + 1 + 1, A5, d5, by omega, by omega, by have := HMl.out; rw [HSk.out]; simp [Hid, this], rfl, by rw [HSk.out]; exact O5.out, by rw [HSk.out], K5.out, W5.out, by go_num⟩
          case measure => simp [intOf]; omega
    · obtain rfl : k = xs.length := by omega
      obtain ⟨k0, k1, k2⟩ := cells_3 BK.out
      generalize hr1 : (rt xs.length).1 = ok at HO HRL HMl
      generalize hr2 : (rt xs.length).2 = dn at HRL ⊢
      clear hr1 hr2
      cases dn
      · have HCN := Lib.hid (show cn = ok ++ [⟨n, ch, wt⟩] by rw [HN2.out, HRL.out, if_neg (by decide)])
        have HLn := Lib.hid (show cn.length = m + 1 by rw [HCN.out, List.length_append, show ok.length = m from HMl.out]; rfl)
        go_wp2_with (at_builtin; refine wpList_append_any _ rfl (.tmp 52) (.tmp 54) _ rfl (w.heap.size + 1) 32 i0 _ 3 32 Tryd.underlying24 hi0 hz0 hz1 hz2 rfl (by omega) (.slice V m d) (m) (baC (ok)) rfl (HO.out.alloc _) _ (some ⟨wr.heap.size, 0, none⟩) 1 1 [.string n, .int .i64 ch, .int .i64 wt] rfl (bal1_own _ _ _ _) (by simp [Value.oneCell']) (by simp only [maxLen]; omega) (by omega) (by have := BK.out.lt; simp; omega) ?_; intro v6 x6 hown6 hg6 hat6; obtain ⟨A6, d6, rfl, _⟩ := own_shape hown6)
        have W6 := Lib.hid (below_own (BW.out.alloc BW.out.size (.cells #[.string n, .int .i64 ch, .int .i64 wt] 32)) (HO.out.alloc _) hg6 (Nat.le_succ _) (by have := BW.out.size; simp; omega))
        have O6 := Lib.hid (show x6.ownsRow (w.heap.size + 1) 32 3 (.slice A6 (m + 1) d6) (m + 1) (baC cn) by rw [HCN.out, baC_app1]; exact hown6)
        clear hg6 hat6 hown6
        have DI := specAre_any cn A6 d6 x6 (Reads.of_own (by rw [HLn.out]; exact O6.out)) (by rw [HLn.out]; omega) HM.out
        rw [HLn.out] at DI
        cases hcn : areB cn
        all_goals
          rw [hcn] at HC HL DI
          clear hcn
          refine DI.mono ?_; clear DI; rintro e w7 ⟨rfl, b7⟩
          have B7 := Lib.hid (W6.out.trans (b7.mono W6.out.size)); have O7 := Lib.hid (own_below O6.out b7)
          clear b7
          go_wp2_with fail
          go_ret2
        · exact ⟨_, by rw [HC.out]; rfl, by rw [HL.out]; exact World.ownsRow_nil _ _ _ _, B7.out⟩
        · exact ⟨_, by rw [HC.out]; rfl, by rw [show cl = cn by rw [HL.out]; simp, HLn.out]; exact own_mono O7.out (Nat.le_succ _), B7.out⟩
      · have HCN := Lib.hid (show cn = ok by rw [HN2.out, HRL.out, if_pos rfl])
        have HLn := Lib.hid (show cn.length = m by rw [HCN.out]; exact HMl.out)
        have O6 := Lib.hid (show wr.ownsRow (w.heap.size + 1) 32 3 (.slice V m d) m (baC cn) by rw [HCN.out]; exact HO.out)
        have W6 := BW
        go_wp2_with fail
        have DI := specAre_any cn V d wr (Reads.of_own (by rw [HLn.out]; exact O6.out)) (by rw [HLn.out]; omega) HM.out
        rw [HLn.out] at DI
        cases hcn : areB cn
        all_goals
          rw [hcn] at HC HL DI
          clear hcn
          refine DI.mono ?_; clear DI; rintro e w7 ⟨rfl, b7⟩
          have B7 := Lib.hid (W6.out.trans (b7.mono W6.out.size)); have O7 := Lib.hid (own_below O6.out b7)
          clear b7
          go_wp2_with fail
          go_ret2
        · exact ⟨_, by rw [HC.out]; rfl, by rw [HL.out]; exact World.ownsRow_nil _ _ _ _, B7.out⟩
        · exact ⟨_, by rw [HC.out]; rfl, by rw [show cl = cn by rw [HL.out]; simp, HLn.out]; exact own_mono O7.out (Nat.le_succ _), B7.out⟩
end Go.Proofs.YtihhpmhigmegjaaDoor
