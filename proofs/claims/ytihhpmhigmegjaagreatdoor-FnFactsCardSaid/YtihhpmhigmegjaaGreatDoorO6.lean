/- The indices of the claims that tell a fact, and of those that deny it, by both. -/
import Derived.Test.YtihhpmhigmegjaaGreatDoorRows
import Derived.Test.YtihhpmhigmegjaaGreatDoorL0
import Derived.Test.YtihhpmhigmegjaaGreatDoorM0
import Derived.WalkKit
import Derived.ProofKit
import Derived.OpenShut
import Derived.BigQuiet
import Derived.Outline
import Derived.WalkSpells
import Derived.WalkLawsBesides
import Derived.Deep.DeepCutAuto
import Derived.Test.YtihhpmhigmegjaaGreatDoorO5
import Derived.Test.YtihhpmhigmegjaaGreatDoorI0
import Derived.Lib.QuietBelow
import Derived.Deep.QuietTactic
namespace Go.Proofs.YtihhpmhigmegjaaGreatDoor
open Go.ChangeShapes Go.WideShapes Go.ChangeAt Go.RowKit Go.Sort

/-- The indices of the claims as asked, among the first k. -/
def wC (xs : List Clm) (p : Clm → Bool) : Nat → List Int
  | 0 => []
  | k + 1 => match xs[k]? with
    | some b => if p b = true then wC xs p k ++ [(k : Int)] else wC xs p k
    | none => wC xs p k
def whichC (xs : List Clm) (p : Clm → Bool) : List Int := wC xs p xs.length
theorem wC_at {xs : List Clm} {p : Clm → Bool} {k : Nat} (h : k < xs.length) : wC xs p (k + 1) = if p xs[k] = true then wC xs p k ++ [(k : Int)] else wC xs p k := by
  rw [wC, List.getElem?_eq_getElem h]
theorem wC_len (xs : List Clm) (p : Clm → Bool) : ∀ k, (wC xs p k).length ≤ k
  | 0 => Nat.le_refl _
  | k + 1 => by
    have := wC_len xs p k
    rw [wC]
    split
    · split <;> simp <;> omega
    · omega
theorem wC_in (xs : List Clm) (p : Clm → Bool) : ∀ k, ∀ v ∈ wC xs p k, ∃ i : Nat, v = (i : Int) ∧ i < k ∧ ∃ b, xs[i]? = some b ∧ p b = true
  | 0, v, h => by cases h
  | k + 1, v, h => by
    have up : v ∈ wC xs p k → ∃ i : Nat, v = (i : Int) ∧ i < k + 1 ∧ ∃ b, xs[i]? = some b ∧ p b = true := fun h => by
      obtain ⟨i, e, hi, hb⟩ := wC_in xs p k v h
      exact ⟨i, e, by omega, hb⟩
    rw [wC] at h
    split at h
    · rename_i b hb
      split at h
      · rename_i hp
        rcases List.mem_append.1 h with h | h
        · exact up h
        · rw [List.mem_singleton] at h
          exact ⟨k, h, by omega, b, hb, hp⟩
      · exact up h
    · exact up h
theorem wC_congr {xs : List Clm} {p q : Clm → Bool} (h : ∀ f ∈ xs, p f = q f) : ∀ k, wC xs p k = wC xs q k
  | 0 => rfl
  | k + 1 => by
    rw [wC, wC, wC_congr h k]
    cases hk : xs[k]? with
    | none => rfl
    | some b => simp only [h b (List.mem_of_getElem? hk)]
theorem seven_regrown {W0 : World} {g : Nat} {t : TypeId} {a b c d : Value} (h : Blk W0 g t #[a, b, c, d]) :
    (∀ x os, (grow (redrawn W0 x) os).cell? ⟨g, 0, none⟩ = some a) ∧ (∀ x os, (grow (redrawn W0 x) os).cell? ⟨g, 1, none⟩ = some b) ∧ (∀ x os, (grow (redrawn W0 x) os).cell? ⟨g, 2, none⟩ = some c) ∧ (∀ x os, (grow (redrawn W0 x) os).cell? ⟨g, 3, none⟩ = some d) := by
  obtain ⟨h0, h1, h2, h3⟩ := cells_4 h
  exact ⟨cell_regrown h0, cell_regrown h1, cell_regrown h2, cell_regrown h3⟩
/-- A claim denies a fact. -/
def denB (f : Fct) (c : Clm) : Bool := ctrB c (fclm ⟨#[97]⟩ f)
set_option maxRecDepth 100000 in
set_option maxHeartbeats 2000000 in
theorem specTelL_any (xs : List Clm) (f : Fct) (hm : xs.length ≤ 1048576) (A : Option Addr) (c : Nat) (w : World) (h : HasClm w xs A) :
    Calls Tryz.prog 54 #[.slice A xs.length c, f.val] w fun e w' => ∃ v, e = .returned v ∧ w'.ownsRow w.heap.size 2 1 v (whichC xs (fun c => telB c f)).length (inC (whichC xs (fun c => telB c f))) ∧ Below w.heap.size w w' := by
  obtain ⟨i0, hi0, hz0, hz1, hz2⟩ := info_parts infoInt
  have H := Lib.hid h; clear h
  have KN := Lib.hid (blks_two w 26 2 #[.int .i64 f.kind, .string f.place, .string f.val_, .int .i64 f.year] #[])
  obtain ⟨P, hP⟩ : ∃ P : Clm → Bool, (fun c => telB c f) = P := ⟨_, rfl⟩
  have HPf := Lib.hid (show ∀ a, telB a f = P a from fun a => by first | (rw [← hP]; done) | (rw [← hP]; rfl))
  have HT := Lib.hid (fun a w => by have h := specTel_any a f w; rw [HPf.out a] at h; exact h)
  rw [hP]
  clear hP
  have HL := Lib.hid (show whichC xs P = wC xs P xs.length from rfl)
  generalize whichC xs P = LL at HL ⊢
  unfold Clm.val at HT
  unfold Fct.val at HT ⊢
  go_enter Tryz.func54, Tryz.ntmps54
  go_upto_region 2 with (fail)
  generalize hW : (w.alloc (.cells #[.int .i64 f.kind, .string f.place, .string f.val_, .int .i64 f.year] 26)).alloc (.cells #[] 2) = W
  obtain ⟨kb, ke, bw, hsz⟩ := KN.out W hW.symm
  have OW := Lib.hid (show W.ownsRow w.heap.size 2 1 (.slice (some ⟨w.heap.size + 1, 0, none⟩) 0 0) 0 (inC []) by
    have := World.ownsRow_made (e := 2) (base := w.heap.size) (size := 1) (w.alloc (.cells #[.int .i64 f.kind, .string f.place, .string f.val_, .int .i64 f.year] 26)) #[] 0 (by simp) (by decide) rfl
    rw [hW] at this
    simpa [inC] using this)
  clear hW hsz ke
  have KB := Lib.hid kb; have BW0 := Lib.hid bw; have LB := Lib.hid kb.lt; clear kb bw
  go_wp2_with fail
  go_loopw [5, 6] (fun v5 v6 wr => ∃ (k n : Nat) (B : Option Addr) (d : Nat), k ≤ xs.length ∧ n ≤ k ∧ Hid ((wC xs P k).length = n) ∧ v5 = .slice B n d ∧ Hid (wr.ownsRow w.heap.size 2 1 (.slice B n d) n (inC (wC xs P k))) ∧ Hid (Blk wr w.heap.size 26 #[.int .i64 f.kind, .string f.place, .string f.val_, .int .i64 f.year] ∧ ∀ g, (Value.slice B n d).ownBlock = some g → w.heap.size < g) ∧ Hid (Below w.heap.size w wr) ∧ v6 = .int .i64 k) (fun _ i _ => xs.length - (intOf i).toNat)
  case atStart => exact ⟨0, 0, _, _, by omega, by omega, rfl, rfl, OW.out, ⟨KB.out, fun g hg => by simp [Value.ownBlock] at hg; omega⟩, BW0.out, rfl⟩
  case round =>
    obtain ⟨k, n, B, d, hk, hnk, HN, rfl, HO, HK, BW, rfl⟩ := hrel
    by_cases hlt : k < xs.length
    · obtain ⟨ab, ao, rfl, hadb, hcell⟩ := (H.out.below BW.out).1.2 (by omega)
      obtain ⟨e0, e1, e2, e3, e4, e5, e6⟩ := clC_get xs k hlt
      have c0 := hcell _ _ e0
      have c1 := hcell _ _ e1
      have c2 := hcell _ _ e2
      have c3 := hcell _ _ e3
      have c4 := hcell _ _ e4
      have c5 := hcell _ _ e5
      have c6 := hcell _ _ e6
      rw [← Nat.add_assoc] at c1 c2 c3 c4 c5 c6
      clear hcell e0 e1 e2 e3 e4 e5 e6
      have HW1 := Lib.hid (wC_at (xs := xs) (p := P) hlt)
      have HT1 := Lib.hid (HT.out xs[k])
      generalize xs[k] = b at c0 c1 c2 c3 c4 c5 c6 HW1 HT1
      go_upto_region 5 with (fail)
      have k0 := cell_regrown c0
      have k1 := cell_regrown c1
      have k2 := cell_regrown c2
      have k3 := cell_regrown c3
      have k4 := cell_regrown c4
      have k5 := cell_regrown c5
      have k6 := cell_regrown c6
      obtain ⟨x0, x1, x2, x3⟩ := seven_regrown HK.out.1
      clear c0 c1 c2 c3 c4 c5 c6
      have r1 : ∀ d os, Calls Tryz.prog 118 #[.agg #[.string b.src, .int .i64 b.kind, .string b.place, .string b.val_, .int .i64 b.lo, .int .i64 b.hi, .int .i64 b.weight], .agg #[.int .i64 f.kind, .string f.place, .string f.val_, .int .i64 f.year]] (grow (redrawn wr d) os) (fun e w'' => e = .returned (.bool (P b)) ∧ ∃ p : Regrown, w'' = grow (redrawn wr p.d) p.os) := fun d os => Calls.regrown_of (HT1.out _)
      cases q1 : P b
      all_goals rw [q1] at r1
      · have HL1 := Lib.hid (show wC xs P (k + 1) = wC xs P k by rw [HW1.out, q1]; rfl)
        clear q1
        refine wp_region_quiet_below (by kernel_rfl) (by kernel_rfl) ?_; (repeat (first | go_big_quiet_step ((first | with_reducible exact r1 _ _)))); refine wpQuiet_nil ?_; intro _ hw'; obtain ⟨⟨dq, osq⟩, rfl⟩ := hw'
        have HK2 := Lib.hid (HK.out.1.below (below_regrown wr dq osq) HK.out.1.lt)
        have O2 := Lib.hid (own_below HO.out (below_regrown wr dq osq))
        have B2 := Lib.hid (BW.out.trans ((below_regrown wr dq osq).mono BW.out.size))
        generalize grow (redrawn wr dq) osq = w2 at HK2 O2 B2 ⊢
        clear r1 k0 k1 k2 k3 k4 k5 k6 x0 x1 x2 x3
        go_wp2_with fail
        go_roundw
        case rel => exact ⟨k + 1, n, B, d, by omega, by omega, by rw [HL1.out]; exact HN.out, rfl, by rw [HL1.out]; exact O2.out, ⟨HK2.out, HK.out.2⟩, B2.out, by go_num⟩
        case measure => simp [intOf]; omega
      · have HL1 := Lib.hid (show wC xs P (k + 1) = wC xs P k ++ [(k : Int)] by rw [HW1.out, q1]; rfl)
        clear q1
        refine wp_region_quiet_below (by kernel_rfl) (by kernel_rfl) ?_; (repeat (first | go_big_quiet_step ((first | with_reducible exact r1 _ _)))); refine wpQuiet_nil ?_; intro _ hw'; obtain ⟨⟨dq, osq⟩, rfl⟩ := hw'
        have HK2 := Lib.hid (HK.out.1.below (below_regrown wr dq osq) HK.out.1.lt)
        have O2 := Lib.hid (own_below HO.out (below_regrown wr dq osq))
        have B2 := Lib.hid (BW.out.trans ((below_regrown wr dq osq).mono BW.out.size))
        generalize grow (redrawn wr dq) osq = w2 at HK2 O2 B2 ⊢
        clear r1 k0 k1 k2 k3 k4 k5 k6 x0 x1 x2 x3
        go_wp2_with (at_builtin; refine wpList_append_any _ rfl (.tmp 20) (.tmp 22) _ rfl w.heap.size 2 i0 _ 1 8 Tryz.underlying31 hi0 hz0 hz1 hz2 rfl (by omega) (.slice B n d) n (inC (wC xs P k)) rfl (O2.out.alloc _) _ (some ⟨w2.heap.size, 0, none⟩) 1 1 [.int .i64 k] rfl (new_in1 _ _ _) (by simp [Value.oneCell']) (by simp only [maxLen]; omega) (by omega) (by have := B2.out.size; simp; omega) ?_; intro v4 w4 hown4 hg4 hat4; obtain ⟨B4, d4, rfl, _⟩ := own_shape hown4)
        go_roundw
        case rel => exact ⟨k + 1, n + 1, B4, d4, by omega, by omega, by have := HN.out; rw [HL1.out]; simp [Hid, this], rfl, by rw [HL1.out, inC_snoc]; exact hown4, ⟨(HK2.out.alloc _).grown hg4 (fun e => by have := HK.out.2 _ e.symm; omega), fun g hg => by
            rcases hat4 with h4 | h4
            · rw [h4] at hg; exact HK.out.2 g hg
            · rw [h4] at hg; have := HK2.out.lt; injection hg with hg; subst hg; simp; omega⟩, below_own (B2.out.alloc B2.out.size _) (O2.out.alloc _) hg4 (Nat.le_refl _) (by have := B2.out.size; simp; omega), by go_num⟩
        case measure => simp [intOf]; omega
    · obtain rfl : k = xs.length := by omega
      have HN' := HN.out
      go_wp2_with fail
      go_ret
      exact ⟨_, rfl, by rw [HL.out, HN']; exact HO.out, BW.out⟩
set_option maxRecDepth 100000 in
set_option maxHeartbeats 2000000 in
theorem specDenL_any (xs : List Clm) (f : Fct) (hm : xs.length ≤ 1048576) (A : Option Addr) (c : Nat) (w : World) (h : HasClm w xs A) :
    Calls Tryz.prog 56 #[.slice A xs.length c, f.val] w fun e w' => ∃ v, e = .returned v ∧ w'.ownsRow w.heap.size 2 1 v (whichC xs (denB f)).length (inC (whichC xs (denB f))) ∧ Below w.heap.size w w' := by
  obtain ⟨i0, hi0, hz0, hz1, hz2⟩ := info_parts infoInt
  have H := Lib.hid h; clear h
  have KN := Lib.hid (blks_two w 26 2 #[.int .i64 f.kind, .string f.place, .string f.val_, .int .i64 f.year] #[])
  have HF := Lib.hid (specFc_any f)
  obtain ⟨P, hP⟩ : ∃ P : Clm → Bool, (denB f) = P := ⟨_, rfl⟩
  have HPf := Lib.hid (show ∀ a, ctrB a (fclm ⟨#[102, 97, 99, 116]⟩ f) = P a from fun a => by first | (rw [← hP]; done) | (rw [← hP]; rfl))
  have HT := Lib.hid (fun a w => by have h := specCtr_any a (fclm ⟨#[102, 97, 99, 116]⟩ f) w; rw [HPf.out a] at h; exact h)
  rw [hP]
  clear hP
  have HL := Lib.hid (show whichC xs P = wC xs P xs.length from rfl)
  generalize whichC xs P = LL at HL ⊢
  unfold Clm.val at HT
  unfold fclm at HT
  dsimp only at HT
  unfold Fct.val at HF ⊢
  go_enter Tryz.func56, Tryz.ntmps56
  go_upto_region 2 with (fail)
  generalize hW : (w.alloc (.cells #[.int .i64 f.kind, .string f.place, .string f.val_, .int .i64 f.year] 26)).alloc (.cells #[] 2) = W
  obtain ⟨kb, ke, bw, hsz⟩ := KN.out W hW.symm
  have OW := Lib.hid (show W.ownsRow w.heap.size 2 1 (.slice (some ⟨w.heap.size + 1, 0, none⟩) 0 0) 0 (inC []) by
    have := World.ownsRow_made (e := 2) (base := w.heap.size) (size := 1) (w.alloc (.cells #[.int .i64 f.kind, .string f.place, .string f.val_, .int .i64 f.year] 26)) #[] 0 (by simp) (by decide) rfl
    rw [hW] at this
    simpa [inC] using this)
  clear hW hsz ke
  have KB := Lib.hid kb; have BW0 := Lib.hid bw; have LB := Lib.hid kb.lt; clear kb bw
  go_wp2_with fail
  go_loopw [5, 6] (fun v5 v6 wr => ∃ (k n : Nat) (B : Option Addr) (d : Nat), k ≤ xs.length ∧ n ≤ k ∧ Hid ((wC xs P k).length = n) ∧ v5 = .slice B n d ∧ Hid (wr.ownsRow w.heap.size 2 1 (.slice B n d) n (inC (wC xs P k))) ∧ Hid (Blk wr w.heap.size 26 #[.int .i64 f.kind, .string f.place, .string f.val_, .int .i64 f.year] ∧ ∀ g, (Value.slice B n d).ownBlock = some g → w.heap.size < g) ∧ Hid (Below w.heap.size w wr) ∧ v6 = .int .i64 k) (fun _ i _ => xs.length - (intOf i).toNat)
  case atStart => exact ⟨0, 0, _, _, by omega, by omega, rfl, rfl, OW.out, ⟨KB.out, fun g hg => by simp [Value.ownBlock] at hg; omega⟩, BW0.out, rfl⟩
  case round =>
    obtain ⟨k, n, B, d, hk, hnk, HN, rfl, HO, HK, BW, rfl⟩ := hrel
    by_cases hlt : k < xs.length
    · obtain ⟨ab, ao, rfl, hadb, hcell⟩ := (H.out.below BW.out).1.2 (by omega)
      obtain ⟨e0, e1, e2, e3, e4, e5, e6⟩ := clC_get xs k hlt
      have c0 := hcell _ _ e0
      have c1 := hcell _ _ e1
      have c2 := hcell _ _ e2
      have c3 := hcell _ _ e3
      have c4 := hcell _ _ e4
      have c5 := hcell _ _ e5
      have c6 := hcell _ _ e6
      rw [← Nat.add_assoc] at c1 c2 c3 c4 c5 c6
      clear hcell e0 e1 e2 e3 e4 e5 e6
      have HW1 := Lib.hid (wC_at (xs := xs) (p := P) hlt)
      have HT1 := Lib.hid (HT.out xs[k])
      generalize xs[k] = b at c0 c1 c2 c3 c4 c5 c6 HW1 HT1
      go_upto_region 5 with (fail)
      have k0 := cell_regrown c0
      have k1 := cell_regrown c1
      have k2 := cell_regrown c2
      have k3 := cell_regrown c3
      have k4 := cell_regrown c4
      have k5 := cell_regrown c5
      have k6 := cell_regrown c6
      obtain ⟨x0, x1, x2, x3⟩ := seven_regrown HK.out.1
      clear c0 c1 c2 c3 c4 c5 c6
      have r1 : ∀ d os, Calls Tryz.prog 120 #[.agg #[.string b.src, .int .i64 b.kind, .string b.place, .string b.val_, .int .i64 b.lo, .int .i64 b.hi, .int .i64 b.weight], .agg #[.string ⟨#[102, 97, 99, 116]⟩, .int .i64 f.kind, .string f.place, .string f.val_, .int .i64 f.year, .int .i64 f.year, .int .i64 1]] (grow (redrawn wr d) os) (fun e w'' => e = .returned (.bool (P b)) ∧ ∃ p : Regrown, w'' = grow (redrawn wr p.d) p.os) := fun d os => Calls.regrown_of (HT1.out _)
      have r2 : ∀ d os, Calls Tryz.prog 66 #[.agg #[.int .i64 f.kind, .string f.place, .string f.val_, .int .i64 f.year]] (grow (redrawn wr d) os) (fun e w'' => e = .returned (.agg #[.string ⟨#[102, 97, 99, 116]⟩, .int .i64 f.kind, .string f.place, .string f.val_, .int .i64 f.year, .int .i64 f.year, .int .i64 1]) ∧ ∃ p : Regrown, w'' = grow (redrawn wr p.d) p.os) := fun d os => Calls.regrown_of (HF.out _)
      cases q1 : P b
      all_goals rw [q1] at r1
      · have HL1 := Lib.hid (show wC xs P (k + 1) = wC xs P k by rw [HW1.out, q1]; rfl)
        clear q1
        refine wp_region_quiet_below (by kernel_rfl) (by kernel_rfl) ?_; (repeat (first | go_big_quiet_step ((first | with_reducible exact r1 _ _ | with_reducible exact r2 _ _)))); refine wpQuiet_nil ?_; intro _ hw'; obtain ⟨⟨dq, osq⟩, rfl⟩ := hw'
        have HK2 := Lib.hid (HK.out.1.below (below_regrown wr dq osq) HK.out.1.lt)
        have O2 := Lib.hid (own_below HO.out (below_regrown wr dq osq))
        have B2 := Lib.hid (BW.out.trans ((below_regrown wr dq osq).mono BW.out.size))
        generalize grow (redrawn wr dq) osq = w2 at HK2 O2 B2 ⊢
        clear r1 r2 k0 k1 k2 k3 k4 k5 k6 x0 x1 x2 x3
        go_wp2_with fail
        go_roundw
        case rel => exact ⟨k + 1, n, B, d, by omega, by omega, by rw [HL1.out]; exact HN.out, rfl, by rw [HL1.out]; exact O2.out, ⟨HK2.out, HK.out.2⟩, B2.out, by go_num⟩
        case measure => simp [intOf]; omega
      · have HL1 := Lib.hid (show wC xs P (k + 1) = wC xs P k ++ [(k : Int)] by rw [HW1.out, q1]; rfl)
        clear q1
        refine wp_region_quiet_below (by kernel_rfl) (by kernel_rfl) ?_; (repeat (first | go_big_quiet_step ((first | with_reducible exact r1 _ _ | with_reducible exact r2 _ _)))); refine wpQuiet_nil ?_; intro _ hw'; obtain ⟨⟨dq, osq⟩, rfl⟩ := hw'
        have HK2 := Lib.hid (HK.out.1.below (below_regrown wr dq osq) HK.out.1.lt)
        have O2 := Lib.hid (own_below HO.out (below_regrown wr dq osq))
        have B2 := Lib.hid (BW.out.trans ((below_regrown wr dq osq).mono BW.out.size))
        generalize grow (redrawn wr dq) osq = w2 at HK2 O2 B2 ⊢
        clear r1 r2 k0 k1 k2 k3 k4 k5 k6 x0 x1 x2 x3
        go_wp2_with (at_builtin; refine wpList_append_any _ rfl (.tmp 21) (.tmp 23) _ rfl w.heap.size 2 i0 _ 1 8 Tryz.underlying31 hi0 hz0 hz1 hz2 rfl (by omega) (.slice B n d) n (inC (wC xs P k)) rfl (O2.out.alloc _) _ (some ⟨w2.heap.size, 0, none⟩) 1 1 [.int .i64 k] rfl (new_in1 _ _ _) (by simp [Value.oneCell']) (by simp only [maxLen]; omega) (by omega) (by have := B2.out.size; simp; omega) ?_; intro v4 w4 hown4 hg4 hat4; obtain ⟨B4, d4, rfl, _⟩ := own_shape hown4)
        go_roundw
        case rel => exact ⟨k + 1, n + 1, B4, d4, by omega, by omega, by have := HN.out; rw [HL1.out]; simp [Hid, this], rfl, by rw [HL1.out, inC_snoc]; exact hown4, ⟨(HK2.out.alloc _).grown hg4 (fun e => by have := HK.out.2 _ e.symm; omega), fun g hg => by
            rcases hat4 with h4 | h4
            · rw [h4] at hg; exact HK.out.2 g hg
            · rw [h4] at hg; have := HK2.out.lt; injection hg with hg; subst hg; simp; omega⟩, below_own (B2.out.alloc B2.out.size _) (O2.out.alloc _) hg4 (Nat.le_refl _) (by have := B2.out.size; simp; omega), by go_num⟩
        case measure => simp [intOf]; omega
    · obtain rfl : k = xs.length := by omega
      have HN' := HN.out
      go_wp2_with fail
      go_ret
      exact ⟨_, rfl, by rw [HL.out, HN']; exact HO.out, BW.out⟩
set_option maxRecDepth 100000 in
set_option maxHeartbeats 2000000 in
theorem whereTel_any (P : Clm → Bool) (xs : List Clm) (hm : xs.length ≤ 1048576) (g : Nat) (A : Option Addr) (c : Nat) (w : World) (h : HasClm w xs A)
    (hcl : ∀ b ∈ xs, ∀ W, Below w.heap.size w W → Calls Tryz.prog 116 #[b.val, .pointer (some ⟨g, 0, none⟩)] W fun e w' => e = .returned (.bool (P b)) ∧ Below W.heap.size W w') :
    Calls Tryz.prog 115 #[.slice A xs.length c, .func (.func 116) #[] #[.pointer (some ⟨g, 0, none⟩)]] w fun e w' => ∃ v, e = .returned v ∧ w'.ownsRow w.heap.size 2 1 v (whichC xs P).length (inC (whichC xs P)) ∧ Below w.heap.size w w' := by
  obtain ⟨i0, hi0, hz0, hz1, hz2⟩ := info_parts infoInt
  have H := Lib.hid h; clear h
  have HCl := Lib.hid hcl; clear hcl
  have HL := Lib.hid (show whichC xs P = wC xs P xs.length from rfl)
  generalize whichC xs P = LL at HL ⊢
  unfold Clm.val at HCl
  go_enter Tryz.func115, Tryz.ntmps115
  go_wp2_with fail
  go_loopw [5, 10] (fun v5 v10 wr => ∃ (k n : Nat) (B : Option Addr) (d : Nat), k ≤ xs.length ∧ n ≤ k ∧ Hid ((wC xs P k).length = n) ∧ v5 = .slice B n d ∧ Hid (wr.ownsRow w.heap.size 2 1 (.slice B n d) n (inC (wC xs P k))) ∧ Hid (Below w.heap.size w wr) ∧ v10 = .int .i64 k) (fun _ i _ => xs.length - (intOf i).toNat)
  case atStart => exact ⟨0, 0, none, 0, by omega, by omega, rfl, rfl, World.ownsRow_nil _ _ _ _, Below.refl _ _, rfl⟩
  case round =>
    obtain ⟨k, n, B, d, hk, hnk, HN, rfl, HO, BW, rfl⟩ := hrel
    by_cases hlt : k < xs.length
    · obtain ⟨ab, ao, rfl, hadb, hcell⟩ := (H.out.below BW.out).1.2 (by omega)
      obtain ⟨e0, e1, e2, e3, e4, e5, e6⟩ := clC_get xs k hlt
      have c0 := hcell _ _ e0
      have c1 := hcell _ _ e1
      have c2 := hcell _ _ e2
      have c3 := hcell _ _ e3
      have c4 := hcell _ _ e4
      have c5 := hcell _ _ e5
      have c6 := hcell _ _ e6
      rw [← Nat.add_assoc] at c1 c2 c3 c4 c5 c6
      clear hcell e0 e1 e2 e3 e4 e5 e6
      have HW1 := Lib.hid (wC_at (xs := xs) (p := P) hlt)
      have HC1 := Lib.hid (HCl.out xs[k] (List.getElem_mem hlt))
      have T3 := Lib.hid (fun b : Clm => blks_one wr 81 #[.string b.src, .int .i64 b.kind, .string b.place, .string b.val_, .int .i64 b.lo, .int .i64 b.hi, .int .i64 b.weight])
      generalize xs[k] = b at c0 c1 c2 c3 c4 c5 c6 HW1 HC1
      go_upto_region 5 with (fail)
      generalize hW2 : wr.alloc (.cells #[.string b.src, .int .i64 b.kind, .string b.place, .string b.val_, .int .i64 b.lo, .int .i64 b.hi, .int .i64 b.weight] 81) = W2
      obtain ⟨kf, bf, hsz⟩ := T3.out b W2 hW2.symm
      clear hW2 hsz c0 c1 c2 c3 c4 c5 c6
      have BF := Lib.hid (BW.out.trans (bf.mono BW.out.size))
      have OF := Lib.hid (own_below HO.out bf)
      obtain ⟨y0, y1, y2, y3, y4, y5, y6⟩ := cells_7 kf
      clear kf bf
      cases q1 : P b
      all_goals rw [q1] at HC1
      · have HL1 := Lib.hid (show wC xs P (k + 1) = wC xs P k by rw [HW1.out, q1]; rfl)
        clear q1
        go_wp2_with fail
        refine (HC1.out W2 BF.out).mono ?_; rintro e w1 ⟨rfl, b1⟩
        go_wp2_with fail
        go_roundw
        case rel => exact ⟨k + 1, n, B, d, by omega, by omega, by rw [HL1.out]; exact HN.out, rfl, by rw [HL1.out]; exact own_below OF.out b1, BF.out.trans (b1.mono BF.out.size), by go_num⟩
        case measure => simp [intOf]; omega
      · have HL1 := Lib.hid (show wC xs P (k + 1) = wC xs P k ++ [(k : Int)] by rw [HW1.out, q1]; rfl)
        clear q1
        go_wp2_with fail
        refine (HC1.out W2 BF.out).mono ?_; rintro e w2 ⟨rfl, b2⟩
        have B2 := Lib.hid (BF.out.trans (b2.mono BF.out.size)); have O2 := Lib.hid (own_below OF.out b2)
        clear b2
        go_wp2_with (at_builtin; refine wpList_append_any _ rfl (.tmp 18) (.tmp 20) _ rfl w.heap.size 2 i0 _ 1 8 Tryz.underlying31 hi0 hz0 hz1 hz2 rfl (by omega) (.slice B n d) n (inC (wC xs P k)) rfl (O2.out.alloc _) _ (some ⟨w2.heap.size, 0, none⟩) 1 1 [.int .i64 k] rfl (new_in1 _ _ _) (by simp [Value.oneCell']) (by simp only [maxLen]; omega) (by omega) (by have := B2.out.size; simp; omega) ?_; intro v4 w4 hown4 hg4 hat4; obtain ⟨B4, d4, rfl, _⟩ := own_shape hown4)
        go_roundw
        case rel => exact ⟨k + 1, n + 1, B4, d4, by omega, by omega, by have := HN.out; rw [HL1.out]; simp [Hid, this], rfl, by rw [HL1.out, inC_snoc]; exact hown4, below_own (B2.out.alloc B2.out.size _) (O2.out.alloc _) hg4 (Nat.le_refl _) (by have := B2.out.size; simp; omega), by go_num⟩
        case measure => simp [intOf]; omega
    · obtain rfl : k = xs.length := by omega
      have HN' := HN.out
      go_wp2_with fail
      go_ret
      exact ⟨_, rfl, by rw [HL.out, HN']; exact HO.out, BW.out⟩
set_option maxRecDepth 100000 in
set_option maxHeartbeats 2000000 in
theorem whereCtr_any (P : Clm → Bool) (xs : List Clm) (hm : xs.length ≤ 1048576) (f : Fct) (A : Option Addr) (c : Nat) (w : World) (h : HasClm w xs A)
    (hcl : ∀ b ∈ xs, ∀ W, Below w.heap.size w W → Calls Tryz.prog 119 #[.agg #[.string ⟨#[97]⟩, .int .i64 f.kind, .string f.place, .string f.val_, .int .i64 f.year, .int .i64 f.year, .int .i64 1], b.val] W fun e w' => e = .returned (.bool (P b)) ∧ Below W.heap.size W w') :
    Calls Tryz.prog 115 #[.slice A xs.length c, .func (.func 119) #[.agg #[.string ⟨#[97]⟩, .int .i64 f.kind, .string f.place, .string f.val_, .int .i64 f.year, .int .i64 f.year, .int .i64 1]] #[]] w fun e w' => ∃ v, e = .returned v ∧ w'.ownsRow w.heap.size 2 1 v (whichC xs P).length (inC (whichC xs P)) ∧ Below w.heap.size w w' := by
  obtain ⟨i0, hi0, hz0, hz1, hz2⟩ := info_parts infoInt
  have H := Lib.hid h; clear h
  have HCl := Lib.hid hcl; clear hcl
  have HL := Lib.hid (show whichC xs P = wC xs P xs.length from rfl)
  generalize whichC xs P = LL at HL ⊢
  unfold Clm.val at HCl
  go_enter Tryz.func115, Tryz.ntmps115
  go_wp2_with fail
  go_loopw [5, 10] (fun v5 v10 wr => ∃ (k n : Nat) (B : Option Addr) (d : Nat), k ≤ xs.length ∧ n ≤ k ∧ Hid ((wC xs P k).length = n) ∧ v5 = .slice B n d ∧ Hid (wr.ownsRow w.heap.size 2 1 (.slice B n d) n (inC (wC xs P k))) ∧ Hid (Below w.heap.size w wr) ∧ v10 = .int .i64 k) (fun _ i _ => xs.length - (intOf i).toNat)
  case atStart => exact ⟨0, 0, none, 0, by omega, by omega, rfl, rfl, World.ownsRow_nil _ _ _ _, Below.refl _ _, rfl⟩
  case round =>
    obtain ⟨k, n, B, d, hk, hnk, HN, rfl, HO, BW, rfl⟩ := hrel
    by_cases hlt : k < xs.length
    · obtain ⟨ab, ao, rfl, hadb, hcell⟩ := (H.out.below BW.out).1.2 (by omega)
      obtain ⟨e0, e1, e2, e3, e4, e5, e6⟩ := clC_get xs k hlt
      have c0 := hcell _ _ e0
      have c1 := hcell _ _ e1
      have c2 := hcell _ _ e2
      have c3 := hcell _ _ e3
      have c4 := hcell _ _ e4
      have c5 := hcell _ _ e5
      have c6 := hcell _ _ e6
      rw [← Nat.add_assoc] at c1 c2 c3 c4 c5 c6
      clear hcell e0 e1 e2 e3 e4 e5 e6
      have HW1 := Lib.hid (wC_at (xs := xs) (p := P) hlt)
      have HC1 := Lib.hid (HCl.out xs[k] (List.getElem_mem hlt))
      have T3 := Lib.hid (fun b : Clm => blks_one wr 81 #[.string b.src, .int .i64 b.kind, .string b.place, .string b.val_, .int .i64 b.lo, .int .i64 b.hi, .int .i64 b.weight])
      generalize xs[k] = b at c0 c1 c2 c3 c4 c5 c6 HW1 HC1
      go_upto_region 5 with (fail)
      generalize hW2 : wr.alloc (.cells #[.string b.src, .int .i64 b.kind, .string b.place, .string b.val_, .int .i64 b.lo, .int .i64 b.hi, .int .i64 b.weight] 81) = W2
      obtain ⟨kf, bf, hsz⟩ := T3.out b W2 hW2.symm
      clear hW2 hsz c0 c1 c2 c3 c4 c5 c6
      have BF := Lib.hid (BW.out.trans (bf.mono BW.out.size))
      have OF := Lib.hid (own_below HO.out bf)
      obtain ⟨y0, y1, y2, y3, y4, y5, y6⟩ := cells_7 kf
      clear kf bf
      cases q1 : P b
      all_goals rw [q1] at HC1
      · have HL1 := Lib.hid (show wC xs P (k + 1) = wC xs P k by rw [HW1.out, q1]; rfl)
        clear q1
        go_wp2_with fail
        refine (HC1.out W2 BF.out).mono ?_; rintro e w1 ⟨rfl, b1⟩
        go_wp2_with fail
        go_roundw
        case rel => exact ⟨k + 1, n, B, d, by omega, by omega, by rw [HL1.out]; exact HN.out, rfl, by rw [HL1.out]; exact own_below OF.out b1, BF.out.trans (b1.mono BF.out.size), by go_num⟩
        case measure => simp [intOf]; omega
      · have HL1 := Lib.hid (show wC xs P (k + 1) = wC xs P k ++ [(k : Int)] by rw [HW1.out, q1]; rfl)
        clear q1
        go_wp2_with fail
        refine (HC1.out W2 BF.out).mono ?_; rintro e w2 ⟨rfl, b2⟩
        have B2 := Lib.hid (BF.out.trans (b2.mono BF.out.size)); have O2 := Lib.hid (own_below OF.out b2)
        clear b2
        go_wp2_with (at_builtin; refine wpList_append_any _ rfl (.tmp 18) (.tmp 20) _ rfl w.heap.size 2 i0 _ 1 8 Tryz.underlying31 hi0 hz0 hz1 hz2 rfl (by omega) (.slice B n d) n (inC (wC xs P k)) rfl (O2.out.alloc _) _ (some ⟨w2.heap.size, 0, none⟩) 1 1 [.int .i64 k] rfl (new_in1 _ _ _) (by simp [Value.oneCell']) (by simp only [maxLen]; omega) (by omega) (by have := B2.out.size; simp; omega) ?_; intro v4 w4 hown4 hg4 hat4; obtain ⟨B4, d4, rfl, _⟩ := own_shape hown4)
        go_roundw
        case rel => exact ⟨k + 1, n + 1, B4, d4, by omega, by omega, by have := HN.out; rw [HL1.out]; simp [Hid, this], rfl, by rw [HL1.out, inC_snoc]; exact hown4, below_own (B2.out.alloc B2.out.size _) (O2.out.alloc _) hg4 (Nat.le_refl _) (by have := B2.out.size; simp; omega), by go_num⟩
        case measure => simp [intOf]; omega
    · obtain rfl : k = xs.length := by omega
      have HN' := HN.out
      go_wp2_with fail
      go_ret
      exact ⟨_, rfl, by rw [HL.out, HN']; exact HO.out, BW.out⟩
theorem tel1_any (b : Clm) (f : Fct) (g : Nat) (w : World) (hb : Blk w g 26 #[.int .i64 f.kind, .string f.place, .string f.val_, .int .i64 f.year]) : Calls Tryz.prog 116 #[b.val, .pointer (some ⟨g, 0, none⟩)] w fun e w' => e = .returned (.bool (telB b f)) ∧ Below w.heap.size w w' := by
  have HT := Lib.hid (implTel_any b f)
  have KN := Lib.hid (blks_one w 81 #[.string b.src, .int .i64 b.kind, .string b.place, .string b.val_, .int .i64 b.lo, .int .i64 b.hi, .int .i64 b.weight])
  have HB := Lib.hid hb; clear hb
  unfold Clm.val Fct.val at HT
  unfold Clm.val
  generalize telB b f = r at HT ⊢
  go_enter Tryz.func116, Tryz.ntmps116
  go_upto_region 1 with (fail)
  generalize hW : w.alloc (.cells #[.string b.src, .int .i64 b.kind, .string b.place, .string b.val_, .int .i64 b.lo, .int .i64 b.hi, .int .i64 b.weight] 81) = W
  obtain ⟨bk, bw, _⟩ := KN.out W hW.symm
  clear hW
  obtain ⟨x0, x1, x2, x3⟩ := cells_4 (HB.out.below bw HB.out.lt)
  obtain ⟨c0, c1, c2, c3, c4, c5, c6⟩ := cells_7 bk
  clear bk
  go_wp2_with fail
  refine (HT.out W).mono ?_; rintro e w1 ⟨rfl, b1⟩
  go_wp2_with fail
  go_ret
  exact ⟨rfl, bw.trans (b1.mono bw.size)⟩
set_option maxRecDepth 100000 in
theorem implTelL_any (xs : List Clm) (f : Fct) (hm : xs.length ≤ 1048576) (A : Option Addr) (c : Nat) (w : World) (h : HasClm w xs A) :
    Calls Tryz.prog 53 #[.slice A xs.length c, f.val] w fun e w' => ∃ v, e = .returned v ∧ w'.ownsRow w.heap.size 2 1 v (whichC xs (fun c => telB c f)).length (inC (whichC xs (fun c => telB c f))) ∧ Below w.heap.size w w' := by
  have H := Lib.hid h; clear h
  have KN := Lib.hid (blks_one w 26 #[.int .i64 f.kind, .string f.place, .string f.val_, .int .i64 f.year])
  have HWh := Lib.hid (fun W (hB : Below w.heap.size w W) (hk : Blk W w.heap.size 26 #[.int .i64 f.kind, .string f.place, .string f.val_, .int .i64 f.year]) => whereTel_any (fun c => telB c f) xs hm w.heap.size A c W (H.out.below hB) (fun b _ W' hB' => tel1_any b f w.heap.size W' (hk.below hB' hk.lt)))
  generalize whichC xs (fun c => telB c f) = L at HWh ⊢
  unfold Fct.val
  go_enter Tryz.func53, Tryz.ntmps53
  go_upto_region 1 with (fail)
  generalize hW : w.alloc (.cells #[.int .i64 f.kind, .string f.place, .string f.val_, .int .i64 f.year] 26) = W
  obtain ⟨bk, bw, _⟩ := KN.out W hW.symm
  clear hW
  go_wp2_with fail
  refine (HWh.out W bw bk).mono ?_; rintro e w1 ⟨v, rfl, own1, b1⟩
  go_wp2_with fail
  go_ret
  exact ⟨v, rfl, own_mono own1 bw.size, bw.trans (b1.mono bw.size)⟩
set_option maxRecDepth 100000 in
theorem implDenL_any (xs : List Clm) (f : Fct) (hm : xs.length ≤ 1048576) (A : Option Addr) (c : Nat) (w : World) (h : HasClm w xs A) :
    Calls Tryz.prog 55 #[.slice A xs.length c, f.val] w fun e w' => ∃ v, e = .returned v ∧ w'.ownsRow w.heap.size 2 1 v (whichC xs (denB f)).length (inC (whichC xs (denB f))) ∧ Below w.heap.size w w' := by
  have H := Lib.hid h; clear h
  have KN := Lib.hid (blks_one w 26 #[.int .i64 f.kind, .string f.place, .string f.val_, .int .i64 f.year])
  have HF := Lib.hid (implFc_any f)
  have HWh := Lib.hid (fun W (hB : Below w.heap.size w W) => whereCtr_any (denB f) xs hm f A c W (H.out.below hB) (fun b _ W' _ => by rw [show denB f b = ctrB (fclm ⟨#[97]⟩ f) b from ctr_symm _ _]; exact implCtr_any (fclm ⟨#[97]⟩ f) b W'))
  generalize whichC xs (denB f) = L at HWh ⊢
  unfold Fct.val at HF ⊢
  go_enter Tryz.func55, Tryz.ntmps55
  go_upto_region 1 with (fail)
  generalize hW : w.alloc (.cells #[.int .i64 f.kind, .string f.place, .string f.val_, .int .i64 f.year] 26) = W
  obtain ⟨bk, bw, _⟩ := KN.out W hW.symm
  clear hW
  obtain ⟨x0, x1, x2, x3⟩ := cells_4 bk
  clear bk
  go_wp2_with fail
  refine (HF.out W).mono ?_; rintro e w1 ⟨rfl, b1⟩
  have B1 := Lib.hid (bw.trans (b1.mono bw.size))
  clear b1
  go_wp2_with fail
  refine (HWh.out w1 B1.out).mono ?_; rintro e w2 ⟨v, rfl, own1, b2⟩
  go_wp2_with fail
  go_ret
  exact ⟨v, rfl, own_mono own1 B1.out.size, B1.out.trans (b2.mono B1.out.size)⟩
end Go.Proofs.YtihhpmhigmegjaaGreatDoor
