/- QualifiedText: what it computes; the reference. -/
import Derived.Test.YthaampckdcimmaaDoorRows
import Derived.Test.YthaampckdcimmaaDoorL0
import Derived.Test.YthaampckdcimmaaDoorM0
import Derived.WalkKit
import Derived.ProofKit
import Derived.OpenShut
import Derived.BigQuiet
import Derived.Outline
import Derived.WalkSpells
import Derived.WalkLawsBesides
import Derived.Deep.DeepCutAuto
import Derived.Test.YthaampckdcimmaaDoorGJ
import Derived.Test.YthaampckdcimmaaDoorG4
import Derived.Test.YthaampckdcimmaaDoorH8
import Derived.Test.YthaampckdcimmaaDoorQ1
namespace Go.Proofs.YthaampckdcimmaaDoor
open Go.ChangeShapes Go.WideShapes Go.ChangeAt Go.RowKit Go.Sort

def wordQ (f b : Ent) : ByteArray := if f.x = b.x ∧ f.y = b.y then ⟨#[110, 101, 119]⟩ else dirsL.getD (dirV (b.x - f.x) (b.y - f.y)).toNat ⟨#[]⟩
def outQ (f b : Ent) : ByteArray := (wordQ f b ++ ⟨#[32]⟩) ++ b.text
def resQ (o : ByteArray) : ByteArray × Int := if phrB o = true then (o, 0) else (⟨#[]⟩, 3)
def firstQ (xs : List Ent) (i : Nat) : Ent := xs.getD i ⟨⟨#[]⟩, 0, 0, 0⟩
/-- The text and the code. -/
def qtV (xs : List Ent) (b : Ent) (d : Int) : ByteArray × Int :=
  if codeE xs (entB b) d = 0 then
    match whichE xs (pBar b d) with
    | [] => (b.text, 0)
    | i :: _ => resQ (outQ (firstQ xs i.toNat) b)
  else (⟨#[]⟩, codeE xs (entB b) d)
theorem dirs_at {k : Nat} (h : k < 8) : dirsL.getD k ⟨#[]⟩ = dirsL[k]'(by rw [dirs_len]; exact h) := by
  rw [List.getD_eq_getElem?_getD, List.getElem?_eq_getElem (by rw [dirs_len]; exact h)]; rfl
theorem dirs_size {k : Nat} (h : k < 8) : (dirsL[k]'(by rw [dirs_len]; exact h)).size ≤ 9 :=
  (show ∀ s ∈ dirsL, s.size ≤ 9 by decide) _ (List.getElem_mem _)
theorem wTo_in {xs : List Ent} {p : Ent → Bool} : ∀ {k : Nat}, ∀ v ∈ wTo xs p k, 0 ≤ v ∧ v < (k : Int)
  | 0, v, h => by simp [wTo] at h
  | k + 1, v, h => by
    unfold wTo at h
    revert h
    (repeat' split) <;> intro h
    all_goals first
      | (have := wTo_in v h; omega)
      | (rcases List.mem_append.1 h with h | h
         · have := wTo_in v h; omega
         · have := List.mem_singleton.1 h; omega)
/-- What the two functions do once the code is 0 and something bars. -/
theorem qtV_some {xs : List Ent} {b : Ent} {d : Int} {i : Int} {T : List Int} (hz : codeE xs (entB b) d = 0) (hL : whichE xs (pBar b d) = i :: T) :
    ∃ (k : Nat) (hk : k < xs.length), i = k ∧ qtV xs b d = resQ (outQ xs[k] b) := by
  obtain ⟨h0, h1⟩ := wTo_in (xs := xs) (p := pBar b d) (k := xs.length) i (by rw [← whichE, hL]; exact List.mem_cons_self ..)
  refine ⟨i.toNat, by omega, by omega, ?_⟩
  rw [qtV, if_pos hz, hL]
  dsimp only
  rw [firstQ, List.getD_eq_getElem?_getD, List.getElem?_eq_getElem (by omega)]
  rfl
theorem qtV_none {xs : List Ent} {b : Ent} {d : Int} (hz : codeE xs (entB b) d = 0) (hL : whichE xs (pBar b d) = []) : qtV xs b d = (b.text, 0) := by
  rw [qtV, if_pos hz, hL]
theorem qtV_bad {xs : List Ent} {b : Ent} {d : Int} (hz : ¬ codeE xs (entB b) d = 0) : qtV xs b d = (⟨#[]⟩, codeE xs (entB b) d) := by
  rw [qtV, if_neg hz]
theorem in_co {f : Ent} (h : entB f = true) : Co f.x ∧ Co f.y := by obtain ⟨h1, h2, _⟩ := ent_bd h; unfold Co; omega
set_option maxRecDepth 100000 in
set_option maxHeartbeats 2000000 in
theorem specQt_any (xs : List Ent) (b : Ent) (dist : Int) (hs : ∀ b ∈ xs, b.text.size ≤ 1048576) (hb : b.text.size ≤ 1048576) (A : Option Addr) (c : Nat) (w : World) (h : HasEnt w xs A) :
    Calls Tryd.prog 35 #[.slice A xs.length c, b.val, .int .i64 dist] w fun e w' => e = .returned (.tuple #[.string (qtV xs b dist).1, .int .i64 (qtV xs b dist).2]) ∧ Below w.heap.size w w' := by
  have HC0 := Lib.hid (fun W (hb' : Below w.heap.size w W) => specCodeE_any xs b dist A c W (h.below hb') hs hb)
  have KN := Lib.hid (blks_one w 30 #[.string b.text, .int .i64 b.x, .int .i64 b.y, .int .i64 b.since])
  by_cases hz : codeE xs (entB b) dist = 0
  · obtain ⟨hx, hm, hb1, hd⟩ := codeE_zero hz
    have HW := Lib.hid (fun W (hb' : Below w.heap.size w W) => specWhich_any xs b dist true hx hb1 hd A c W (h.below hb') hm)
    have HE := Lib.hid (show whichE xs (pBar b dist) = whichE xs (fun f => homB f b dist && (decide (cmpE f b ≤ 0) == true)) from
      wTo_congr (fun f _ => by
        unfold pBar
        rw [homB_comm]
        cases decide (cmpE f b ≤ 0) <;> rfl) _)
    rw [← HE.out] at HW
    rw [hz] at HC0
    clear HE
    cases hL : whichE xs (pBar b dist) with
    | nil =>
      have HR := Lib.hid (qtV_none hz hL)
      rw [hL] at HW
      generalize qtV xs b dist = r at HR ⊢
      clear hL hz hx hb1 hd hs h
      unfold Ent.val at HC0 HW ⊢
      go_enter Tryd.func35, Tryd.ntmps35
      go_wp2_with fail
      generalize hW : w.alloc (.cells #[.string b.text, .int .i64 b.x, .int .i64 b.y, .int .i64 b.since] 30) = W
      obtain ⟨kb, bw, hsz⟩ := KN.out W hW.symm
      clear hW hsz
      refine (HC0.out W bw).mono ?_; rintro e w1 ⟨rfl, b1⟩
      have KB1 := Lib.hid (kb.below b1 kb.lt)
      obtain ⟨x0, x1, x2, x3⟩ := cells_4 KB1.out
      have B1 := Lib.hid (bw.trans (b1.mono bw.size)); clear kb bw b1
      go_wp2_with fail
      refine (HW.out w1 B1.out).mono ?_; rintro e w2 ⟨v, rfl, own2, b2⟩
      obtain ⟨A2, c2, rfl, _⟩ := own_shape own2
      obtain ⟨x0, x1, x2, x3⟩ := cells_4 (KB1.out.below b2 KB1.out.lt)
      have B2 := Lib.hid b2; clear own2 b2
      go_wp2_with fail
      go_ret2
      exact ⟨by rw [HR.out]; (first | done | rfl), B1.out.trans (B2.out.mono B1.out.size)⟩
    | cons i T =>
      obtain ⟨k, hk, rfl, hq⟩ := qtV_some hz hL
      have HR := Lib.hid hq; clear hq
      rw [hL] at HW
      have HC := Lib.hid (enC_get xs k hk)
      have HH := Lib.hid h
      obtain ⟨f, hf⟩ : ∃ f, xs[k] = f := ⟨_, rfl⟩
      rw [hf] at HC HR
      have hfB : entB f = true := hx f (hf ▸ List.getElem_mem hk)
      obtain ⟨cf1, cf2⟩ := in_co hfB
      obtain ⟨cb1, cb2⟩ := in_co hb1
      have HDir := Lib.hid (specDir_any f.x f.y b.x b.y cf1 cf2 cb1 cb2)
      have HO := Lib.hid (show outQ f b = (wordQ f b ++ ⟨#[32]⟩) ++ b.text from rfl)
      have HWq := Lib.hid (show wordQ f b = if f.x = b.x ∧ f.y = b.y then ⟨#[110, 101, 119]⟩ else dirsL.getD (dirV (b.x - f.x) (b.y - f.y)).toNat ⟨#[]⟩ from rfl)
      obtain ⟨dv0, dv1⟩ := dirV_bd (b.x - f.x) (b.y - f.y)
      obtain ⟨j, hj⟩ : ∃ j : Nat, dirV (b.x - f.x) (b.y - f.y) = (j : Int) := ⟨(dirV (b.x - f.x) (b.y - f.y)).toNat, by omega⟩
      have hj8 : j < 8 := by omega
      rw [hj] at HDir HWq
      rw [Int.toNat_natCast, dirs_at hj8] at HWq
      have HWd := Lib.hid (word_any j hj8)
      have hsz := dirs_size hj8
      generalize dirsL[j] = u at HWq HWd hsz
      generalize qtV xs b dist = r at HR ⊢
      clear hj dv0 dv1 cf1 cf2 cb1 cb2 hfB hf hL hz hx hb1 hd hs h
      unfold Ent.val at HC0 HW ⊢
      go_enter Tryd.func35, Tryd.ntmps35
      go_wp2_with fail
      generalize hW : w.alloc (.cells #[.string b.text, .int .i64 b.x, .int .i64 b.y, .int .i64 b.since] 30) = W
      obtain ⟨kb, bw, hszW⟩ := KN.out W hW.symm
      clear hW hszW
      refine (HC0.out W bw).mono ?_; rintro e w1 ⟨rfl, b1⟩
      have KB1 := Lib.hid (kb.below b1 kb.lt)
      obtain ⟨x0, x1, x2, x3⟩ := cells_4 KB1.out
      have B1 := Lib.hid (bw.trans (b1.mono bw.size)); clear kb bw b1
      go_wp2_with fail
      refine (HW.out w1 B1.out).mono ?_; rintro e w2 ⟨v, rfl, own2, b2⟩
      obtain ⟨A2, c2, rfl, _⟩ := own_shape own2
      have KB2 := Lib.hid (KB1.out.below b2 KB1.out.lt)
      obtain ⟨x0, x1, x2, x3⟩ := cells_4 KB2.out
      have B2 := Lib.hid (B1.out.trans (b2.mono B1.out.size))
      obtain ⟨a2, o2, rfl, hao2, hc2⟩ := (Reads.of_own own2).2 (by simp)
      have y0 : w2.cell? ⟨a2, o2, none⟩ = some (.int .i64 k) := hc2 0 (.int .i64 k) rfl
      obtain ⟨ab, ao, rfl, hadb, hcell⟩ := (HH.out.below B2.out).1.2 (by omega)
      obtain ⟨e0, e1, e2, e3⟩ := HC.out
      have z0 := hcell _ _ e0
      have z1 := hcell _ _ e1
      have z2 := hcell _ _ e2
      have z3 := hcell _ _ e3
      rw [← Nat.add_assoc] at z1 z2 z3
      have z2' : w2.cell? ⟨ab, ao + k * 4 + 1 + 1, none⟩ = some (.int .i64 f.y) := z2
      have hn : (((T.length : Int) + 1) == 0) = false := by rw [beq_eq_false_iff_ne]; omega
      clear own2 b2 hc2
      go_upto_region 9 with (fail)
      have KP := Lib.hid (blks_one w2 28 #[.int .i64 f.x, .int .i64 f.y])
      clear z0 z1 z2 z2' z3 y0 hcell
      generalize hW : w2.alloc (.cells #[.int .i64 f.x, .int .i64 f.y] 28) = W3
      obtain ⟨kp, bw3, hszW⟩ := KP.out W3 hW.symm
      clear hW hszW
      have KB3 := Lib.hid (KB2.out.below bw3 KB2.out.lt)
      obtain ⟨x0, x1, x2, x3⟩ := cells_4 KB3.out
      obtain ⟨p0, p1⟩ := cells_2 kp
      have B3 := Lib.hid (B2.out.trans (bw3.mono B2.out.size))
      clear bw3
      by_cases hxy : f.x = b.x ∧ f.y = b.y
      · rw [if_pos hxy] at HWq
        obtain ⟨h1, h2⟩ := hxy
        rw [HWq.out] at HO
        have HPh := Lib.hid (specPhr_any ((⟨#[110, 101, 119]⟩ ++ ⟨#[32]⟩) ++ b.text) (by rw [ByteArray.size_append, ByteArray.size_append]; have s1 : (⟨#[110, 101, 119]⟩ : ByteArray).size = 3 := rfl; have s2 : (⟨#[32]⟩ : ByteArray).size = 1 := rfl; omega))
        rw [← HO.out] at HPh
        generalize outQ f b = o at HO HR HPh
        rw [resQ] at HR
        go_wp2_with fail
        rw [← HO.out]
        refine (HPh.out W3).mono ?_; rintro e w4 ⟨rfl, b4⟩
        have B4 := Lib.hid (B3.out.trans (b4.mono B3.out.size))
        clear b4
        cases hp : phrB o <;> rw [hp] at HR
        all_goals
          go_wp2_with fail
          go_ret2
          exact ⟨by rw [HR.out]; (first | done | rfl), B4.out⟩
      · rw [if_neg hxy] at HWq
        rw [HWq.out] at HO
        have HPh := Lib.hid (specPhr_any ((u ++ ⟨#[32]⟩) ++ b.text) (by rw [ByteArray.size_append, ByteArray.size_append]; have s2 : (⟨#[32]⟩ : ByteArray).size = 1 := rfl; omega))
        rw [← HO.out] at HPh
        generalize outQ f b = o at HO HR HPh
        rw [resQ] at HR
        by_cases hX : f.x = b.x
        · have hY : ¬ f.y = b.y := fun h => hxy ⟨hX, h⟩
          rw [hX] at HDir
          clear hxy
          go_wp2_with fail
          with_reducible refine (HDir.out W3).mono ?_
          rintro e w4 ⟨rfl, b4⟩
          have KB4 := Lib.hid (KB3.out.below b4 KB3.out.lt)
          have B4 := Lib.hid (B3.out.trans (b4.mono B3.out.size))
          clear b4
          go_wp2_with fail
          refine (HWd.out w4).mono ?_; rintro e w5 ⟨rfl, b5⟩
          have KB5 := Lib.hid (KB4.out.below b5 KB4.out.lt)
          have B5 := Lib.hid (B4.out.trans (b5.mono B4.out.size))
          clear b5
          obtain ⟨x0, x1, x2, x3⟩ := cells_4 KB5.out
          go_wp2_with fail
          rw [← HO.out]
          refine (HPh.out w5).mono ?_; rintro e w6 ⟨rfl, b6⟩
          have B6 := Lib.hid (B5.out.trans (b6.mono B5.out.size))
          clear b6
          cases hp : phrB o <;> rw [hp] at HR
          all_goals
            go_wp2_with fail
            go_ret2
            exact ⟨by rw [HR.out]; (first | done | rfl), B6.out⟩
        · clear hxy
          go_wp2_with fail
          with_reducible refine (HDir.out W3).mono ?_
          rintro e w4 ⟨rfl, b4⟩
          have KB4 := Lib.hid (KB3.out.below b4 KB3.out.lt)
          have B4 := Lib.hid (B3.out.trans (b4.mono B3.out.size))
          clear b4
          go_wp2_with fail
          refine (HWd.out w4).mono ?_; rintro e w5 ⟨rfl, b5⟩
          have KB5 := Lib.hid (KB4.out.below b5 KB4.out.lt)
          have B5 := Lib.hid (B4.out.trans (b5.mono B4.out.size))
          clear b5
          obtain ⟨x0, x1, x2, x3⟩ := cells_4 KB5.out
          go_wp2_with fail
          rw [← HO.out]
          refine (HPh.out w5).mono ?_; rintro e w6 ⟨rfl, b6⟩
          have B6 := Lib.hid (B5.out.trans (b6.mono B5.out.size))
          clear b6
          cases hp : phrB o <;> rw [hp] at HR
          all_goals
            go_wp2_with fail
            go_ret2
            exact ⟨by rw [HR.out]; (first | done | rfl), B6.out⟩
  · have HR := Lib.hid (qtV_bad hz)
    generalize qtV xs b dist = r at HR ⊢
    generalize codeE xs (entB b) dist = cz at HC0 hz HR
    have hne : (cz != 0) = true := by rw [bne_iff_ne]; exact hz
    clear hz hs h hb
    unfold Ent.val at HC0 ⊢
    go_enter Tryd.func35, Tryd.ntmps35
    go_wp2_with fail
    generalize hW : w.alloc (.cells #[.string b.text, .int .i64 b.x, .int .i64 b.y, .int .i64 b.since] 30) = W
    obtain ⟨kb, bw, hsz⟩ := KN.out W hW.symm
    clear hW hsz
    refine (HC0.out W bw).mono ?_; rintro e w1 ⟨rfl, b1⟩
    go_wp2_with fail
    go_ret2
    exact ⟨by rw [HR.out]; (first | done | rfl), bw.trans (b1.mono bw.size)⟩
end Go.Proofs.YthaampckdcimmaaDoor
