/- l27Few of the reference. -/
import Derived.Test.YtlcfpaghipjgiaaDoorRows
import Derived.Test.YtlcfpaghipjgiaaDoorL0
import Derived.Test.YtlcfpaghipjgiaaDoorM0
import Derived.WalkKit
import Derived.ProofKit
import Derived.OpenShut
import Derived.BigQuiet
import Derived.Outline
import Derived.WalkSpells
import Derived.WalkLawsBesides
import Derived.Deep.DeepCutAuto
import Derived.Test.YtlcfpaghipjgiaaDoorJ3
import Derived.Deep.RegionHeld3
import Derived.Deep.AppendLies
namespace Go.Proofs.YtlcfpaghipjgiaaDoor
open Go.ChangeShapes Go.WideShapes Go.ChangeAt Go.RowKit Go.Sort

theorem seek_at {α : Type} {f : Nat → Option α} {x : α} : ∀ {c i k : Nat}, i ≤ k → k < i + c → (∀ j, i ≤ j → j < k → f j = none) → f k = some x → seek f c i = some x
  | 0, i, k, h1, h2, _, _ => by omega
  | c + 1, i, k, h1, h2, hn, hx => by
    rw [seek]
    by_cases h : i = k
    · subst h; rw [hx]
    · rw [hn i (Nat.le_refl _) (by omega)]
      exact seek_at (by omega) (by omega) (fun j a b => hn j (by omega) b) hx
theorem seek_end {α : Type} {f : Nat → Option α} : ∀ {c i : Nat}, (∀ j, i ≤ j → j < i + c → f j = none) → seek f c i = none
  | 0, _, _ => rfl
  | c + 1, i, hn => by
    rw [seek, hn i (Nat.le_refl _) (by omega)]
    exact seek_end (fun j a b => hn j (by omega) (by omega))
theorem own_made0 (w : World) (t : TypeId) : (w.alloc (.cells #[] t)).ownsRow w.heap.size t 1 (.slice (some ⟨w.heap.size, 0, none⟩) 0 0) 0 [] := World.ownsRow_made (e := t) (size := 1) w #[] 0 (Nat.le_refl _) (by decide) rfl
theorem own_made1 (w : World) (o : Obj) (t : TypeId) : ((w.alloc o).alloc (.cells #[] t)).ownsRow (w.heap.size + 1) t 1 (.slice (some ⟨w.heap.size + 1, 0, none⟩) 0 0) 0 [] := by
  have := own_made0 (w.alloc o) t
  simpa using this
theorem new_at0 (w : World) (t : TypeId) (u : Value) (o : Obj) : Reads ((w.alloc (.cells #[u] t)).alloc o) (w.heap.size + 1) 1 (some ⟨w.heap.size, 0, none⟩) 1 [u] := (new_str1 w t u).alloc (by simp) o
theorem new_at1 (w : World) (o : Obj) (t : TypeId) (u : Value) : Reads ((w.alloc o).alloc (.cells #[u] t)) (w.heap.size + 1 + 1) 1 (some ⟨w.heap.size + 1, 0, none⟩) 1 [u] := by
  have := new_str1 (w.alloc o) t u
  simpa using this
theorem reads_grown {w w1 : World} {g : Nat} {u : Value} {row : Option Nat} (h : Reads w (g + 1) 1 (some ⟨g, 0, none⟩) 1 [u]) (hg : w.grownBy w1 row) (hl : g < w.heap.size) (hr : row ≠ some g) : Reads w1 (g + 1) 1 (some ⟨g, 0, none⟩) 1 [u] :=
  ⟨rfl, fun _ => ⟨g, 0, rfl, by omega, fun j x hx => by
    obtain ⟨b, off, e, _, hc⟩ := h.2 (by omega)
    cases e
    exact (World.cell?_of_block (hg.block g hl (fun e => hr e.symm))).trans (hc j x hx)⟩⟩
/-- What the search gives: the members found, or that there are none. -/
def FewIs (o : Option (List Nat)) (xs : List Bal) (base : Nat) (v : Value) (w : World) : Prop := ∀ out, o = some out → w.ownsRow base 9 1 v out.length (txC (out.map (nmAt xs)))
set_option maxRecDepth 100000 in
set_option maxHeartbeats 4000000 in
theorem few_any {xs : List Bal} (ha : areB xs = true) (rule : Int) (hf : Fits xs) (A : Option Addr) (c : Nat) (m : Nat) : ∀ (M : Int) (_ : M = m) (ch : List Nat) (fr : Nat) (F : Int) (_ : F = fr) (_ : fr ≤ xs.length) (_ : ∀ i ∈ ch, i < xs.length) (_ : ch.length + m ≤ 10) (base : Nat) (B : Option Addr) (d : Nat) (w : World) (_ : Reads w w.heap.size 3 A xs.length (baC xs)) (_ : w.ownsRow base 9 1 (.slice B ch.length d) ch.length (txC (ch.map (nmAt xs)))) (_ : base ≤ w.heap.size),
    Calls Tryd.prog 68 #[.slice A xs.length c, .int .i64 rule, .slice B ch.length d, .int .i64 F, .int .i64 M] w fun e w' => ∃ v, e = .returned (.tuple #[v, .bool (fewI xs.length (goodB xs rule) m ch fr).isSome]) ∧ FewIs (fewI xs.length (goodB xs rule) m ch fr) xs base v w' ∧ Below w.heap.size w w' := by
  induction m with
  | zero =>
    intro M hM ch fr F hF hfr hch hcl base B d w hr hown hb
    obtain rfl : M = 0 := hM
    refine (few_zero ha rule hf ch F hch (by omega) A B c d w hr (Reads.of_own hown)).mono ?_
    rintro e w' ⟨rfl, bl⟩
    refine ⟨.slice B ch.length d, ?_, fun out ho => ?_, bl⟩
    · rw [fewI]
      split
      · rename_i h; rw [h]; rfl
      · rename_i h; rw [show goodB xs rule ch = false by simpa using h]; rfl
    · rw [fewI] at ho
      split at ho
      · cases ho; exact own_below hown bl
      · cases ho
  | succ m ih =>
    intro M hM ch fr F hF hfr hch hcl base B d w hr hown hb
    have hm := hf.1
    have HR := Lib.hid hr; have HO := Lib.hid hown; clear hr hown
    have IH := Lib.hid (fun M h => ih M h); clear ih
    have hM0 : (M == 0) = false := by simp; omega
    have hMM := Lib.hid hM
    obtain ⟨i0, hi0, hz0, hz1, hz2⟩ := info_parts infoTx
    have HFew := Lib.hid (show fewI xs.length (goodB xs rule) (m + 1) ch fr = seek (fun i => fewI xs.length (goodB xs rule) m (ch ++ [i]) (i + 1)) (xs.length - fr) fr from rfl)
    clear hM
    go_enter Tryd.func68, Tryd.ntmps68
    go_wp2_with fail
    subst hF
    go_loopw [15] (fun v15 wr => ∃ k : Nat, fr ≤ k ∧ k ≤ xs.length ∧ Hid (∀ j, fr ≤ j → j < k → fewI xs.length (goodB xs rule) m (ch ++ [j]) (j + 1) = none) ∧ Hid (Below w.heap.size w wr) ∧ v15 = .int .i64 k) (fun i _ => xs.length - (intOf i).toNat)
    case atStart => exact ⟨fr, Nat.le_refl _, hfr, fun j a b => by omega, Below.refl _ _, rfl⟩
    case round =>
      obtain ⟨k, hk0, hk, HK, BW, rfl⟩ := hrel
      by_cases hlt : k < xs.length
      · have hwz := BW.out.size
        have RX := Lib.hid ((HR.out.below BW.out).more hwz)
        have OW := Lib.hid (own_below HO.out BW.out)
        have RB := Lib.hid (Reads.of_own OW.out)
        obtain ⟨ab, ao, rfl, hadb, hcell⟩ := RX.out.2 (by omega)
        have hadb' : (⟨ab, ao + k * 3, none⟩ : Addr).block < wr.heap.size := hadb
        have d0 := hcell _ _ (baC_get xs k hlt).1
        rw [← nmAt_eq hlt] at d0
        have BZ : base ≤ wr.heap.size := by omega
        have hM1 : IntKind.i64.wrap (M - 1) = M - 1 := IntWalk.i64_in _ (by have := hMM.out; omega)
        have hk1 : IntKind.i64.wrap ((k : Int) + 1) = (k : Int) + 1 := IntWalk.i64_in _ (by omega)
        have IHk := Lib.hid (fun (A2 : Option Addr) (cc2 : Nat) (w2 : World) (h1 : Reads w2 w2.heap.size 3 (some ⟨ab, ao, none⟩) xs.length (baC xs)) (h2 : w2.ownsRow base 9 1 (.slice A2 (ch.length + 1) cc2) (ch.length + 1) (txC (ch.map (nmAt xs)) ++ [.string (nmAt xs k)])) (h3 : wr.heap.size ≤ w2.heap.size) => (show Calls Tryd.prog 68 #[.slice (some ⟨ab, ao, none⟩) xs.length c, .int .i64 rule, .slice A2 (ch.length + 1) cc2, .int .i64 ((k : Int) + 1), .int .i64 (M - 1)] w2 fun e w' => ∃ v, e = .returned (.tuple #[v, .bool (fewI xs.length (goodB xs rule) m (ch ++ [k]) (k + 1)).isSome]) ∧ FewIs (fewI xs.length (goodB xs rule) m (ch ++ [k]) (k + 1)) xs base v w' ∧ Below w2.heap.size w2 w' from by
          have hl : (ch ++ [k]).length = ch.length + 1 := by simp
          have := IH.out (M - 1) (by have := hMM.out; omega) (ch ++ [k]) (k + 1) ((k : Int) + 1) (by push_cast; rfl) (by omega) (fun i hi => by rcases List.mem_append.1 hi with h | h; exact hch i h; (simp at h; omega)) (by rw [hl]; omega) base A2 cc2 w2
          rw [hl] at this
          exact this h1 (by rw [List.map_append, show txC (ch.map (nmAt xs) ++ [k].map (nmAt xs)) = txC (ch.map (nmAt xs)) ++ [.string (nmAt xs k)] by simp [txC]]; exact h2) (by omega)))
        clear hcell
        generalize nmAt xs k = nm at d0 IHk
        go_upto_region 15 with (fail)
        go_cut [16, 17] (fun v16 v17 wx => ∃ v, v16 = v ∧ v17 = .bool (fewI xs.length (goodB xs rule) m (ch ++ [k]) (k + 1)).isSome ∧ Hid (FewIs (fewI xs.length (goodB xs rule) m (ch ++ [k]) (k + 1)) xs base v wx) ∧ Hid (Below wr.heap.size wr wx))
        case first =>
          go_region_held3 (fun w' => w'.cell? ⟨ab, ao + k * 3, none⟩ = some (.string nm))
            (first | exact k0 | (go_keep; done) | ((try dsimp only); (repeat' apply And.intro) <;> (go_keep; done)))
            (first | (refine step_append_any _ (by rfl) (.tmp 56) (.tmp 57) _ (by rfl) wr.heap.size 9 i0 _ 1 16 Tryd.underlying38 hi0 hz0 hz1 hz2 rfl (by omega) (.slice (some ⟨wr.heap.size, 0, none⟩) 0 0) 0 [] (by rfl) (World.ownsRow.drew ((own_made0 wr _).alloc _)) wr.heap.size B ch.length d (txC (ch.map (nmAt xs))) (by rfl) (RB.out.below ((((Below.refl wr.heap.size wr).alloc (Nat.le_refl _) (.cells #[] 9)).alloc (by simp) (.cells #[.string nm] 9))).drew) (txC_one _) (by simp only [maxLen]; omega) (by omega) (by first | (simp; done) | (simp; omega)) ?_; intro v1 w1 hown1' hg1 hat1; have hown1 := (show w1.ownsRow wr.heap.size 9 1 v1 ch.length (txC (ch.map (nmAt xs))) by simpa using hown1'); clear hown1'; obtain ⟨A1, cc1, rfl, _⟩ := own_shape hown1; have hb1 : Below wr.heap.size wr w1 := below_own ((((Below.refl wr.heap.size wr).alloc (Nat.le_refl _) (.cells #[] 9)).alloc (by simp) (.cells #[.string nm] 9))).drew (World.ownsRow.drew ((own_made0 wr _).alloc _)) hg1 (Nat.le_refl _) (by first | (simp; done) | (simp; omega)); have k0 := (hb1.cell (p := ⟨ab, ao + k * 3, none⟩) hadb').trans d0; have rc1 : Reads w1 ((wr.heap.size + 1) + 1) 1 (some ⟨(wr.heap.size + 1), 0, none⟩) 1 [.string nm] := reads_grown (Reads.drew (new_at1 wr (.cells #[] 9) 9 (.string nm))) hg1 (by first | (simp; done) | (simp; omega)) (by simp [Value.ownBlock])) | (refine step_append_any _ (by rfl) (.tmp 56) (.tmp 57) _ (by rfl) wr.heap.size 9 i0 _ 1 16 Tryd.underlying38 hi0 hz0 hz1 hz2 rfl (by omega) (.slice (some ⟨wr.heap.size + 1, 0, none⟩) 0 0) 0 [] (by rfl) (World.ownsRow.drew (own_mono (own_made1 wr (.cells #[.string nm] 9) _) (by simp))) wr.heap.size B ch.length d (txC (ch.map (nmAt xs))) (by rfl) (RB.out.below ((((Below.refl wr.heap.size wr).alloc (Nat.le_refl _) (.cells #[.string nm] 9)).alloc (by simp) (.cells #[] 9))).drew) (txC_one _) (by simp only [maxLen]; omega) (by omega) (by first | (simp; done) | (simp; omega)) ?_; intro v1 w1 hown1' hg1 hat1; have hown1 := (show w1.ownsRow wr.heap.size 9 1 v1 ch.length (txC (ch.map (nmAt xs))) by simpa using hown1'); clear hown1'; obtain ⟨A1, cc1, rfl, _⟩ := own_shape hown1; have hb2 : Below wr.heap.size wr w1 := below_own ((((Below.refl wr.heap.size wr).alloc (Nat.le_refl _) (.cells #[.string nm] 9)).alloc (by simp) (.cells #[] 9))).drew (World.ownsRow.drew (own_mono (own_made1 wr (.cells #[.string nm] 9) _) (by simp))) hg1 (Nat.le_refl _) (by first | (simp; done) | (simp; omega)); have k0 := (hb2.cell (p := ⟨ab, ao + k * 3, none⟩) hadb').trans d0; have rc2 : Reads w1 (wr.heap.size + 1) 1 (some ⟨wr.heap.size, 0, none⟩) 1 [.string nm] := reads_grown (Reads.drew (new_at0 wr 9 (.string nm) (.cells #[] 9))) hg1 (by first | (simp; done) | (simp; omega)) (by simp [Value.ownBlock])) | (refine step_append_any _ (by rfl) (.tmp 56) (.tmp 57) _ (by rfl) wr.heap.size 9 i0 _ 1 16 Tryd.underlying38 hi0 hz0 hz1 hz2 rfl (by omega) (.slice (some ⟨wr.heap.size, 0, none⟩) 0 0) 0 [] (by rfl) (World.ownsRow.drew (own_made0 wr _)) wr.heap.size B ch.length d (txC (ch.map (nmAt xs))) (by rfl) (RB.out.below (((Below.refl wr.heap.size wr).alloc (Nat.le_refl _) (.cells #[] 9))).drew) (txC_one _) (by simp only [maxLen]; omega) (by omega) (by first | (simp; done) | (simp; omega)) ?_; intro v1 w1 hown1' hg1 hat1; have hown1 := (show w1.ownsRow wr.heap.size 9 1 v1 ch.length (txC (ch.map (nmAt xs))) by simpa using hown1'); clear hown1'; obtain ⟨A1, cc1, rfl, _⟩ := own_shape hown1; have hb0 : Below wr.heap.size wr w1 := below_own (((Below.refl wr.heap.size wr).alloc (Nat.le_refl _) (.cells #[] 9))).drew (World.ownsRow.drew (own_made0 wr _)) hg1 (Nat.le_refl _) (by first | (simp; done) | (simp; omega)); have k0 := (hb0.cell (p := ⟨ab, ao + k * 3, none⟩) hadb').trans d0) | (refine step_append_any _ (by rfl) (.tmp 58) (.tmp 64) _ (by rfl) wr.heap.size 9 i0 _ 1 16 Tryd.underlying38 hi0 hz0 hz1 hz2 rfl (by omega) (.slice A1 ch.length cc1) ch.length (txC (ch.map (nmAt xs))) (by rfl) (hown1.alloc _) _ (some ⟨w1.heap.size, 0, none⟩) 1 1 [.string nm] (by rfl) (new_str1 w1 _ _) (by simp [Value.oneCell']) (by simp only [maxLen]; omega) (by omega) (by have := hb0.size; simp; omega) ?_; intro v2 w2 hown2 hg2 hat2; have hb : Below wr.heap.size wr w2 := below_own (hb0.alloc hb0.size _) (hown1.alloc _) hg2 (Nat.le_refl _) (by have := hb0.size; simp; omega); obtain ⟨A2, cc2, rfl, _⟩ := own_shape hown2; have k0 := (hb.cell (p := ⟨ab, ao + k * 3, none⟩) hadb').trans d0) | (refine step_append_any _ (by rfl) (.tmp 58) (.tmp 64) _ (by rfl) wr.heap.size 9 i0 _ 1 16 Tryd.underlying38 hi0 hz0 hz1 hz2 rfl (by omega) (.slice A1 ch.length cc1) ch.length (txC (ch.map (nmAt xs))) (by rfl) hown1 _ (some ⟨(wr.heap.size + 1), 0, none⟩) 1 1 [.string nm] (by rfl) rc1 (by simp [Value.oneCell']) (by simp only [maxLen]; omega) (by omega) hb1.size ?_; intro v2 w2 hown2 hg2 hat2; have hb : Below wr.heap.size wr w2 := below_own hb1 hown1 hg2 (Nat.le_refl _) hb1.size; obtain ⟨A2, cc2, rfl, _⟩ := own_shape hown2; have k0 := (hb.cell (p := ⟨ab, ao + k * 3, none⟩) hadb').trans d0) | (refine step_append_any _ (by rfl) (.tmp 58) (.tmp 64) _ (by rfl) wr.heap.size 9 i0 _ 1 16 Tryd.underlying38 hi0 hz0 hz1 hz2 rfl (by omega) (.slice A1 ch.length cc1) ch.length (txC (ch.map (nmAt xs))) (by rfl) hown1 _ (some ⟨wr.heap.size, 0, none⟩) 1 1 [.string nm] (by rfl) rc2 (by simp [Value.oneCell']) (by simp only [maxLen]; omega) (by omega) hb2.size ?_; intro v2 w2 hown2 hg2 hat2; have hb : Below wr.heap.size wr w2 := below_own hb2 hown1 hg2 (Nat.le_refl _) hb2.size; obtain ⟨A2, cc2, rfl, _⟩ := own_shape hown2; have k0 := (hb.cell (p := ⟨ab, ao + k * 3, none⟩) hadb').trans d0) | (go_at_call 68; refine (IHk.out A2 cc2 w2 (RX.out.below hb |>.more hb.size) (own_mono hown2 BZ) hb.size).mono ?_; rintro e w3 ⟨v3, rfl, hsp, bl3⟩; have k0 := ((hb.trans (bl3.mono hb.size)).cell (p := ⟨ab, ao + k * 3, none⟩) hadb').trans d0) | fail)
          all_goals
            go_wp2_with fail
            go_meet
            exact ⟨_, rfl, rfl, hsp, hb.trans (bl3.mono hb.size)⟩
        case rest =>
          obtain ⟨v, rfl, rfl, HSp, HBx⟩ := hcut
          have HBz := Lib.hid (BW.out.trans (HBx.out.mono BW.out.size))
          cases hq : fewI xs.length (goodB xs rule) m (ch ++ [k]) (k + 1)
          · have HNo := Lib.hid hq; clear hq
            go_wp2_with fail
            go_roundw
            case rel => exact ⟨k + 1, by omega, by omega, fun j a b => by
                by_cases hjk : j = k
                · subst hjk; exact HNo.out
                · exact HK.out j a (by omega), HBz.out, by go_num⟩
            case measure => simp [intOf]; omega
          · rename_i out
            have HS := Lib.hid (HFew.out.trans (seek_at (f := fun i => fewI xs.length (goodB xs rule) m (ch ++ [i]) (i + 1)) hk0 (by omega : k < fr + (xs.length - fr)) HK.out hq))
            have HV := Lib.hid (HSp.out out hq)
            clear hq
            go_wp2_with fail
            go_ret2
            exact ⟨_, by rw [HS.out]; rfl, (fun out' ho' => by rw [HS.out] at ho'; cases ho'; exact HV.out), HBz.out⟩
      · obtain rfl : k = xs.length := by omega
        have hs := seek_end (f := fun i => fewI xs.length (goodB xs rule) m (ch ++ [i]) (i + 1)) (c := xs.length - fr) (i := fr) (fun j a b => HK.out j a (by omega))
        have HS := Lib.hid hs; clear hs
        go_wp2_with fail
        go_ret2
        exact ⟨_, by rw [HFew.out, HS.out]; rfl, (fun out' ho' => by rw [HFew.out, HS.out] at ho'; cases ho'), BW.out⟩
end Go.Proofs.YtlcfpaghipjgiaaDoor
