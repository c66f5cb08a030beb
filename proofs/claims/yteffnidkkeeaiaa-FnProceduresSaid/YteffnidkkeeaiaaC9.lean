/- The reference's ShortestRest. -/
import Derived.Test.YteffnidkkeeaiaaRows
import Derived.Test.YteffnidkkeeaiaaL0
import Derived.Test.YteffnidkkeeaiaaM0
import Derived.WalkKit
import Derived.ProofKit
import Derived.OpenShut
import Derived.BigQuiet
import Derived.Outline
import Derived.WalkSpells
import Derived.WalkLawsBesides
import Derived.Deep.DeepCutAuto
import Derived.Test.YteffnidkkeeaiaaC8
import Derived.Test.YteffnidkkeeaiaaB7
import Derived.Test.YteffnidkkeeaiaaM1
namespace Go.Proofs.Yteffnidkkeeaiaa
open Go.ChangeShapes Go.WideShapes Go.ChangeAt Go.RowKit

theorem rest_len {day o : Int} : ∀ (m : Nat) (xs z : List Stp), isProc xs = true → restS day o m xs = some z → isProc z = true ∧ xs.length ≤ z.length
  | 0, xs, z, hp, h => by
    unfold restS at h
    split at h
    · cases h; exact ⟨hp, Nat.le_refl _⟩
    · cases h
  | m + 1, xs, z, hp, h => by
    simp only [restS] at h
    obtain ⟨y, hy, hr⟩ := List.exists_of_findSome?_eq_some h
    obtain ⟨kind, hk, hkz⟩ := (mem_kidsTo day xs y 8).1 hy
    obtain ⟨p, l, _⟩ := kid_some hk hp hkz
    obtain ⟨q1, q2⟩ := rest_len m y z p hr
    exact ⟨q1, by omega⟩

/-- What ShortestRest answers. -/
def shortR (day o : Int) (xs : List Stp) : List Stp × Int :=
  if codeB xs day = 0 then (if o = 1 ∨ o = -1 then (match firstTo (fun m => restS day o m xs) 6 with | some z => (z.drop xs.length, 0) | none => ([], 4)) else ([], 2)) else ([], codeB xs day)

/-- Where a slice's rest begins. -/
def cutA (A : Option Addr) (c k size : Nat) : Option Addr := if c = k then A else A.map (·.add (k * size))
theorem run_cut {P : Program} (t e : TypeId) (i : TypeInfo) (size : Nat) (ht : P.underlying t = some (.slice e)) (hi : P.info? e = some i) (hz : i.size = size) (A : Option Addr) (n c k : Nat) (hk : k ≤ n) (w : World) :
    (Instr.sliceAt t (.slice A n c) (some (.int .i64 (k : Int))) none none).run P w = .ok (.slice (cutA A c k size) (n - k) (c - k)) w := by
  have he : P.elem t = e := by simp [Program.elem, ht]
  rw [run_sliceAt_slice w t _ _ _ _ (by rw [he]; exact ht), run_slice_l w t A n c (by rw [he]; exact ht) .i64 k (by omega) (by omega), he]
  subst hz
  simp [sizeOf, typeInfo, hi, sliced, cutA]
theorem cut_reads {w : World} {B size n c k : Nat} {A : Option Addr} {xs : List Value} (h : Reads w B size A n xs) (hk : k ≤ n) (hc : n ≤ c) : Reads w B size (cutA A c k size) (n - k) (xs.drop (k * size)) := by
  refine ⟨by rw [List.length_drop, h.1, Nat.sub_mul], fun hn => ?_⟩
  obtain ⟨b, off, e, hb, hj⟩ := h.2 (by omega)
  subst e
  refine ⟨b, off + k * size, ?_, hb, fun j u hu => ?_⟩
  · rw [cutA, if_neg (by omega), Option.map_some, add_lit']
  · rw [List.getElem?_drop] at hu
    have := hj _ _ hu
    rwa [← Nat.add_assoc] at this
theorem stC_drop (k : Nat) : ∀ z : List Stp, (stC z).drop (k * 2) = stC (z.drop k) := by
  induction k with
  | zero => intro z; simp
  | succ k ih =>
    intro z
    cases z with
    | nil => simp [stC]
    | cons a z =>
      have := ih z
      simp only [List.drop_succ_cons]
      rw [← this, show (k + 1) * 2 = k * 2 + 2 from by omega]
      simp [stC]

set_option maxRecDepth 100000 in
set_option maxHeartbeats 4000000 in
theorem specShort_any (xs : List Stp) (day o : Int) (A : Option Addr) (c : Nat) (w : World) (hr : Reads w w.heap.size 2 A xs.length (stC xs)) (hm : xs.length ≤ 9223372036854775807) (hxc : xs.length ≤ c) :
    Calls Try.prog 40 #[.slice A xs.length c, .int .i64 day, .int .i64 o] w fun e w' => ∃ v, e = .returned (.tuple #[v, .int .i64 (shortR day o xs).2]) ∧ w'.ownsRow w.heap.size 50 2 v (shortR day o xs).1.length (stC (shortR day o xs).1) ∧ Below w.heap.size w w' := by
  have HR := Lib.hid hr; clear hr
  obtain ⟨i0, hi0, hz0, hz1, hz2⟩ := info_parts infoStep
  by_cases hc : codeB xs day = 0
  · have hp : isProc xs = true := by
      unfold codeB at hc; split at hc
      · assumption
      · cases hc
    have hd : 0 ≤ day ∧ day ≤ 1000000000000 := by
      rw [codeB, if_pos hp] at hc
      split at hc
      · rename_i h; simpa [inB] using h
      · cases hc
    have hlen := isProc_len hp
    have HP := Lib.hid hp
    clear hp
    by_cases ho : o = 1 ∨ o = -1
    · have HN := Lib.hid (show shortR day o xs = (match firstTo (fun m => restS day o m xs) 6 with | some z => (z.drop xs.length, 0) | none => ([], 4)) by rw [shortR, if_pos hc, if_pos ho])
      have HC := Lib.hid hc; clear hc
      have HE := Lib.hid (fun z (h : firstTo (fun m => restS day o m xs) 6 = some z) => show shortR day o xs = (z.drop xs.length, 0) by rw [HN.out, h])
      have HF := Lib.hid (fun (h : firstTo (fun m => restS day o m xs) 6 = none) => show shortR day o xs = ([], 4) by rw [HN.out, h])
      clear HN
      obtain ⟨F, hF⟩ : ∃ F : Nat → Option (List Stp), F = fun m => restS day o m xs := ⟨_, rfl⟩
      rw [← hF] at HE HF
      have HR' := Lib.hid (fun k => show restS day o k xs = F k by rw [hF])
      clear hF
      obtain ⟨L, code, hL⟩ : ∃ L code, shortR day o xs = (L, code) := ⟨_, _, rfl⟩
      rw [hL] at HE HF ⊢
      clear hL
      rcases ho with rfl | rfl
      all_goals
        go_enter Try.func40, Try.ntmps40
        go_wp2_with fail
        refine (l25Code_any xs _ _ _ _ HR.out hm).mono ?_; rw [HC.out]; rintro e w1 ⟨rfl, b1⟩
        have B1 := Lib.hid b1; clear b1
        go_wp2_with fail
        go_loopw [9] (fun v9 wr => ∃ k : Nat, k ≤ 6 ∧ Hid (firstTo F k = none) ∧ Below w.heap.size w wr ∧ v9 = .int .i64 k) (fun i _ => 6 - (intOf i).toNat)
        case atStart => exact ⟨0, by omega, rfl, B1.out, rfl⟩
        case round =>
          obtain ⟨k, hk, HK, hb, rfl⟩ := hrel
          by_cases hlt : k < 6
          · go_wp2_with fail
            refine (rest_any day _ hd.1 hd.2 k (by omega) xs A c wr ((HR.out.below hb).more hb.size) hxc HP.out).mono ?_
            rintro e w2 ⟨b2, hres⟩
            have B2 := Lib.hid (hb.trans (b2.mono hb.size))
            clear b2
            cases hq : restS day _ k xs with
            | none =>
              rw [hq] at hres
              have HN2 := Lib.hid (show firstTo F (k + 1) = none by rw [firstTo, HK.out]; exact (HR'.out k).symm.trans hq)
              clear hq
              obtain ⟨v, rfl⟩ := hres
              go_wp2_with fail
              go_roundw
              case rel => exact ⟨k + 1, by omega, HN2.out, B2.out, by go_num⟩
              case measure => simp [intOf]; omega
            | some z =>
              rw [hq] at hres
              have HZ := Lib.hid (HE.out z (firstTo_some HK.out ((HR'.out k).symm.trans hq) 6 hlt))
              obtain ⟨pz, lz⟩ := rest_len k xs z HP.out hq
              have lz12 := isProc_len pz
              clear hq pz
              obtain ⟨A3, c3, rfl, r3, hc3⟩ := hres
              have RC := Lib.hid (cut_reads r3 lz hc3); clear r3
              have HCUT := fun W => run_cut 40 50 i0 2 Try.underlying40 hi0 hz1 A3 z.length c3 xs.length lz W
              generalize cutA A3 c3 xs.length 2 = A4 at HCUT RC
              go_wp2_with (at_builtin; refine wpList_append_any _ rfl (.tmp 41) (.tmp 45) _ rfl w.heap.size 50 i0 _ 2 16 Try.underlying40 hi0 hz0 hz1 hz2 rfl (by omega) (.slice (some ⟨w2.heap.size, 0, none⟩) 0 0) 0 [] rfl (World.ownsRow_made (e := 50) (size := 2) w2 #[] 0 B2.out.size (by decide) rfl) w2.heap.size A4 (z.length - xs.length) (c3 - xs.length) ((stC z).drop (xs.length * 2)) rfl (RC.out.alloc (Nat.le_refl _) _) (fun u hu => stC_one z u (List.mem_of_mem_drop hu)) (by simp only [maxLen]; omega) (by omega) (by have := B2.out.size; simp; omega) ?_; intro v4 w4 hown4 hg4 hat4)
              go_ret2
              have e := HZ.out
              simp only [Prod.mk.injEq] at e
              obtain ⟨rfl, rfl⟩ := e
              refine ⟨v4, rfl, ?_, below_own (B2.out.alloc B2.out.size _) (World.ownsRow_made (e := 50) (size := 2) w2 #[] 0 B2.out.size (by decide) rfl) hg4 (Nat.le_refl _) (by have := B2.out.size; simp; omega)⟩
              rw [stC_drop] at hown4
              simpa using hown4
          · obtain rfl : k = 6 := by omega
            have HZ := Lib.hid (HF.out HK.out)
            go_wp2_with fail
            go_ret2
            have e := HZ.out
            simp only [Prod.mk.injEq] at e
            obtain ⟨rfl, rfl⟩ := e
            exact ⟨_, rfl, World.ownsRow_nil _ _ _ _, hb⟩
    · have HN := Lib.hid (show shortR day o xs = ([], 2) by rw [shortR, if_pos hc, if_neg ho])
      have HC := Lib.hid hc; clear hc
      have h1 : (o != 1) = true := by rw [bne_iff_ne]; exact fun h => ho (.inl h)
      have h2 : (o != -1) = true := by rw [bne_iff_ne]; exact fun h => ho (.inr h)
      clear ho
      rw [HN.out]
      go_enter Try.func40, Try.ntmps40
      go_wp2_with fail
      refine (l25Code_any xs _ _ _ _ HR.out hm).mono ?_; rw [HC.out]; rintro e w1 ⟨rfl, b1⟩
      go_wp2_with fail
      go_ret2
      exact ⟨_, rfl, World.ownsRow_nil _ _ _ _, b1⟩
  · have HN := Lib.hid (show shortR day o xs = ([], codeB xs day) by rw [shortR, if_neg hc])
    have hne : (codeB xs day != 0) = true := by rw [bne_iff_ne]; exact hc
    have heq : (codeB xs day == 0) = false := by simpa using hc
    clear hc
    rw [HN.out]
    clear HN
    go_enter Try.func40, Try.ntmps40
    go_wp2_with fail
    refine (l25Code_any xs _ _ _ _ HR.out hm).mono ?_; rintro e w1 ⟨rfl, b1⟩
    go_wp2_with fail
    go_ret2
    exact ⟨_, rfl, World.ownsRow_nil _ _ _ _, b1⟩
end Go.Proofs.Yteffnidkkeeaiaa
