/- l08Insert of the reference. -/
import Derived.Test.YthlpclnfnfbeiaaGreatDoorRows
import Derived.Test.YthlpclnfnfbeiaaGreatDoorL0
import Derived.Test.YthlpclnfnfbeiaaGreatDoorM0
import Derived.WalkKit
import Derived.ProofKit
import Derived.OpenShut
import Derived.BigQuiet
import Derived.Outline
import Derived.WalkSpells
import Derived.WalkLawsBesides
import Derived.Deep.DeepCutAuto
import Derived.Test.YthlpclnfnfbeiaaGreatDoorP1
import Derived.Test.YthlpclnfnfbeiaaGreatDoorM1
import Derived.Test.YthlpclnfnfbeiaaGreatDoorI0
import Derived.Deep.RegionHeld3
import Derived.Deep.AppendLies
namespace Go.Proofs.YthlpclnfnfbeiaaGreatDoor
open Go.ChangeShapes Go.WideShapes Go.ChangeAt Go.RowKit Go.Sort

theorem infoTx : (Tryz.prog.info? 9).map (fun i => (i.zero, i.size, i.bytes)) = some (some (.string ByteArray.empty), 1, 16) := by kernel_rfl
theorem made_a (w : World) (t : TypeId) : (w.alloc (.cells #[] t)).ownsRow w.heap.size t 1 (.slice (some ⟨w.heap.size, 0, none⟩) 0 0) 0 [] := World.ownsRow_made (e := t) (size := 1) w #[] 0 (Nat.le_refl _) (by decide) rfl
theorem made_b (w : World) (o : Obj) (t : TypeId) : ((w.alloc o).alloc (.cells #[] t)).ownsRow (w.heap.size + 1) t 1 (.slice (some ⟨w.heap.size + 1, 0, none⟩) 0 0) 0 [] := by
  have := made_a (w.alloc o) t
  simpa using this
theorem one_new (w : World) (t : TypeId) (u : Value) : Reads (w.alloc (.cells #[u] t)) (w.heap.size + 1) 1 (some ⟨w.heap.size, 0, none⟩) 1 [u] :=
  ⟨rfl, fun _ => ⟨w.heap.size, 0, rfl, by omega, fun j v hv => by
    rw [Nat.zero_add, (Blk.new w t #[u]).cell]; simpa using hv⟩⟩
theorem new_one (w : World) (t : TypeId) (u : Value) : Reads (w.alloc (.cells #[u] t)) (w.alloc (.cells #[u] t)).heap.size 1 (some ⟨w.heap.size, 0, none⟩) 1 [u] :=
  ⟨rfl, fun _ => ⟨w.heap.size, 0, rfl, by simp, fun j v hv => by
    rw [Nat.zero_add, (Blk.new w t #[u]).cell]; simpa using hv⟩⟩
theorem one_a (w : World) (t : TypeId) (u : Value) (o : Obj) : Reads ((w.alloc (.cells #[u] t)).alloc o) (w.heap.size + 1) 1 (some ⟨w.heap.size, 0, none⟩) 1 [u] := (one_new w t u).alloc (by simp) o
theorem one_b (w : World) (o : Obj) (t : TypeId) (u : Value) : Reads ((w.alloc o).alloc (.cells #[u] t)) (w.heap.size + 1 + 1) 1 (some ⟨w.heap.size + 1, 0, none⟩) 1 [u] := by
  have := one_new (w.alloc o) t u
  simpa using this
theorem one_grown {w w1 : World} {g : Nat} {u : Value} {row : Option Nat} (h : Reads w (g + 1) 1 (some ⟨g, 0, none⟩) 1 [u]) (hg : w.grownBy w1 row) (hl : g < w.heap.size) (hr : row ≠ some g) : Reads w1 (g + 1) 1 (some ⟨g, 0, none⟩) 1 [u] :=
  ⟨rfl, fun _ => ⟨g, 0, rfl, by omega, fun j x hx => by
    obtain ⟨b, off, e, _, hc⟩ := h.2 (by omega)
    cases e
    exact (World.cell?_of_block (hg.block g hl (fun e => hr e.symm))).trans (hc j x hx)⟩⟩
/-- A part of a row. -/
theorem own_partV {w : World} {base : Nat} {t : TypeId} {g n d : Nat} {S : List Value} (h : w.ownsRow base t 1 (.slice (some ⟨g, 0, none⟩) n d) n S) (hn : S.length = n) (hg : g < w.heap.size) (a b a' : Nat) (hab : a + b ≤ n) (T : List Value) (hT : T.length = b) (ha : 0 < b → a' = a) (hS : ∀ j, j < b → S[a + j]? = T[j]?) : Reads w w.heap.size 1 (some ⟨g, a', none⟩) b T :=
  ⟨by rw [hT, Nat.mul_one], fun h0 => ⟨g, a, by rw [ha h0], hg, fun j u hu => by
    have hj : j < b := by
      have := (List.getElem?_eq_some_iff.1 hu).1
      rw [hT] at this
      exact this
    rw [h.cellAt (a + j) (by omega), hS j hj]
    exact hu⟩⟩
theorem enc_bytes (s : ByteArray) : encStr s.toList = .string s := by
  show Value.string ⟨s.toList.toArray⟩ = _
  rw [ByteArray.toList_eq]
theorem enc_one (L : List (List UInt8)) : ∀ u ∈ L.map encStr, u.oneCell' = true := fun u hu => by
  rw [List.mem_map] at hu
  obtain ⟨l, _, rfl⟩ := hu
  rfl
set_option maxRecDepth 100000 in
set_option maxHeartbeats 4000000 in
theorem insert_any (L : List (List UInt8)) (s : ByteArray) (hm : L.length ≤ 1048576) (g d base : Nat) (w : World) (hbw : base ≤ w.heap.size) (h : w.ownsRow base 9 1 (.slice (some ⟨g, 0, none⟩) L.length d) L.length (L.map encStr)) :
    Calls Tryz.prog 66 #[.slice (some ⟨g, 0, none⟩) L.length d, .string s] w fun e w' => ∃ v, e = .returned v ∧ w'.ownsRow base 9 1 v (insS L s.toList).length ((insS L s.toList).map encStr) ∧ Below w.heap.size w w' := by
  obtain ⟨i0, hi0, hz0, hz1, hz2⟩ := info_parts infoTx
  have H := Lib.hid h
  have hgl : g < w.heap.size := (own_lt h g rfl).2
  have hcap : L.length ≤ d := by
    obtain ⟨_, _, e, hle⟩ := own_shape h
    simp only [Value.slice.injEq] at e
    omega
  have hdm : d ≤ 9223372036854775807 := by
    rcases h.2 with ⟨e, _⟩ | ⟨_, cap, _, e, _, _, _, hm, _⟩
    · simp at e
    · simp only [Value.slice.injEq] at e
      unfold maxLen at hm; omega
  have HI := Lib.hid (insS_pos s.toList L)
  have HPl := posS_le s.toList L
  have Hat := Lib.hid (fun k hk hp => posS_at (s := s.toList) (L := L) (k := k) hk hp)
  have HE := Lib.hid (fun k (hk : k ≤ L.length) (hne : ¬ L[k]? = some s.toList) (hp : posS s.toList L = k) => show (L.map encStr).take k ++ [.string s] ++ (L.map encStr).drop k = (insS L s.toList).map encStr by
    rw [insS_pos, hp, if_neg hne, ← enc_bytes s]
    simp [List.map_take, List.map_drop])
  clear h
  obtain ⟨n, hn⟩ : ∃ n, L.length = n := ⟨_, rfl⟩
  rw [hn] at H hm hcap HPl HE ⊢
  have HLn := Lib.hid hn
  generalize posS s.toList L = p at *
  obtain ⟨R, hR⟩ : ∃ R, (insS L s.toList).map encStr = R := ⟨_, rfl⟩
  have HRl := Lib.hid (show (insS L s.toList).length = R.length by rw [← hR, List.length_map])
  have HRI := Lib.hid (show insS L s.toList = L → R = L.map encStr ∧ R.length = n from fun e => by rw [← hR, e, List.length_map]; exact ⟨rfl, hn⟩)
  rw [hR] at HE ⊢
  clear hR
  rw [HRl.out]
  go_enter Tryz.func66, Tryz.ntmps66
  go_wp2_with fail
  go_loopw [5] (fun v5 wr => ∃ k : Nat, k ≤ p ∧ w = wr ∧ v5 = .int .i64 k) (fun i _ => n - (intOf i).toNat)
  case atStart => exact ⟨0, by omega, rfl, rfl⟩
  case round =>
    obtain ⟨k, hk, rfl, rfl⟩ := hrel
    have hkn : k ≤ n := by omega
    by_cases hlt : k < n
    · have hkl : k < L.length := by have := HLn.out; omega
      obtain ⟨b, hb1, hb2⟩ : ∃ b : ByteArray, encStr L[k] = .string b ∧ b.toList = L[k] := ⟨⟨L[k].toArray⟩, rfl, by rw [ByteArray.toList_eq]⟩
      have c0 := H.out.cellAt k (by omega)
      rw [List.getElem?_map, List.getElem?_eq_getElem hkl, Option.map_some, hb1] at c0
      have hA := Hat.out k hkl hk
      rw [← hb2] at hA
      obtain ⟨hA1, hA2⟩ := hA
      cases hq : Op.bytesLess b.toList s.toList
      · obtain rfl : p = k := hA2 hq
        clear hA1 hA2
        cases he : (b.toList == s.toList)
        · have hne : ¬ L[p]? = some s.toList := by
            rw [List.getElem?_eq_getElem hkl, ← hb2]
            intro e
            injection e with e
            rw [e] at he
            simp at he
          obtain ⟨k, hkk⟩ : ∃ k, k = p := ⟨_, rfl⟩
          subst hkk
          have HXl := Lib.hid (HE.out k hkn hne rfl)
          have R1 := Lib.hid (own_partV H.out (by rw [List.length_map]; exact HLn.out) hgl 0 k 0 (by omega) ((L.map encStr).take k) (by rw [List.length_take, List.length_map, HLn.out]; omega) (fun _ => rfl) (fun i hi => by rw [Nat.zero_add, List.getElem?_take_of_lt hi]))
          have R2 := Lib.hid (own_partV H.out (by rw [List.length_map]; exact HLn.out) hgl k (n - k) k (by omega) ((L.map encStr).drop k) (by rw [List.length_drop, List.length_map, HLn.out]) (fun _ => rfl) (fun i hi => by rw [List.getElem?_drop]))
          have O1 := Lib.hid (fun u (hu : u ∈ (L.map encStr).take k) => enc_one L u (List.mem_of_mem_take hu))
          have O2 := Lib.hid (fun u (hu : u ∈ (L.map encStr).drop k) => enc_one L u (List.mem_of_mem_drop hu))
          have HRn := Lib.hid (show R.length = k + 1 + (n - k) by have := congrArg List.length HXl.out; simp only [List.length_append, List.length_take, List.length_drop, List.length_map, List.length_cons, List.length_nil, HLn.out] at this; omega)
          have HRl := HRn
          generalize (L.map encStr).take k = T1 at *
          generalize (L.map encStr).drop k = T2 at *
          have hs0 : (0 : Int) ≤ (k : Int) := by omega
          have hs1 : (k : Int) ≤ (d : Int) := by omega
          have hs2 : (k : Int) ≤ (n : Int) := by omega
          have hs3 : (n : Int) ≤ (d : Int) := by omega
          have hdk : ¬ d = k := by omega
          have hdk1 : (k : Int) < (d : Int) := by omega
          have hs4 : (k : Int).toNat = k := by omega
          clear hb1 hb2 HE hne
          go_upto_region 6 with (fail)
          clear Hat HI
          go_region_held3 (fun w' => w.heap.size ≤ w'.heap.size)
            (first | exact k0 | exact Nat.le_refl _ | (simp; done) | (simp; omega))
            (first | (refine step_append_any _ (by rfl) (.tmp 33) (.tmp 36) _ (by rfl) w.heap.size 9 i0 _ 1 16 Tryz.underlying49 hi0 hz0 hz1 hz2 rfl (by omega) (.slice (some ⟨w.heap.size, 0, none⟩) 0 0) 0 [] (by rfl) (World.ownsRow.drew ((made_a w _).alloc _)) w.heap.size (some ⟨g, 0, none⟩) k d T1 (by rfl) (R1.out.below ((((Below.refl w.heap.size w).alloc (Nat.le_refl _) (.cells #[] 9)).alloc (by simp) (.cells #[.string s] 9))).drew) O1.out (by simp only [maxLen]; omega) (by omega) (by first | (simp; done) | (simp; omega)) ?_; intro v1 w1 hown1' hg1 hat1; have hown1 := (show w1.ownsRow w.heap.size 9 1 v1 k T1 by simpa using hown1'); clear hown1'; obtain ⟨A1, cc1, rfl, _⟩ := own_shape hown1; have hb1 : Below w.heap.size w w1 := below_own ((((Below.refl w.heap.size w).alloc (Nat.le_refl _) (.cells #[] 9)).alloc (by simp) (.cells #[.string s] 9))).drew (World.ownsRow.drew ((made_a w _).alloc _)) hg1 (Nat.le_refl _) (by first | (simp; done) | (simp; omega)); have k0 := hb1.size; have rc1 : Reads w1 ((w.heap.size + 1) + 1) 1 (some ⟨(w.heap.size + 1), 0, none⟩) 1 [.string s] := one_grown (Reads.drew (one_b w (.cells #[] 9) 9 (.string s))) hg1 (by first | (simp; done) | (simp; omega)) (by simp [Value.ownBlock])) | (refine step_append_any _ (by rfl) (.tmp 33) (.tmp 36) _ (by rfl) w.heap.size 9 i0 _ 1 16 Tryz.underlying49 hi0 hz0 hz1 hz2 rfl (by omega) (.slice (some ⟨w.heap.size + 1, 0, none⟩) 0 0) 0 [] (by rfl) (World.ownsRow.drew (own_mono (made_b w (.cells #[.string s] 9) _) (by simp))) w.heap.size (some ⟨g, 0, none⟩) k d T1 (by rfl) (R1.out.below ((((Below.refl w.heap.size w).alloc (Nat.le_refl _) (.cells #[.string s] 9)).alloc (by simp) (.cells #[] 9))).drew) O1.out (by simp only [maxLen]; omega) (by omega) (by first | (simp; done) | (simp; omega)) ?_; intro v1 w1 hown1' hg1 hat1; have hown1 := (show w1.ownsRow w.heap.size 9 1 v1 k T1 by simpa using hown1'); clear hown1'; obtain ⟨A1, cc1, rfl, _⟩ := own_shape hown1; have hb2 : Below w.heap.size w w1 := below_own ((((Below.refl w.heap.size w).alloc (Nat.le_refl _) (.cells #[.string s] 9)).alloc (by simp) (.cells #[] 9))).drew (World.ownsRow.drew (own_mono (made_b w (.cells #[.string s] 9) _) (by simp))) hg1 (Nat.le_refl _) (by first | (simp; done) | (simp; omega)); have k0 := hb2.size; have rc2 : Reads w1 (w.heap.size + 1) 1 (some ⟨w.heap.size, 0, none⟩) 1 [.string s] := one_grown (Reads.drew (one_a w 9 (.string s) (.cells #[] 9))) hg1 (by first | (simp; done) | (simp; omega)) (by simp [Value.ownBlock])) | (refine step_append_any _ (by rfl) (.tmp 33) (.tmp 36) _ (by rfl) w.heap.size 9 i0 _ 1 16 Tryz.underlying49 hi0 hz0 hz1 hz2 rfl (by omega) (.slice (some ⟨w.heap.size, 0, none⟩) 0 0) 0 [] (by rfl) (World.ownsRow.drew (made_a w _)) w.heap.size (some ⟨g, 0, none⟩) k d T1 (by rfl) (R1.out.below (((Below.refl w.heap.size w).alloc (Nat.le_refl _) (.cells #[] 9))).drew) O1.out (by simp only [maxLen]; omega) (by omega) (by first | (simp; done) | (simp; omega)) ?_; intro v1 w1 hown1' hg1 hat1; have hown1 := (show w1.ownsRow w.heap.size 9 1 v1 k T1 by simpa using hown1'); clear hown1'; obtain ⟨A1, cc1, rfl, _⟩ := own_shape hown1; have hb0 : Below w.heap.size w w1 := below_own (((Below.refl w.heap.size w).alloc (Nat.le_refl _) (.cells #[] 9))).drew (World.ownsRow.drew (made_a w _)) hg1 (Nat.le_refl _) (by first | (simp; done) | (simp; omega)); have k0 := hb0.size) | (refine step_append_any _ (by rfl) (.tmp 37) (.tmp 39) _ (by rfl) w.heap.size 9 i0 _ 1 16 Tryz.underlying49 hi0 hz0 hz1 hz2 rfl (by omega) (.slice A1 k cc1) k T1 (by rfl) (hown1.alloc _) _ (some ⟨w1.heap.size, 0, none⟩) 1 1 [.string s] (by rfl) (new_one w1 _ _) (by simp [Value.oneCell']) (by simp only [maxLen]; omega) (by omega) (by have := hb0.size; simp; omega) ?_; intro v2 w2 hown2 hg2 hat2; have hb : Below w.heap.size w w2 := below_own (hb0.alloc hb0.size _) (hown1.alloc _) hg2 (Nat.le_refl _) (by have := hb0.size; simp; omega); obtain ⟨A2, cc2, rfl, _⟩ := own_shape hown2; have k0 := hb.size) | (refine step_append_any _ (by rfl) (.tmp 37) (.tmp 39) _ (by rfl) w.heap.size 9 i0 _ 1 16 Tryz.underlying49 hi0 hz0 hz1 hz2 rfl (by omega) (.slice A1 k cc1) k T1 (by rfl) hown1 _ (some ⟨(w.heap.size + 1), 0, none⟩) 1 1 [.string s] (by rfl) rc1 (by simp [Value.oneCell']) (by simp only [maxLen]; omega) (by omega) hb1.size ?_; intro v2 w2 hown2 hg2 hat2; have hb : Below w.heap.size w w2 := below_own hb1 hown1 hg2 (Nat.le_refl _) hb1.size; obtain ⟨A2, cc2, rfl, _⟩ := own_shape hown2; have k0 := hb.size) | (refine step_append_any _ (by rfl) (.tmp 37) (.tmp 39) _ (by rfl) w.heap.size 9 i0 _ 1 16 Tryz.underlying49 hi0 hz0 hz1 hz2 rfl (by omega) (.slice A1 k cc1) k T1 (by rfl) hown1 _ (some ⟨w.heap.size, 0, none⟩) 1 1 [.string s] (by rfl) rc2 (by simp [Value.oneCell']) (by simp only [maxLen]; omega) (by omega) hb2.size ?_; intro v2 w2 hown2 hg2 hat2; have hb : Below w.heap.size w w2 := below_own hb2 hown1 hg2 (Nat.le_refl _) hb2.size; obtain ⟨A2, cc2, rfl, _⟩ := own_shape hown2; have k0 := hb.size) | (refine step_append_any _ (by rfl) (.tmp 40) (.tmp 43) _ (by rfl) w.heap.size 9 i0 _ 1 16 Tryz.underlying49 hi0 hz0 hz1 hz2 rfl (by omega) (.slice A2 (k + 1) cc2) (k + 1) (T1 ++ [.string s]) (by rfl) hown2 w.heap.size (some ⟨g, k, none⟩) (n - k) (d - k) T2 (by rfl) (R2.out.below hb) O2.out (by simp only [maxLen]; omega) (by omega) hb.size ?_; intro v3 w3 hown3 hg3 hat3; have hb3 : Below w.heap.size w w3 := below_own hb hown2 hg3 (Nat.le_refl _) hb.size; obtain ⟨A3, cc3, rfl, _⟩ := own_shape hown3; have k0 := hb3.size) | fail)
          all_goals
            have hown4 : w3.ownsRow w.heap.size 9 1 (.slice A3 (k + 1 + (n - k)) cc3) (k + 1 + (n - k)) R := by
              have hh := hown3
              rw [HXl.out] at hh
              exact hh
            clear hown3
            go_wp2_with fail
            go_ret
            rw [HRl.out]
            exact ⟨_, rfl, own_mono hown4 hbw, hb3⟩
        · have heq : L[p]? = some s.toList := by
            rw [List.getElem?_eq_getElem hkl, ← hb2, beq_iff_eq.1 he]
          obtain ⟨r1, r2⟩ := HRI.out (by rw [HI.out, if_pos heq])
          have HR1 := Lib.hid r1; have HR2 := Lib.hid r2
          clear r1 r2 heq hb1 hb2 HE HI Hat HRI
          go_wp2_with fail
          go_ret
          exact ⟨_, rfl, by rw [HR1.out, List.length_map, HLn.out]; exact H.out, Below.refl _ _⟩
      · have hA3 := hA1 hq
        clear hA1 hA2 hb1 hb2
        go_wp2_with fail
        go_roundw
        case rel => exact ⟨k + 1, hA3, by first | trivial | rfl, by go_num⟩
        case measure => simp [intOf]; omega
    · obtain rfl : k = n := by omega
      obtain rfl : p = k := by omega
      obtain ⟨k, hkk⟩ : ∃ k, k = p := ⟨_, rfl⟩
      subst hkk
      have hne : ¬ L[k]? = some s.toList := by rw [List.getElem?_eq_none (by rw [HLn.out]; exact Nat.le_refl _)]; simp
      have HXl := Lib.hid (HE.out k hkn hne rfl)
      have HT2 := Lib.hid (show (L.map encStr).drop k = [] from List.drop_eq_nil_of_le (by rw [List.length_map, HLn.out]; exact Nat.le_refl _))
      have R1 := Lib.hid (own_partV H.out (by rw [List.length_map]; exact HLn.out) hgl 0 k 0 (by omega) ((L.map encStr).take k) (by rw [List.length_take, List.length_map, HLn.out]; omega) (fun _ => rfl) (fun i hi => by rw [Nat.zero_add, List.getElem?_take_of_lt hi]))
      have R2 := Lib.hid (fun a' => own_partV H.out (by rw [List.length_map]; exact HLn.out) hgl k 0 a' (by omega) ((L.map encStr).drop k) (by rw [HT2.out]; rfl) (fun h => by omega) (fun i hi => by omega))
      have O1 := Lib.hid (fun u (hu : u ∈ (L.map encStr).take k) => enc_one L u (List.mem_of_mem_take hu))
      have O2 := Lib.hid (fun u (hu : u ∈ (L.map encStr).drop k) => enc_one L u (List.mem_of_mem_drop hu))
      have HRn := Lib.hid (show R.length = k + 1 + 0 by have := congrArg List.length HXl.out; simp only [List.length_append, List.length_take, List.length_drop, List.length_map, List.length_cons, List.length_nil, HLn.out] at this; omega)
      have HRl := HRn
      generalize (L.map encStr).take k = T1 at *
      generalize (L.map encStr).drop k = T2 at *
      have hs0 : (0 : Int) ≤ (k : Int) := by omega
      have hs1 : (k : Int) ≤ (d : Int) := by omega
      have hs4 : (k : Int).toNat = k := by omega
      clear HE hne HT2
      by_cases hdk : d = k
      · subst hdk
        have R2 := Lib.hid (R2.out 0)
        go_upto_region 6 with (fail)
        clear Hat HI
        go_region_held3 (fun w' => w.heap.size ≤ w'.heap.size)
          (first | exact k0 | exact Nat.le_refl _ | (simp; done) | (simp; omega))
          (first | (refine step_append_any _ (by rfl) (.tmp 33) (.tmp 36) _ (by rfl) w.heap.size 9 i0 _ 1 16 Tryz.underlying49 hi0 hz0 hz1 hz2 rfl (by omega) (.slice (some ⟨w.heap.size, 0, none⟩) 0 0) 0 [] (by rfl) (World.ownsRow.drew ((made_a w _).alloc _)) w.heap.size (some ⟨g, 0, none⟩) d d T1 (by rfl) (R1.out.below ((((Below.refl w.heap.size w).alloc (Nat.le_refl _) (.cells #[] 9)).alloc (by simp) (.cells #[.string s] 9))).drew) O1.out (by simp only [maxLen]; omega) (by omega) (by first | (simp; done) | (simp; omega)) ?_; intro v1 w1 hown1' hg1 hat1; have hown1 := (show w1.ownsRow w.heap.size 9 1 v1 d T1 by simpa using hown1'); clear hown1'; obtain ⟨A1, cc1, rfl, _⟩ := own_shape hown1; have hb1 : Below w.heap.size w w1 := below_own ((((Below.refl w.heap.size w).alloc (Nat.le_refl _) (.cells #[] 9)).alloc (by simp) (.cells #[.string s] 9))).drew (World.ownsRow.drew ((made_a w _).alloc _)) hg1 (Nat.le_refl _) (by first | (simp; done) | (simp; omega)); have k0 := hb1.size; have rc1 : Reads w1 ((w.heap.size + 1) + 1) 1 (some ⟨(w.heap.size + 1), 0, none⟩) 1 [.string s] := one_grown (Reads.drew (one_b w (.cells #[] 9) 9 (.string s))) hg1 (by first | (simp; done) | (simp; omega)) (by simp [Value.ownBlock])) | (refine step_append_any _ (by rfl) (.tmp 33) (.tmp 36) _ (by rfl) w.heap.size 9 i0 _ 1 16 Tryz.underlying49 hi0 hz0 hz1 hz2 rfl (by omega) (.slice (some ⟨w.heap.size + 1, 0, none⟩) 0 0) 0 [] (by rfl) (World.ownsRow.drew (own_mono (made_b w (.cells #[.string s] 9) _) (by simp))) w.heap.size (some ⟨g, 0, none⟩) d d T1 (by rfl) (R1.out.below ((((Below.refl w.heap.size w).alloc (Nat.le_refl _) (.cells #[.string s] 9)).alloc (by simp) (.cells #[] 9))).drew) O1.out (by simp only [maxLen]; omega) (by omega) (by first | (simp; done) | (simp; omega)) ?_; intro v1 w1 hown1' hg1 hat1; have hown1 := (show w1.ownsRow w.heap.size 9 1 v1 d T1 by simpa using hown1'); clear hown1'; obtain ⟨A1, cc1, rfl, _⟩ := own_shape hown1; have hb2 : Below w.heap.size w w1 := below_own ((((Below.refl w.heap.size w).alloc (Nat.le_refl _) (.cells #[.string s] 9)).alloc (by simp) (.cells #[] 9))).drew (World.ownsRow.drew (own_mono (made_b w (.cells #[.string s] 9) _) (by simp))) hg1 (Nat.le_refl _) (by first | (simp; done) | (simp; omega)); have k0 := hb2.size; have rc2 : Reads w1 (w.heap.size + 1) 1 (some ⟨w.heap.size, 0, none⟩) 1 [.string s] := one_grown (Reads.drew (one_a w 9 (.string s) (.cells #[] 9))) hg1 (by first | (simp; done) | (simp; omega)) (by simp [Value.ownBlock])) | (refine step_append_any _ (by rfl) (.tmp 33) (.tmp 36) _ (by rfl) w.heap.size 9 i0 _ 1 16 Tryz.underlying49 hi0 hz0 hz1 hz2 rfl (by omega) (.slice (some ⟨w.heap.size, 0, none⟩) 0 0) 0 [] (by rfl) (World.ownsRow.drew (made_a w _)) w.heap.size (some ⟨g, 0, none⟩) d d T1 (by rfl) (R1.out.below (((Below.refl w.heap.size w).alloc (Nat.le_refl _) (.cells #[] 9))).drew) O1.out (by simp only [maxLen]; omega) (by omega) (by first | (simp; done) | (simp; omega)) ?_; intro v1 w1 hown1' hg1 hat1; have hown1 := (show w1.ownsRow w.heap.size 9 1 v1 d T1 by simpa using hown1'); clear hown1'; obtain ⟨A1, cc1, rfl, _⟩ := own_shape hown1; have hb0 : Below w.heap.size w w1 := below_own (((Below.refl w.heap.size w).alloc (Nat.le_refl _) (.cells #[] 9))).drew (World.ownsRow.drew (made_a w _)) hg1 (Nat.le_refl _) (by first | (simp; done) | (simp; omega)); have k0 := hb0.size) | (refine step_append_any _ (by rfl) (.tmp 37) (.tmp 39) _ (by rfl) w.heap.size 9 i0 _ 1 16 Tryz.underlying49 hi0 hz0 hz1 hz2 rfl (by omega) (.slice A1 d cc1) d T1 (by rfl) (hown1.alloc _) _ (some ⟨w1.heap.size, 0, none⟩) 1 1 [.string s] (by rfl) (new_one w1 _ _) (by simp [Value.oneCell']) (by simp only [maxLen]; omega) (by omega) (by have := hb0.size; simp; omega) ?_; intro v2 w2 hown2 hg2 hat2; have hb : Below w.heap.size w w2 := below_own (hb0.alloc hb0.size _) (hown1.alloc _) hg2 (Nat.le_refl _) (by have := hb0.size; simp; omega); obtain ⟨A2, cc2, rfl, _⟩ := own_shape hown2; have k0 := hb.size) | (refine step_append_any _ (by rfl) (.tmp 37) (.tmp 39) _ (by rfl) w.heap.size 9 i0 _ 1 16 Tryz.underlying49 hi0 hz0 hz1 hz2 rfl (by omega) (.slice A1 d cc1) d T1 (by rfl) hown1 _ (some ⟨(w.heap.size + 1), 0, none⟩) 1 1 [.string s] (by rfl) rc1 (by simp [Value.oneCell']) (by simp only [maxLen]; omega) (by omega) hb1.size ?_; intro v2 w2 hown2 hg2 hat2; have hb : Below w.heap.size w w2 := below_own hb1 hown1 hg2 (Nat.le_refl _) hb1.size; obtain ⟨A2, cc2, rfl, _⟩ := own_shape hown2; have k0 := hb.size) | (refine step_append_any _ (by rfl) (.tmp 37) (.tmp 39) _ (by rfl) w.heap.size 9 i0 _ 1 16 Tryz.underlying49 hi0 hz0 hz1 hz2 rfl (by omega) (.slice A1 d cc1) d T1 (by rfl) hown1 _ (some ⟨w.heap.size, 0, none⟩) 1 1 [.string s] (by rfl) rc2 (by simp [Value.oneCell']) (by simp only [maxLen]; omega) (by omega) hb2.size ?_; intro v2 w2 hown2 hg2 hat2; have hb : Below w.heap.size w w2 := below_own hb2 hown1 hg2 (Nat.le_refl _) hb2.size; obtain ⟨A2, cc2, rfl, _⟩ := own_shape hown2; have k0 := hb.size) | (refine step_append_any _ (by rfl) (.tmp 40) (.tmp 43) _ (by rfl) w.heap.size 9 i0 _ 1 16 Tryz.underlying49 hi0 hz0 hz1 hz2 rfl (by omega) (.slice A2 (d + 1) cc2) (d + 1) (T1 ++ [.string s]) (by rfl) hown2 w.heap.size (some ⟨g, 0, none⟩) 0 0 T2 (by rfl) (R2.out.below hb) O2.out (by simp only [maxLen]; omega) (by omega) hb.size ?_; intro v3 w3 hown3 hg3 hat3; have hb3 : Below w.heap.size w w3 := below_own hb hown2 hg3 (Nat.le_refl _) hb.size; obtain ⟨A3, cc3, rfl, _⟩ := own_shape hown3; have k0 := hb3.size) | fail)
        all_goals
          have hown4 : w3.ownsRow w.heap.size 9 1 (.slice A3 (d + 1 + (0)) cc3) (d + 1 + (0)) R := by
            have hh := hown3
            rw [HXl.out] at hh
            exact hh
          clear hown3
          go_wp2_with fail
          go_ret
          rw [HRl.out]
          exact ⟨_, rfl, own_mono hown4 hbw, hb3⟩
      · have hdk1 : (k : Int) < (d : Int) := by omega
        have R2 := Lib.hid (R2.out k)
        go_upto_region 6 with (fail)
        clear Hat HI
        go_region_held3 (fun w' => w.heap.size ≤ w'.heap.size)
          (first | exact k0 | exact Nat.le_refl _ | (simp; done) | (simp; omega))
          (first | (refine step_append_any _ (by rfl) (.tmp 33) (.tmp 36) _ (by rfl) w.heap.size 9 i0 _ 1 16 Tryz.underlying49 hi0 hz0 hz1 hz2 rfl (by omega) (.slice (some ⟨w.heap.size, 0, none⟩) 0 0) 0 [] (by rfl) (World.ownsRow.drew ((made_a w _).alloc _)) w.heap.size (some ⟨g, 0, none⟩) k d T1 (by rfl) (R1.out.below ((((Below.refl w.heap.size w).alloc (Nat.le_refl _) (.cells #[] 9)).alloc (by simp) (.cells #[.string s] 9))).drew) O1.out (by simp only [maxLen]; omega) (by omega) (by first | (simp; done) | (simp; omega)) ?_; intro v1 w1 hown1' hg1 hat1; have hown1 := (show w1.ownsRow w.heap.size 9 1 v1 k T1 by simpa using hown1'); clear hown1'; obtain ⟨A1, cc1, rfl, _⟩ := own_shape hown1; have hb1 : Below w.heap.size w w1 := below_own ((((Below.refl w.heap.size w).alloc (Nat.le_refl _) (.cells #[] 9)).alloc (by simp) (.cells #[.string s] 9))).drew (World.ownsRow.drew ((made_a w _).alloc _)) hg1 (Nat.le_refl _) (by first | (simp; done) | (simp; omega)); have k0 := hb1.size; have rc1 : Reads w1 ((w.heap.size + 1) + 1) 1 (some ⟨(w.heap.size + 1), 0, none⟩) 1 [.string s] := one_grown (Reads.drew (one_b w (.cells #[] 9) 9 (.string s))) hg1 (by first | (simp; done) | (simp; omega)) (by simp [Value.ownBlock])) | (refine step_append_any _ (by rfl) (.tmp 33) (.tmp 36) _ (by rfl) w.heap.size 9 i0 _ 1 16 Tryz.underlying49 hi0 hz0 hz1 hz2 rfl (by omega) (.slice (some ⟨w.heap.size + 1, 0, none⟩) 0 0) 0 [] (by rfl) (World.ownsRow.drew (own_mono (made_b w (.cells #[.string s] 9) _) (by simp))) w.heap.size (some ⟨g, 0, none⟩) k d T1 (by rfl) (R1.out.below ((((Below.refl w.heap.size w).alloc (Nat.le_refl _) (.cells #[.string s] 9)).alloc (by simp) (.cells #[] 9))).drew) O1.out (by simp only [maxLen]; omega) (by omega) (by first | (simp; done) | (simp; omega)) ?_; intro v1 w1 hown1' hg1 hat1; have hown1 := (show w1.ownsRow w.heap.size 9 1 v1 k T1 by simpa using hown1'); clear hown1'; obtain ⟨A1, cc1, rfl, _⟩ := own_shape hown1; have hb2 : Below w.heap.size w w1 := below_own ((((Below.refl w.heap.size w).alloc (Nat.le_refl _) (.cells #[.string s] 9)).alloc (by simp) (.cells #[] 9))).drew (World.ownsRow.drew (own_mono (made_b w (.cells #[.string s] 9) _) (by simp))) hg1 (Nat.le_refl _) (by first | (simp; done) | (simp; omega)); have k0 := hb2.size; have rc2 : Reads w1 (w.heap.size + 1) 1 (some ⟨w.heap.size, 0, none⟩) 1 [.string s] := one_grown (Reads.drew (one_a w 9 (.string s) (.cells #[] 9))) hg1 (by first | (simp; done) | (simp; omega)) (by simp [Value.ownBlock])) | (refine step_append_any _ (by rfl) (.tmp 33) (.tmp 36) _ (by rfl) w.heap.size 9 i0 _ 1 16 Tryz.underlying49 hi0 hz0 hz1 hz2 rfl (by omega) (.slice (some ⟨w.heap.size, 0, none⟩) 0 0) 0 [] (by rfl) (World.ownsRow.drew (made_a w _)) w.heap.size (some ⟨g, 0, none⟩) k d T1 (by rfl) (R1.out.below (((Below.refl w.heap.size w).alloc (Nat.le_refl _) (.cells #[] 9))).drew) O1.out (by simp only [maxLen]; omega) (by omega) (by first | (simp; done) | (simp; omega)) ?_; intro v1 w1 hown1' hg1 hat1; have hown1 := (show w1.ownsRow w.heap.size 9 1 v1 k T1 by simpa using hown1'); clear hown1'; obtain ⟨A1, cc1, rfl, _⟩ := own_shape hown1; have hb0 : Below w.heap.size w w1 := below_own (((Below.refl w.heap.size w).alloc (Nat.le_refl _) (.cells #[] 9))).drew (World.ownsRow.drew (made_a w _)) hg1 (Nat.le_refl _) (by first | (simp; done) | (simp; omega)); have k0 := hb0.size) | (refine step_append_any _ (by rfl) (.tmp 37) (.tmp 39) _ (by rfl) w.heap.size 9 i0 _ 1 16 Tryz.underlying49 hi0 hz0 hz1 hz2 rfl (by omega) (.slice A1 k cc1) k T1 (by rfl) (hown1.alloc _) _ (some ⟨w1.heap.size, 0, none⟩) 1 1 [.string s] (by rfl) (new_one w1 _ _) (by simp [Value.oneCell']) (by simp only [maxLen]; omega) (by omega) (by have := hb0.size; simp; omega) ?_; intro v2 w2 hown2 hg2 hat2; have hb : Below w.heap.size w w2 := below_own (hb0.alloc hb0.size _) (hown1.alloc _) hg2 (Nat.le_refl _) (by have := hb0.size; simp; omega); obtain ⟨A2, cc2, rfl, _⟩ := own_shape hown2; have k0 := hb.size) | (refine step_append_any _ (by rfl) (.tmp 37) (.tmp 39) _ (by rfl) w.heap.size 9 i0 _ 1 16 Tryz.underlying49 hi0 hz0 hz1 hz2 rfl (by omega) (.slice A1 k cc1) k T1 (by rfl) hown1 _ (some ⟨(w.heap.size + 1), 0, none⟩) 1 1 [.string s] (by rfl) rc1 (by simp [Value.oneCell']) (by simp only [maxLen]; omega) (by omega) hb1.size ?_; intro v2 w2 hown2 hg2 hat2; have hb : Below w.heap.size w w2 := below_own hb1 hown1 hg2 (Nat.le_refl _) hb1.size; obtain ⟨A2, cc2, rfl, _⟩ := own_shape hown2; have k0 := hb.size) | (refine step_append_any _ (by rfl) (.tmp 37) (.tmp 39) _ (by rfl) w.heap.size 9 i0 _ 1 16 Tryz.underlying49 hi0 hz0 hz1 hz2 rfl (by omega) (.slice A1 k cc1) k T1 (by rfl) hown1 _ (some ⟨w.heap.size, 0, none⟩) 1 1 [.string s] (by rfl) rc2 (by simp [Value.oneCell']) (by simp only [maxLen]; omega) (by omega) hb2.size ?_; intro v2 w2 hown2 hg2 hat2; have hb : Below w.heap.size w w2 := below_own hb2 hown1 hg2 (Nat.le_refl _) hb2.size; obtain ⟨A2, cc2, rfl, _⟩ := own_shape hown2; have k0 := hb.size) | (refine step_append_any _ (by rfl) (.tmp 40) (.tmp 43) _ (by rfl) w.heap.size 9 i0 _ 1 16 Tryz.underlying49 hi0 hz0 hz1 hz2 rfl (by omega) (.slice A2 (k + 1) cc2) (k + 1) (T1 ++ [.string s]) (by rfl) hown2 w.heap.size (some ⟨g, k, none⟩) 0 (d - k) T2 (by rfl) (R2.out.below hb) O2.out (by simp only [maxLen]; omega) (by omega) hb.size ?_; intro v3 w3 hown3 hg3 hat3; have hb3 : Below w.heap.size w w3 := below_own hb hown2 hg3 (Nat.le_refl _) hb.size; obtain ⟨A3, cc3, rfl, _⟩ := own_shape hown3; have k0 := hb3.size) | fail)
        all_goals
          have hown4 : w3.ownsRow w.heap.size 9 1 (.slice A3 (k + 1 + (0)) cc3) (k + 1 + (0)) R := by
            have hh := hown3
            rw [HXl.out] at hh
            exact hh
          clear hown3
          go_wp2_with fail
          go_ret
          rw [HRl.out]
          exact ⟨_, rfl, own_mono hown4 hbw, hb3⟩
end Go.Proofs.YthlpclnfnfbeiaaGreatDoor
