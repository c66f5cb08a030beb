/- A text cut at every occurrence of a byte: l01Split of the reference. -/
import Derived.Test.YtnbpbidflacoiaaDoorRows
import Derived.Test.YtnbpbidflacoiaaDoorL0
import Derived.Test.YtnbpbidflacoiaaDoorM0
import Derived.WalkKit
import Derived.ProofKit
import Derived.OpenShut
import Derived.BigQuiet
import Derived.Outline
import Derived.WalkSpells
import Derived.WalkLawsBesides
import Derived.Deep.DeepCutAuto
import Derived.Test.YtnbpbidflacoiaaDoorG0
import Derived.Test.YtnbpbidflacoiaaDoorT0
import Derived.Test.YtnbpbidflacoiaaDoorMA
import Derived.Lib.Hide
namespace Go.Proofs.YtnbpbidflacoiaaDoor
open Go.ChangeShapes Go.WideShapes Go.ChangeAt Go.RowKit

theorem infoTx : (Tryd.prog.info? 9).map (fun i => (i.zero, i.size, i.bytes)) = some (some (.string ByteArray.empty), 1, 16) := by kernel_rfl
theorem txC_add (L : List ByteArray) (s : ByteArray) : txC (L ++ [s]) = txC L ++ [.string s] := by simp [txC]
theorem new_txa (w : World) (t : TypeId) (a : ByteArray) : Reads (w.alloc (.cells #[.string a] t)) (w.alloc (.cells #[.string a] t)).heap.size 1 (some ⟨w.heap.size, 0, none⟩) 1 [.string a] :=
  ⟨rfl, fun _ => ⟨w.heap.size, 0, rfl, by simp, fun j u hu => by
    rw [Nat.zero_add, (Blk.new w t #[.string a]).cell]; simpa using hu⟩⟩
theorem byte_at (s : ByteArray) (k : Nat) (h : k < s.size) : s.data.toList[k]? = some s[k] := by
  rw [List.getElem?_eq_getElem (by simpa using h)]
  simp; rfl
theorem cut_hit {c : UInt8} {s : ByteArray} {k fr : Nat} (h : k < s.size) (e : s[k] = c) : cutF c s (s.size - k) fr = s.extract fr k :: cutF c s (s.size - (k + 1)) (k + 1) := by
  obtain ⟨m, hm⟩ : ∃ m, s.size - k = m + 1 := ⟨s.size - k - 1, by omega⟩
  rw [hm, cutF, show s.size - (m + 1) = k by omega, byte_at s k h, if_pos (by rw [e]), show s.size - (k + 1) = m by omega, show s.size - m = k + 1 by omega]
theorem cut_pass {c : UInt8} {s : ByteArray} {k fr : Nat} (h : k < s.size) (e : s[k] ≠ c) : cutF c s (s.size - k) fr = cutF c s (s.size - (k + 1)) fr := by
  obtain ⟨m, hm⟩ : ∃ m, s.size - k = m + 1 := ⟨s.size - k - 1, by omega⟩
  rw [hm, cutF, show s.size - (m + 1) = k by omega, byte_at s k h, if_neg (by simpa using e), show s.size - (k + 1) = m by omega]
theorem cutF_size (c : UInt8) (s : ByteArray) : ∀ m fr, ∀ p ∈ cutF c s m fr, p.size ≤ s.size
  | 0, fr, p, h => by
    simp only [cutF, List.mem_singleton] at h
    subst h; simp [ByteArray.size_extract]
  | m + 1, fr, p, h => by
    rw [cutF] at h
    split at h
    · rcases List.mem_cons.1 h with rfl | h
      · simp [ByteArray.size_extract]; omega
      · exact cutF_size c s m _ p h
    · exact cutF_size c s m _ p h
theorem cut_size (c : UInt8) (s : ByteArray) : ∀ p ∈ cutB c s, p.size ≤ s.size := cutF_size c s _ _
set_option maxRecDepth 100000 in
set_option maxHeartbeats 1000000 in
theorem specSplit_any (s : ByteArray) (c : UInt8) (hs : s.size ≤ 1073741824) (w : World) :
    Calls Tryd.prog 65 #[.string s, .int .u8 c.toNat] w fun e w' => ∃ v, e = .returned v ∧ w'.ownsRow w.heap.size 9 1 v (cutB c s).length (txC (cutB c s)) ∧ Below w.heap.size w w' := by
  obtain ⟨i0, hi0, hz0, hz1, hz2⟩ := info_parts infoTx
  go_enter Tryd.func65, Tryd.ntmps65
  go_wp2_with fail
  go_loopw [5, 6, 7] (fun v5 v6 v7 wr => ∃ (k fr n : Nat) (L : List ByteArray) (B : Option Addr) (d : Nat), k ≤ s.size + 1 ∧ fr ≤ s.size + 1 ∧ n ≤ k ∧ Hid (L.length = n) ∧ Hid ((k ≤ s.size ∧ fr ≤ k ∧ L ++ cutF c s (s.size - k) fr = cutB c s) ∨ (k = s.size + 1 ∧ L = cutB c s)) ∧ v5 = .slice B n d ∧ Hid (wr.ownsRow w.heap.size 9 1 (.slice B n d) n (txC L)) ∧ Hid (Below w.heap.size w wr) ∧ v6 = .int .i64 fr ∧ v7 = .int .i64 k) (fun _ _ i _ => s.size + 1 - (intOf i).toNat)
  case atStart => exact ⟨0, 0, 0, [], _, _, by omega, by omega, by omega, rfl, .inl ⟨by omega, by omega, rfl⟩, rfl, World.ownsRow_made (e := 9) (size := 1) w #[] 0 (Nat.le_refl _) (by decide) rfl, (Below.refl _ _).alloc (Nat.le_refl _) _, rfl, rfl⟩
  case round =>
    obtain ⟨k, fr, n, L, B, d, hk, hfr, hnk, HN, HT, rfl, HO, BW, rfl, rfl⟩ := hrel
    by_cases hle : k ≤ s.size
    · have HF := Lib.hid (show fr ≤ k ∧ L ++ cutF c s (s.size - k) fr = cutB c s from HT.out.elim (fun h => h.2) (fun h => by omega))
      have hfk := HF.out.1
      by_cases hlt : k < s.size
      · by_cases he : s[k] = c
        · have hc : ((s[k].toNat : Int) == (c.toNat : Int)) = true := by rw [he]; simp
          have HX := Lib.hid (show (L ++ [s.extract fr k]) ++ cutF c s (s.size - (k + 1)) (k + 1) = cutB c s by have := HF.out.2; rw [cut_hit hlt he] at this; simpa using this)
          clear he HT HF
          go_wp2_with (at_builtin; refine wpList_append_any _ rfl (.tmp 26) (.tmp 31) _ rfl w.heap.size 9 i0 _ 1 16 Tryd.underlying37 hi0 hz0 hz1 hz2 rfl (by omega) (.slice B n d) n (txC L) rfl (HO.out.alloc _) _ (some ⟨wr.heap.size, 0, none⟩) 1 1 [.string (s.extract fr k)] rfl (new_txa _ _ _) (by simp [Value.oneCell']) (by simp only [maxLen]; omega) (by omega) (by have := BW.out.size; simp; omega) ?_; intro v4 w4 hown4 hg4 hat4; obtain ⟨B4, d4, rfl, _⟩ := own_shape hown4)
          go_roundw
          case rel => exact ⟨k + 1, k + 1, n + 1, L ++ [s.extract fr k], B4, d4, by omega, by omega, by omega, by have := HN.out; simp [Hid, this], .inl ⟨by omega, by omega, HX.out⟩, rfl, by rw [txC_add]; exact hown4, below_own (BW.out.alloc BW.out.size _) (HO.out.alloc _) hg4 (Nat.le_refl _) (by have := BW.out.size; simp; omega), by go_num, by go_num⟩
          case measure => simp [intOf]; omega
        · have hc : ((s[k].toNat : Int) == (c.toNat : Int)) = false := by
            rw [beq_eq_false_iff_ne]
            intro h
            exact he (UInt8.toNat.inj (by omega))
          have HX := Lib.hid (show L ++ cutF c s (s.size - (k + 1)) fr = cutB c s by have := HF.out.2; rw [cut_pass hlt he] at this; exact this)
          clear he HT HF
          go_wp2_with fail
          go_roundw
          case rel => exact ⟨k + 1, fr, n, L, B, d, by omega, by omega, by omega, HN.out, .inl ⟨by omega, by omega, HX.out⟩, rfl, HO.out, BW.out, rfl, by go_num⟩
          case measure => simp [intOf]; omega
      · obtain rfl : k = s.size := by omega
        have HX := Lib.hid (show L ++ [s.extract fr s.size] = cutB c s by have := HF.out.2; rw [Nat.sub_self, cutF] at this; exact this)
        clear HT HF
        go_wp2_with (at_builtin; refine wpList_append_any _ rfl (.tmp 26) (.tmp 31) _ rfl w.heap.size 9 i0 _ 1 16 Tryd.underlying37 hi0 hz0 hz1 hz2 rfl (by omega) (.slice B n d) n (txC L) rfl (HO.out.alloc _) _ (some ⟨wr.heap.size, 0, none⟩) 1 1 [.string (s.extract fr s.size)] rfl (new_txa _ _ _) (by simp [Value.oneCell']) (by simp only [maxLen]; omega) (by omega) (by have := BW.out.size; simp; omega) ?_; intro v4 w4 hown4 hg4 hat4; obtain ⟨B4, d4, rfl, _⟩ := own_shape hown4)
        go_roundw
        case rel => exact ⟨s.size + 1, s.size + 1, n + 1, L ++ [s.extract fr s.size], B4, d4, by omega, by omega, by omega, by have := HN.out; simp [Hid, this], .inr ⟨rfl, HX.out⟩, rfl, by rw [txC_add]; exact hown4, below_own (BW.out.alloc BW.out.size _) (HO.out.alloc _) hg4 (Nat.le_refl _) (by have := BW.out.size; simp; omega), by go_num, by go_num⟩
        case measure => (first | (simp [intOf]; done) | (simp [intOf]; omega))
    · have HF := Lib.hid (show L = cutB c s from HT.out.elim (fun h => by omega) (fun h => h.2))
      have HN2 := Lib.hid (show (cutB c s).length = n by rw [← HF.out]; exact HN.out)
      clear HT
      go_wp2_with fail
      go_ret
      exact ⟨_, rfl, by rw [HN2.out, ← HF.out]; exact HO.out, BW.out⟩

end Go.Proofs.YtnbpbidflacoiaaDoor
