/- strings.Cut at a separator of one byte, over any program: no variable is read there. -/
import Derived.Shelf.Strings.Cut
import Derived.Test.YteeonojcihcfiaaDoorK9DN4
namespace Go.Proofs.YteeonojcihcfiaaDoor
open Go Go.Shelf Go.RowKit
variable {P : Program} {ρ : Ren}
set_option maxHeartbeats 2000000 in
set_option maxRecDepth 100000 in
theorem slcut_one (L : Lays.n220 P ρ) (s : ByteArray) (c : UInt8) (w : World) (hs : s.size < 4294967281) :
    Calls P (ρ.f 220) #[.string s, .string ⟨#[c]⟩] w fun e w' => e = .returned (.tuple #[.string ⟨(Lib.cut s.data.toList (⟨#[c]⟩ : ByteArray).data.toList).1.toArray⟩, .string ⟨(Lib.cut s.data.toList (⟨#[c]⟩ : ByteArray).data.toList).2.1.toArray⟩, .bool (Lib.cut s.data.toList (⟨#[c]⟩ : ByteArray).data.toList).2.2]) ∧ ∃ n, w' = w.drewN n := by
  have HI := Lib.hid (Any.stringslite_Index_one (ρ := ρ) { L with } s c)
  rcases Lib.indexB_cases s ⟨#[c]⟩ with hix | ⟨i, hix, hroom⟩
  · obtain ⟨e1, e2, e3⟩ := Lib.cutB_miss s ⟨#[c]⟩ hix
    rw [e1, e2, e3]
    rw [show Lib.indexByte s.data.toList c = -1 by rw [← Lib.index_one]; exact hix] at HI
    have t3 := L.t3; have t4 := L.t4; have t9 := L.t9
    have a3 : ∀ w, (isAgg (ρ.t 3)).run P w = .ok false w := run_isAgg_plain L.t3 rfl; have a4 : ∀ w, (isAgg (ρ.t 4)).run P w = .ok false w := run_isAgg_plain L.t4 rfl; have a9 : ∀ w, (isAgg (ρ.t 9)).run P w = .ok false w := run_isAgg_plain L.t9 rfl
    have e219 : ∀ args w, (callFunc (ρ.f 219) args).run P w = .ok (.enter (ρ.f 219) args) w := enters_of L.f219 (by kernel_rfl) rfl
    have mixed := L.mixed; have z3 := L.z3; have v3 := L.v3; have z4 := L.z4; have v4 := L.v4; have z9 := L.z9; have v9 := L.v9
    go_enter L.f220, Body.n220_ntmps ρ
    go_wp2_with (go_at_fn (ρ.f 219); refine (HI.out w).mono ?_; rintro e w' ⟨rfl, rfl⟩)
    go_ret3
    exact ⟨rfl, 0, rfl⟩
  · obtain ⟨e1, e2, e3⟩ := Lib.cutB_hit s ⟨#[c]⟩ i hix
    rw [e1, e2, e3]
    have h1 : (⟨#[c]⟩ : ByteArray).size = 1 := rfl
    rw [h1] at hroom
    rw [h1]
    rw [show Lib.indexByte s.data.toList c = (i : Int) by rw [← Lib.index_one]; exact hix] at HI
    have c1 : (0 : Int) ≤ ↑i := by omega
    have c2 : (↑i : Int) ≤ ↑s.size := by omega
    have c3 : (0 : Int) ≤ ↑i + 1 := by omega
    have c4 : (↑i + 1 : Int) ≤ ↑s.size := by omega
    have t3 := L.t3; have t4 := L.t4; have t9 := L.t9
    have a3 : ∀ w, (isAgg (ρ.t 3)).run P w = .ok false w := run_isAgg_plain L.t3 rfl; have a4 : ∀ w, (isAgg (ρ.t 4)).run P w = .ok false w := run_isAgg_plain L.t4 rfl; have a9 : ∀ w, (isAgg (ρ.t 9)).run P w = .ok false w := run_isAgg_plain L.t9 rfl
    have e219 : ∀ args w, (callFunc (ρ.f 219) args).run P w = .ok (.enter (ρ.f 219) args) w := enters_of L.f219 (by kernel_rfl) rfl
    have mixed := L.mixed; have z3 := L.z3; have v3 := L.v3; have z4 := L.z4; have v4 := L.v4; have z9 := L.z9; have v9 := L.v9
    go_enter L.f220, Body.n220_ntmps ρ
    go_wp2_with (go_at_fn (ρ.f 219); refine (HI.out w).mono ?_; rintro e w' ⟨rfl, rfl⟩)
    go_region_o
    go_wp2
    go_ret3
    exact ⟨rfl, 1, rfl⟩
set_option maxHeartbeats 1000000 in
theorem cut_one (L : Lays.n145 P ρ) (s : ByteArray) (c : UInt8) (w : World) (hs : s.size < 4294967281) :
    Calls P (ρ.f 145) #[.string s, .string ⟨#[c]⟩] w fun e w' => e = .returned (.tuple #[.string ⟨(Lib.cut s.data.toList (⟨#[c]⟩ : ByteArray).data.toList).1.toArray⟩, .string ⟨(Lib.cut s.data.toList (⟨#[c]⟩ : ByteArray).data.toList).2.1.toArray⟩, .bool (Lib.cut s.data.toList (⟨#[c]⟩ : ByteArray).data.toList).2.2]) ∧ ∃ n, w' = w.drewN n := by
  have HS := Lib.hid (slcut_one (ρ := ρ) { L with } s c w hs)
  have t4 := L.t4; have t9 := L.t9; have t59 := L.t59
  have a4 : ∀ w, (isAgg (ρ.t 4)).run P w = .ok false w := run_isAgg_plain L.t4 rfl; have a9 : ∀ w, (isAgg (ρ.t 9)).run P w = .ok false w := run_isAgg_plain L.t9 rfl; have a59 : ∀ w, (isAgg (ρ.t 59)).run P w = .ok false w := run_isAgg_plain L.t59 rfl
  have e220 : ∀ args w, (callFunc (ρ.f 220) args).run P w = .ok (.enter (ρ.f 220) args) w := enters_of L.f220 (by kernel_rfl) rfl
  have mixed := L.mixed; have z4 := L.z4; have v4 := L.v4; have z9 := L.z9; have v9 := L.v9; have z59 := L.z59; have v59 := L.v59
  go_enter L.f145, Body.n145_ntmps ρ
  go_wp2_with (go_at_fn (ρ.f 220); refine HS.out.mono ?_; rintro e w' ⟨rfl, n, rfl⟩)
  go_ret3
  exact ⟨rfl, n, rfl⟩
theorem take_none {c : UInt8} : ∀ l : List UInt8, c ∉ l → l.takeWhile (· != c) = l ∧ l.dropWhile (· != c) = []
  | [], _ => by simp
  | x :: r, h => by
    have hx : (x != c) = true := by rw [bne_iff_ne]; intro e; exact h (by simp [e])
    obtain ⟨h1, h2⟩ := take_none r (fun e => h (List.mem_cons_of_mem _ e))
    rw [List.takeWhile_cons, List.dropWhile_cons, hx]
    exact ⟨by simp only [if_true, h1], by simp only [if_true, h2]⟩
theorem cut_parts (s : ByteArray) : (⟨(Lib.cut s.data.toList (⟨#[64]⟩ : ByteArray).data.toList).1.toArray⟩ : ByteArray) = fstP s ∧ (⟨(Lib.cut s.data.toList (⟨#[64]⟩ : ByteArray).data.toList).2.1.toArray⟩ : ByteArray) = sndP s := by
  have hd : (⟨#[64]⟩ : ByteArray).data.toList = [64] := rfl
  rw [hd, Lib.cut, Lib.index_one, fstP, sndP]
  split
  · next h =>
    obtain ⟨o, ho⟩ : ∃ o : Nat, Lib.indexByte s.data.toList 64 = o := ⟨(Lib.indexByte s.data.toList 64).toNat, by omega⟩
    obtain ⟨h1, h2⟩ := Lib.indexByte_some ho
    rw [ho]
    have hl : o < s.data.toList.length := (List.getElem?_eq_some_iff.1 h1).1
    have hs : s.data.toList = s.data.toList.take o ++ 64 :: s.data.toList.drop (o + 1) := by
      have e := List.take_append_drop o s.data.toList
      rw [List.drop_eq_getElem_cons hl] at e
      rw [List.getElem?_eq_getElem hl] at h1
      injection h1 with h1
      rw [h1] at e
      exact e.symm
    have hn : (64 : UInt8) ∉ s.data.toList.take o := by
      intro hm
      obtain ⟨k, hk, e⟩ := List.mem_iff_getElem.1 hm
      rw [List.length_take] at hk
      refine h2 k (by omega) ?_
      rw [List.getElem?_eq_getElem (by omega)]
      rw [List.getElem_take] at e
      rw [e]
    obtain ⟨t1, t2⟩ := take_app (c := 64) (s.data.toList.take o) (s.data.toList.drop (o + 1)) hn
    rw [← hs] at t1 t2
    rw [t1, t2]
    exact ⟨rfl, rfl⟩
  · next h =>
    have hm : (64 : UInt8) ∉ s.data.toList := by
      intro hm
      obtain ⟨k, hk, e⟩ := List.mem_iff_getElem.1 hm
      have hi : Lib.indexByte s.data.toList 64 = -1 := by
        rcases Lib.indexB_cases s ⟨#[64]⟩ with h9 | ⟨i, h9, _⟩
        · rw [← Lib.index_one]; exact h9
        · exfalso
          have : Lib.indexByte s.data.toList 64 = (i : Int) := by rw [← Lib.index_one]; exact h9
          omega
      exact Lib.indexByte_none hi k (by rw [List.getElem?_eq_getElem hk, e])
    obtain ⟨t1, t2⟩ := take_none s.data.toList hm
    rw [t1, t2]
    exact ⟨rfl, rfl⟩
end Go.Proofs.YteeonojcihcfiaaDoor
