/- strings.Join at a blank. -/
import Derived.Test.YteeonojcihcfiaaDoorRows
import Derived.Test.YteeonojcihcfiaaDoorK9GA
import Derived.WalkKit
import Derived.ProofKit
import Derived.OpenShut
import Derived.BigQuiet
import Derived.Outline
import Derived.WalkSpells
import Derived.WalkLawsBesides
import Derived.Deep.DeepCutAuto
import Derived.Test.YteeonojcihcfiaaDoorK9DNW
import Derived.Test.YteeonojcihcfiaaDoorKJ
namespace Go.Proofs.YteeonojcihcfiaaDoor
open Go.ChangeShapes Go.WideShapes Go.ChangeAt Go.RowKit Go.Shelf

theorem extraJ : Builder.Extra Tryd.prog Tryd.lays156_ren where
  sizeBuilder := by kernel_rfl
  liesBuilder := by kernel_rfl
  t5 := Tryd.underlying5
  a5 := Tryd.isAgg5
  z5 := Tryd.sizeOf5
  v5 := Tryd.zeroValue5
  infoByte := by kernel_rfl
  cellsByte := by kernel_rfl
  sizeByte := by kernel_rfl
  neB5 := by decide
theorem join_eq (c : UInt8) : ∀ L : List (List UInt8), Lib.join L [c] = joinL c L
  | [] => rfl
  | [a] => by rw [Lib.join_one, joinL]
  | a :: b :: r => by
    have ih := join_eq c (b :: r)
    rw [joinL, ← ih]
    simp [Lib.join, List.intercalate, List.intersperse]
theorem join_any (L : List ByteArray) (hL : ∀ s ∈ L, s.size ≤ 300) (hl : L.length ≤ 100) (bk o c : Nat) (hc : L.length ≤ c) (hne : L ≠ []) (w : World) (hr : Reads w w.heap.size 1 (some ⟨bk, o, none⟩) L.length (txC L)) :
    Calls Tryd.prog 24 #[.slice (some ⟨bk, o, none⟩) L.length c, .string ⟨#[32]⟩] w fun e w' => e = .returned (.string (joinB L)) ∧ Below w.heap.size w w' := by
  have hs := joinB_size L hL
  have hpos : 0 < L.length := List.length_pos_iff.2 hne
  obtain ⟨ab, ao, hA, hlt, hcell⟩ := hr.2 hpos
  injection hA with hA
  injection hA with h1 h2 _
  subst h1 h2
  have hj : Lib.join (L.map (·.data.toList)) (⟨#[32]⟩ : ByteArray).data.toList = joinL 32 (L.map fun p => p.data.toList) := join_eq 32 _
  have := Any.strings_Join Tryd.lays156 extraJ bk o c L ⟨#[32]⟩ w (fun j x hx => by
    have hjl : j < L.length := (List.getElem?_eq_some_iff.1 hx).1
    have h := hcell j (.string x) (by rw [txC_at L j hjl]; rw [List.getElem?_eq_getElem hjl] at hx; injection hx with hx; rw [hx])
    simpa using h) hlt (by omega) hc (by rw [hj]; rw [Lib.size_eq] at hs; exact Nat.le_trans hs (by omega))
  rw [hj] at this
  exact this
end Go.Proofs.YteeonojcihcfiaaDoor
