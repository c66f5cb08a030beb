/- Telling and Denying of both. -/
import Derived.Test.YtihhpmhigmegjaaGreatDoorRows
import Derived.Test.YtihhpmhigmegjaaGreatDoorL0
import Derived.Test.YtihhpmhigmegjaaGreatDoorM0
import Derived.WalkKit
import Derived.ProofKit
import Derived.OpenShut
import Derived.BigQuiet
import Derived.Outline
import Derived.WalkSpells
import Derived.WalkLawsBesides
import Derived.Deep.DeepCutAuto
import Derived.Test.YtihhpmhigmegjaaGreatDoorO6
namespace Go.Proofs.YtihhpmhigmegjaaGreatDoor
open Go.ChangeShapes Go.WideShapes Go.ChangeAt Go.RowKit Go.Sort

def rowF (xs : List Clm) (f : Fct) (p : Clm → Bool) : List Int := if codeF xs f = 0 then whichC xs p else []
theorem rowF_len (xs : List Clm) (f : Fct) (p : Clm → Bool) : (rowF xs f p).length ≤ xs.length := by
  unfold rowF
  split
  · exact wC_len xs p _
  · exact Nat.zero_le _
theorem codeF_01 (xs : List Clm) (f : Fct) : codeF xs f = 0 ∨ codeF xs f = 1 := by unfold codeF; split <;> simp
theorem codeF_len {xs : List Clm} {f : Fct} (h : codeF xs f = 0) : (∀ c ∈ xs, clmB c = true) ∧ xs.length ≤ 12 ∧ fctB f = true := by
  unfold codeF at h
  split at h
  · rename_i h1
    rw [Bool.and_eq_true] at h1
    obtain ⟨h2, h3⟩ := h1
    unfold areC at h2
    rw [Bool.and_eq_true, List.all_eq_true, decide_eq_true_eq] at h2
    exact ⟨h2.1, by omega, h3⟩
  · cases h
set_option maxRecDepth 100000 in
theorem specTelling_any (xs : List Clm) (f : Fct) (hs : ∀ b ∈ xs, b.src.size ≤ 1048576 ∧ b.place.size ≤ 1048576 ∧ b.val_.size ≤ 1048576) (hf : f.place.size ≤ 1048576 ∧ f.val_.size ≤ 1048576) (A : Option Addr) (c : Nat) (w : World) (h : HasClm w xs A) :
    Calls Tryz.prog 13 #[.slice A xs.length c, f.val] w fun e w' => ∃ v, e = .returned (.tuple #[v, .int .i64 (codeF xs f)]) ∧ w'.ownsRow w.heap.size 2 1 v (rowF xs f (fun c => telB c f)).length (inC (rowF xs f (fun c => telB c f))) ∧ Below w.heap.size w w' := by
  have HC := Lib.hid (fun W (hB : Below w.heap.size w W) => specCode_any xs f hs hf A c W (h.below hB))
  have HL := Lib.hid (fun (hm : xs.length ≤ 1048576) W (hB : Below w.heap.size w W) => specTelL_any xs f hm A c W (h.below hB)); clear h
  have KN := Lib.hid (blks_one w 26 #[.int .i64 f.kind, .string f.place, .string f.val_, .int .i64 f.year])
  have HR := Lib.hid (show rowF xs f (fun c => telB c f) = if codeF xs f = 0 then whichC xs (fun c => telB c f) else [] from rfl)
  have HM := Lib.hid (fun h : codeF xs f = 0 => (codeF_len h).2.1)
  have h01 := codeF_01 xs f
  unfold Fct.val at HC HL ⊢
  generalize rowF xs f (fun c => telB c f) = L at HR ⊢
  generalize codeF xs f = code at *
  go_enter Tryz.func13, Tryz.ntmps13
  go_upto_region 1 with (fail)
  generalize hW : w.alloc (.cells #[.int .i64 f.kind, .string f.place, .string f.val_, .int .i64 f.year] 26) = W
  obtain ⟨bk, bw, _⟩ := KN.out W hW.symm
  clear hW
  have KB := Lib.hid bk; have B0 := Lib.hid bw
  obtain ⟨x0, x1, x2, x3⟩ := cells_4 bk
  clear bk bw
  go_wp2_with fail
  refine (HC.out W B0.out).mono ?_; rintro e w1 ⟨rfl, b1⟩
  have B1 := Lib.hid (B0.out.trans (b1.mono B0.out.size))
  obtain ⟨y0, y1, y2, y3⟩ := cells_4 (KB.out.below b1 KB.out.lt)
  clear b1 x0 x1 x2 x3
  rcases h01 with rfl | rfl
  · rw [if_pos rfl] at HR
    have hm := HM.out rfl
    go_wp2_with fail
    refine (HL.out (by omega) w1 B1.out).mono ?_; rintro e w2 ⟨v, rfl, own2, b2⟩
    go_wp2_with fail
    go_ret2
    exact ⟨v, rfl, by rw [HR.out]; exact own_mono own2 B1.out.size, B1.out.trans (b2.mono B1.out.size)⟩
  · rw [if_neg (by omega)] at HR
    go_wp2_with fail
    go_ret2
    exact ⟨_, rfl, by rw [HR.out]; exact World.ownsRow_nil _ _ _ _, B1.out⟩
set_option maxRecDepth 100000 in
theorem specDenying_any (xs : List Clm) (f : Fct) (hs : ∀ b ∈ xs, b.src.size ≤ 1048576 ∧ b.place.size ≤ 1048576 ∧ b.val_.size ≤ 1048576) (hf : f.place.size ≤ 1048576 ∧ f.val_.size ≤ 1048576) (A : Option Addr) (c : Nat) (w : World) (h : HasClm w xs A) :
    Calls Tryz.prog 15 #[.slice A xs.length c, f.val] w fun e w' => ∃ v, e = .returned (.tuple #[v, .int .i64 (codeF xs f)]) ∧ w'.ownsRow w.heap.size 2 1 v (rowF xs f (denB f)).length (inC (rowF xs f (denB f))) ∧ Below w.heap.size w w' := by
  have HC := Lib.hid (fun W (hB : Below w.heap.size w W) => specCode_any xs f hs hf A c W (h.below hB))
  have HL := Lib.hid (fun (hm : xs.length ≤ 1048576) W (hB : Below w.heap.size w W) => specDenL_any xs f hm A c W (h.below hB)); clear h
  have KN := Lib.hid (blks_one w 26 #[.int .i64 f.kind, .string f.place, .string f.val_, .int .i64 f.year])
  have HR := Lib.hid (show rowF xs f (denB f) = if codeF xs f = 0 then whichC xs (denB f) else [] from rfl)
  have HM := Lib.hid (fun h : codeF xs f = 0 => (codeF_len h).2.1)
  have h01 := codeF_01 xs f
  unfold Fct.val at HC HL ⊢
  generalize rowF xs f (denB f) = L at HR ⊢
  generalize codeF xs f = code at *
  go_enter Tryz.func15, Tryz.ntmps15
  go_upto_region 1 with (fail)
  generalize hW : w.alloc (.cells #[.int .i64 f.kind, .string f.place, .string f.val_, .int .i64 f.year] 26) = W
  obtain ⟨bk, bw, _⟩ := KN.out W hW.symm
  clear hW
  have KB := Lib.hid bk; have B0 := Lib.hid bw
  obtain ⟨x0, x1, x2, x3⟩ := cells_4 bk
  clear bk bw
  go_wp2_with fail
  refine (HC.out W B0.out).mono ?_; rintro e w1 ⟨rfl, b1⟩
  have B1 := Lib.hid (B0.out.trans (b1.mono B0.out.size))
  obtain ⟨y0, y1, y2, y3⟩ := cells_4 (KB.out.below b1 KB.out.lt)
  clear b1 x0 x1 x2 x3
  rcases h01 with rfl | rfl
  · rw [if_pos rfl] at HR
    have hm := HM.out rfl
    go_wp2_with fail
    refine (HL.out (by omega) w1 B1.out).mono ?_; rintro e w2 ⟨v, rfl, own2, b2⟩
    go_wp2_with fail
    go_ret2
    exact ⟨v, rfl, by rw [HR.out]; exact own_mono own2 B1.out.size, B1.out.trans (b2.mono B1.out.size)⟩
  · rw [if_neg (by omega)] at HR
    go_wp2_with fail
    go_ret2
    exact ⟨_, rfl, by rw [HR.out]; exact World.ownsRow_nil _ _ _ _, B1.out⟩
set_option maxRecDepth 100000 in
theorem implTelling_any (xs : List Clm) (f : Fct) (hs : ∀ b ∈ xs, b.src.size ≤ 1048576 ∧ b.place.size ≤ 1048576 ∧ b.val_.size ≤ 1048576) (hf : f.place.size ≤ 1048576 ∧ f.val_.size ≤ 1048576) (A : Option Addr) (c : Nat) (w : World) (h : HasClm w xs A) :
    Calls Tryz.prog 12 #[.slice A xs.length c, f.val] w fun e w' => ∃ v, e = .returned (.tuple #[v, .int .i64 (codeF xs f)]) ∧ w'.ownsRow w.heap.size 2 1 v (rowF xs f (fun c => telB c f)).length (inC (rowF xs f (fun c => telB c f))) ∧ Below w.heap.size w w' := by
  have HC := Lib.hid (fun W (hB : Below w.heap.size w W) => implCode_any xs f hs hf A c W (h.below hB))
  have HL := Lib.hid (fun (hm : xs.length ≤ 1048576) W (hB : Below w.heap.size w W) => implTelL_any xs f hm A c W (h.below hB)); clear h
  have KN := Lib.hid (blks_one w 26 #[.int .i64 f.kind, .string f.place, .string f.val_, .int .i64 f.year])
  have HR := Lib.hid (show rowF xs f (fun c => telB c f) = if codeF xs f = 0 then whichC xs (fun c => telB c f) else [] from rfl)
  have HM := Lib.hid (fun h : codeF xs f = 0 => (codeF_len h).2.1)
  have h01 := codeF_01 xs f
  unfold Fct.val at HC HL ⊢
  generalize rowF xs f (fun c => telB c f) = L at HR ⊢
  generalize codeF xs f = code at *
  go_enter Tryz.func12, Tryz.ntmps12
  go_upto_region 1 with (fail)
  generalize hW : w.alloc (.cells #[.int .i64 f.kind, .string f.place, .string f.val_, .int .i64 f.year] 26) = W
  obtain ⟨bk, bw, _⟩ := KN.out W hW.symm
  clear hW
  have KB := Lib.hid bk; have B0 := Lib.hid bw
  obtain ⟨x0, x1, x2, x3⟩ := cells_4 bk
  clear bk bw
  go_wp2_with fail
  refine (HC.out W B0.out).mono ?_; rintro e w1 ⟨rfl, b1⟩
  have B1 := Lib.hid (B0.out.trans (b1.mono B0.out.size))
  obtain ⟨y0, y1, y2, y3⟩ := cells_4 (KB.out.below b1 KB.out.lt)
  clear b1 x0 x1 x2 x3
  rcases h01 with rfl | rfl
  · rw [if_pos rfl] at HR
    have hm := HM.out rfl
    go_wp2_with fail
    refine (HL.out (by omega) w1 B1.out).mono ?_; rintro e w2 ⟨v, rfl, own2, b2⟩
    go_wp2_with fail
    go_ret2
    exact ⟨v, rfl, by rw [HR.out]; exact own_mono own2 B1.out.size, B1.out.trans (b2.mono B1.out.size)⟩
  · rw [if_neg (by omega)] at HR
    go_wp2_with fail
    go_ret2
    exact ⟨_, rfl, by rw [HR.out]; exact World.ownsRow_nil _ _ _ _, B1.out⟩
set_option maxRecDepth 100000 in
theorem implDenying_any (xs : List Clm) (f : Fct) (hs : ∀ b ∈ xs, b.src.size ≤ 1048576 ∧ b.place.size ≤ 1048576 ∧ b.val_.size ≤ 1048576) (hf : f.place.size ≤ 1048576 ∧ f.val_.size ≤ 1048576) (A : Option Addr) (c : Nat) (w : World) (h : HasClm w xs A) :
    Calls Tryz.prog 14 #[.slice A xs.length c, f.val] w fun e w' => ∃ v, e = .returned (.tuple #[v, .int .i64 (codeF xs f)]) ∧ w'.ownsRow w.heap.size 2 1 v (rowF xs f (denB f)).length (inC (rowF xs f (denB f))) ∧ Below w.heap.size w w' := by
  have HC := Lib.hid (fun W (hB : Below w.heap.size w W) => implCode_any xs f hs hf A c W (h.below hB))
  have HL := Lib.hid (fun (hm : xs.length ≤ 1048576) W (hB : Below w.heap.size w W) => implDenL_any xs f hm A c W (h.below hB)); clear h
  have KN := Lib.hid (blks_one w 26 #[.int .i64 f.kind, .string f.place, .string f.val_, .int .i64 f.year])
  have HR := Lib.hid (show rowF xs f (denB f) = if codeF xs f = 0 then whichC xs (denB f) else [] from rfl)
  have HM := Lib.hid (fun h : codeF xs f = 0 => (codeF_len h).2.1)
  have h01 := codeF_01 xs f
  unfold Fct.val at HC HL ⊢
  generalize rowF xs f (denB f) = L at HR ⊢
  generalize codeF xs f = code at *
  go_enter Tryz.func14, Tryz.ntmps14
  go_upto_region 1 with (fail)
  generalize hW : w.alloc (.cells #[.int .i64 f.kind, .string f.place, .string f.val_, .int .i64 f.year] 26) = W
  obtain ⟨bk, bw, _⟩ := KN.out W hW.symm
  clear hW
  have KB := Lib.hid bk; have B0 := Lib.hid bw
  obtain ⟨x0, x1, x2, x3⟩ := cells_4 bk
  clear bk bw
  go_wp2_with fail
  refine (HC.out W B0.out).mono ?_; rintro e w1 ⟨rfl, b1⟩
  have B1 := Lib.hid (B0.out.trans (b1.mono B0.out.size))
  obtain ⟨y0, y1, y2, y3⟩ := cells_4 (KB.out.below b1 KB.out.lt)
  clear b1 x0 x1 x2 x3
  rcases h01 with rfl | rfl
  · rw [if_pos rfl] at HR
    have hm := HM.out rfl
    go_wp2_with fail
    refine (HL.out (by omega) w1 B1.out).mono ?_; rintro e w2 ⟨v, rfl, own2, b2⟩
    go_wp2_with fail
    go_ret2
    exact ⟨v, rfl, by rw [HR.out]; exact own_mono own2 B1.out.size, B1.out.trans (b2.mono B1.out.size)⟩
  · rw [if_neg (by omega)] at HR
    go_wp2_with fail
    go_ret2
    exact ⟨_, rfl, by rw [HR.out]; exact World.ownsRow_nil _ _ _ _, B1.out⟩
end Go.Proofs.YtihhpmhigmegjaaGreatDoor
