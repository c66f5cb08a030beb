/- PlacesUsed of both. -/
import Derived.Test.YtnbpbidflacoiaaDoorRows
import Derived.Test.YtnbpbidflacoiaaDoorL0
import Derived.Test.YtnbpbidflacoiaaDoorM0
import Derived.WalkKit
import Derived.ProofKit
import Derived.OpenShut
import Derived.BigQuiet
import Derived.Outline
import Derived.WalkSpells
import Derived.WalkLawsBesides
import Derived.Deep.DeepCutAuto
import Derived.Test.YtnbpbidflacoiaaDoorQ7
import Derived.Lib.Hide
namespace Go.Proofs.YtnbpbidflacoiaaDoor
open Go.ChangeShapes Go.WideShapes Go.ChangeAt Go.RowKit Go.Sort

def placesD (d : Dsc) : List ByteArray := if d.kind = 3 then [d.a, d.b] else [d.a]
def placesR (d : Dsc) : List ByteArray := if isD d = true then placesD d else []
def placesC (d : Dsc) : Int := if isD d = true then 0 else 1
theorem new_own2 {w : World} {base : Nat} (hb : base ≤ w.heap.size) (a b : ByteArray) : (w.alloc (.cells #[.string a, .string b] 9)).ownsRow base 9 1 (.slice (some ⟨w.heap.size, 0, none⟩) 2 2) 2 (txC [a, b]) :=
  own_blk (Blk.new w 9 (txC [a, b]).toArray) rfl hb (by decide)
theorem new_own1 {w : World} {base : Nat} (hb : base ≤ w.heap.size) (a : ByteArray) : (w.alloc (.cells #[.string a] 9)).ownsRow base 9 1 (.slice (some ⟨w.heap.size, 0, none⟩) 1 1) 1 (txC [a]) :=
  own_blk (Blk.new w 9 (txC [a]).toArray) rfl hb (by decide)
theorem new_own2' (w : World) (o : Obj) (a b : ByteArray) : ((w.alloc o).alloc (.cells #[.string a, .string b] 9)).ownsRow w.heap.size 9 1 (.slice (some ⟨w.heap.size + 1, 0, none⟩) 2 2) 2 (txC [a, b]) := by
  have := new_own2 (w := w.alloc o) (base := w.heap.size) (by simp) a b
  rw [show (w.alloc o).heap.size = w.heap.size + 1 by simp] at this
  exact this
theorem new_own1' (w : World) (o : Obj) (a : ByteArray) : ((w.alloc o).alloc (.cells #[.string a] 9)).ownsRow w.heap.size 9 1 (.slice (some ⟨w.heap.size + 1, 0, none⟩) 1 1) 1 (txC [a]) := by
  have := new_own1 (w := w.alloc o) (base := w.heap.size) (by simp) a
  rw [show (w.alloc o).heap.size = w.heap.size + 1 by simp] at this
  exact this
set_option maxRecDepth 100000 in
theorem places_any (d : Dsc) (w : World) :
    Calls Tryd.prog 48 #[d.val] w fun e w' => ∃ v, e = .returned v ∧ w'.ownsRow w.heap.size 9 1 v (placesD d).length (txC (placesD d)) ∧ Below w.heap.size w w' := by
  obtain ⟨kind, count, unit, dir, a, b⟩ := d
  unfold Dsc.val placesD
  dsimp only
  by_cases hk : kind = 3
  · rw [if_pos hk]
    subst hk
    go_enter Tryd.func48, Tryd.ntmps48
    go_wp2_with fail
    go_ret
    refine ⟨_, rfl, new_own2' _ _ _ _, by (repeat (first | exact Below.refl _ _ | assumption | refine Below.drew ?_ | refine below_drewN' ?_ _ | refine Below.alloc ?_ (by (try simp); (try omega)) _ | refine Below.setCell ?_ (by (try simp); (try omega)) _))⟩
  · rw [if_neg hk]
    have q : (kind == 3) = false := by simpa using hk
    clear hk
    go_enter Tryd.func48, Tryd.ntmps48
    go_wp2_with fail
    go_ret
    refine ⟨_, rfl, new_own1' _ _ _, by (repeat (first | exact Below.refl _ _ | assumption | refine Below.drew ?_ | refine below_drewN' ?_ _ | refine Below.alloc ?_ (by (try simp); (try omega)) _ | refine Below.setCell ?_ (by (try simp); (try omega)) _))⟩
set_option maxRecDepth 100000 in
set_option maxHeartbeats 1000000 in
theorem specPl_any (d : Dsc) (hd : d.Ok) (w : World) :
    Calls Tryd.prog 22 #[d.val] w fun e w' => ∃ v, e = .returned (.tuple #[v, .int .i64 (placesC d)]) ∧ w'.ownsRow w.heap.size 9 1 v (placesR d).length (txC (placesR d)) ∧ Below w.heap.size w w' := by
  have HS := Lib.hid (specIsD_any d hd)
  have HR := Lib.hid (show placesR d = if isD d = true then (if d.kind = 3 then [d.a, d.b] else [d.a]) else [] from rfl)
  have HC := Lib.hid (show placesC d = if isD d = true then 0 else 1 from rfl)
  generalize placesR d = L at HR ⊢
  generalize placesC d = c at HC ⊢
  generalize isD d = i at HS HR HC
  obtain ⟨kind, count, unit, dir, a, b⟩ := d
  unfold Dsc.val at HS ⊢
  dsimp only at HS HR HC ⊢
  have KN := Lib.hid (dsc_new w 25 #[.int .i64 kind, .int .i64 count, .string unit, .int .i64 dir, .string a, .string b])
  cases i
  · go_enter Tryd.func22, Tryd.ntmps22
    go_wp2_with fail
    generalize hW : w.alloc (.cells #[.int .i64 kind, .int .i64 count, .string unit, .int .i64 dir, .string a, .string b] 25) = W
    obtain ⟨bk, bw⟩ := KN.out W hW.symm
    clear hW
    refine (HS.out W).mono ?_; rintro e w1 ⟨rfl, b1⟩
    go_wp2_with fail
    go_ret2
    exact ⟨_, by rw [HC.out]; rfl, by rw [HR.out]; exact World.ownsRow_nil _ _ _ _, bw.trans (b1.mono bw.size)⟩
  · by_cases hk : kind = 3
    · have hk2 : (kind == 3) = true := by simpa using hk
      rw [if_pos rfl, if_pos hk] at HR
      clear hk
      go_enter Tryd.func22, Tryd.ntmps22
      go_wp2_with fail
      generalize hW : w.alloc (.cells #[.int .i64 kind, .int .i64 count, .string unit, .int .i64 dir, .string a, .string b] 25) = W
      obtain ⟨bk, bw⟩ := KN.out W hW.symm
      clear hW
      refine (HS.out W).mono ?_; rintro e w1 ⟨rfl, b1⟩
      obtain ⟨k0, k1, k2, k3, k4, k5⟩ := dsc_cells (bk.below b1 bk.lt)
      have B1 := Lib.hid (bw.trans (b1.mono bw.size)); clear b1 bw bk
      go_wp2_with fail
      go_ret2
      exact ⟨_, by rw [HC.out]; rfl, by rw [HR.out]; exact new_own2 B1.out.size a b, B1.out.alloc B1.out.size _⟩
    · have hk2 : (kind == 3) = false := by simpa using hk
      rw [if_pos rfl, if_neg hk] at HR
      clear hk
      go_enter Tryd.func22, Tryd.ntmps22
      go_wp2_with fail
      generalize hW : w.alloc (.cells #[.int .i64 kind, .int .i64 count, .string unit, .int .i64 dir, .string a, .string b] 25) = W
      obtain ⟨bk, bw⟩ := KN.out W hW.symm
      clear hW
      refine (HS.out W).mono ?_; rintro e w1 ⟨rfl, b1⟩
      obtain ⟨k0, k1, k2, k3, k4, k5⟩ := dsc_cells (bk.below b1 bk.lt)
      have B1 := Lib.hid (bw.trans (b1.mono bw.size)); clear b1 bw bk
      go_wp2_with fail
      go_ret2
      exact ⟨_, by rw [HC.out]; rfl, by rw [HR.out]; exact new_own1 B1.out.size a, B1.out.alloc B1.out.size _⟩
set_option maxRecDepth 100000 in
set_option maxHeartbeats 1000000 in
theorem implPl_any (d : Dsc) (hd : d.Ok) (w : World) (hdir : Dirs w) :
    Calls Tryd.prog 21 #[d.val] w fun e w' => ∃ v, e = .returned (.tuple #[v, .int .i64 (placesC d)]) ∧ w'.ownsRow w.heap.size 9 1 v (placesR d).length (txC (placesR d)) ∧ Below w.heap.size w w' := by
  have HS := Lib.hid (fun W (h : Below w.heap.size w W) => implIsD_any d hd W (hdir.below h))
  have HP := Lib.hid (places_any d)
  have HR := Lib.hid (show placesR d = if isD d = true then placesD d else [] from rfl)
  have HC := Lib.hid (show placesC d = if isD d = true then 0 else 1 from rfl)
  generalize placesR d = L at HR ⊢
  generalize placesC d = c at HC ⊢
  generalize placesD d = M at HR HP
  generalize isD d = i at HS HR HC
  obtain ⟨kind, count, unit, dir, a, b⟩ := d
  unfold Dsc.val at HS HP ⊢
  dsimp only at HS HP ⊢
  have KN := Lib.hid (dsc_new w 25 #[.int .i64 kind, .int .i64 count, .string unit, .int .i64 dir, .string a, .string b])
  cases i
  all_goals
    go_enter Tryd.func21, Tryd.ntmps21
    go_wp2_with fail
    generalize hW : w.alloc (.cells #[.int .i64 kind, .int .i64 count, .string unit, .int .i64 dir, .string a, .string b] 25) = W
    obtain ⟨bk, bw⟩ := KN.out W hW.symm
    clear hW
    refine (HS.out W bw).mono ?_; rintro e w1 ⟨rfl, b1⟩
    obtain ⟨k0, k1, k2, k3, k4, k5⟩ := dsc_cells (bk.below b1 bk.lt)
    have B1 := Lib.hid (bw.trans (b1.mono bw.size)); clear b1 bw bk
    go_wp2_with fail
  · go_ret2
    exact ⟨_, by rw [HC.out]; rfl, by rw [HR.out]; exact World.ownsRow_nil _ _ _ _, B1.out⟩
  · refine (HP.out _).mono ?_; rintro e w2 ⟨v, rfl, own, b2⟩
    go_wp2_with fail
    go_ret2
    exact ⟨_, by rw [HC.out]; rfl, by rw [HR.out]; exact own_mono own B1.out.size, B1.out.trans (b2.mono B1.out.size)⟩
end Go.Proofs.YtnbpbidflacoiaaDoor
