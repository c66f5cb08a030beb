/- The law of AreSites returns true for all sites: the walk of the law. -/
import Derived.Test.YtphkfnhmpngjpaaDoorRows
import Derived.Test.YtphkfnhmpngjpaaDoorL0
import Derived.Test.YtphkfnhmpngjpaaDoorM0
import Derived.WalkKit
import Derived.ProofKit
import Derived.OpenShut
import Derived.BigQuiet
import Derived.Outline
import Derived.WalkSpells
import Derived.WalkLawsBesides
import Derived.Deep.DeepCutAuto
import Derived.Test.YtphkfnhmpngjpaaDoorR3
import Derived.Lib.Hide
namespace Go.Proofs.YtphkfnhmpngjpaaDoor
open Go.ChangeShapes Go.WideShapes Go.ChangeAt Go.RowKit
theorem blk_rd {w : World} {g : Nat} {t : TypeId} {size n : Nat} {L : List Value} (h : Blk w g t L.toArray) (hl : L.length = n * size) : Reads w w.heap.size size (some ⟨g, 0, none⟩) n L :=
  ⟨hl, fun _ => ⟨g, 0, rfl, h.lt, fun j u hu => by rw [Nat.zero_add, h.cell]; simpa using hu⟩⟩
theorem specAreS_has (xs : List Sit) (A : Option Addr) (c : Nat) (w : World) (h : HasSit w xs A) : Calls Tryd.prog 20 #[.slice A xs.length c] w fun e w' => e = .returned (.bool (areS xs)) ∧ Below w.heap.size w w' := specAreS_any xs A c w h.1 h.2.1 h.2.2
theorem implAreS_has (xs : List Sit) (A : Option Addr) (c : Nat) (w : World) (h : HasSit w xs A) (hdir : Dirs w) : Calls Tryd.prog 22 #[.slice A xs.length c] w fun e w' => e = .returned (.bool (areS xs)) ∧ Below w.heap.size w w' := implAreS_any xs A c w h.1 h.2.1 h.2.2 hdir
set_option maxRecDepth 100000 in
set_option maxHeartbeats 1000000 in
theorem lawAreS_any (xs : List Sit)  (A : Option Addr) (c : Nat) (w : World) (h : HasSit w xs A) (hdir : Dirs w) :
    Calls Tryd.prog 4 #[.slice A xs.length c] w fun e w' => e = .returned (.bool true) ∧ Below w.heap.size w w' := by
  obtain ⟨va, hres⟩ : ∃ va, Value.bool (areS xs) = .bool va := ⟨_, rfl⟩
  have H := Lib.hid (fun W (hb : Below w.heap.size w W) => h.below hb)
  have HZ := Lib.hid (szSitS_any xs A c w h.1 h.2.1 h.2.2)
  have hm' := h.2.1
  have S : ∀ A c w, HasSit w xs A → Calls Tryd.prog 20 #[.slice A xs.length c] w fun e w' => e = .returned (.bool va) ∧ Below w.heap.size w w' := fun A c w hr => by rw [← hres]; exact specAreS_has xs A c w hr
  have I : ∀ (a : Addr) c W, Below w.heap.size w W → HasSit W xs (some a) → Calls Tryd.prog 22 #[.slice (some a) xs.length c] W fun e w' => e = .returned (.bool va) ∧ Below W.heap.size W w' := fun a c W hb hr => by rw [← hres]; exact implAreS_has xs (some a) c W hr (hdir.below hb)
  have HS := Lib.hid S; have HI := Lib.hid I; clear S I hres h
  by_cases hz : szSi xs < 0
  · generalize szSi xs = z at HZ hz
    go_enter Tryd.func4, Tryd.ntmps4
    go_wp2_with fail
    refine HZ.out.mono ?_; rintro e w1 ⟨rfl, b1⟩
    go_wp2_with fail
    go_ret
    exact ⟨rfl, b1⟩
  · have hsm := (szSi_pos (xs := xs) (by omega)).1
    generalize szSi xs = z at HZ hz
    go_enter Tryd.func4, Tryd.ntmps4
    go_wp2_with fail
    refine HZ.out.mono ?_; rintro e w0 ⟨rfl, b0⟩
    have B0 := Lib.hid b0; clear b0
    have HX := Lib.hid (H.out w0 B0.out)
    have HN := Lib.hid HX.out.2.2
    go_wp2_with fail
    refine (toSitS_any xs A c w0 HX.out.1 hsm).mono ?_; rintro e w1 ⟨rfl, h1, b1⟩
    have R1 := Lib.hid (show HasSit w1 xs _ from ⟨blk_rd h1 (siC_len xs), hm', HN.out⟩); have B1 := Lib.hid (B0.out.trans (b1.mono B0.out.size)); clear h1 b1
    go_wp2_with fail
    refine (HS.out _ _ w1 R1.out).mono ?_; rintro e w2 ⟨rfl, b2⟩
    have B2 := Lib.hid (B1.out.trans (b2.mono B1.out.size)); clear b2
    go_wp2_with fail
    refine (toSitS_any xs A c w2 (H.out w2 B2.out).1 hsm).mono ?_; rintro e w3 ⟨rfl, h3, b3⟩
    have R3 := Lib.hid (show HasSit w3 xs _ from ⟨blk_rd h3 (siC_len xs), hm', HN.out⟩); have B3 := Lib.hid (B2.out.trans (b3.mono B2.out.size)); clear h3 b3
    go_wp2_with fail
    refine (HI.out _ _ w3 B3.out R3.out).mono ?_; rintro e w4 ⟨rfl, b4⟩
    have R4 := Lib.hid (R3.out.below b4); have B4 := Lib.hid (B3.out.trans (b4.mono B3.out.size)); clear b4
    go_wp2_with fail
    refine (toSitS_any xs A c w4 (H.out w4 B4.out).1 hsm).mono ?_; rintro e w5 ⟨rfl, h5, b5⟩
    have R5 := Lib.hid (blk_rd h5 (siC_len xs)); have R5' := Lib.hid (R4.out.below b5).1; have B5 := Lib.hid (B4.out.trans (b5.mono B4.out.size)); clear h5 b5
    go_wp2_with fail
    refine (eqSitS_any xs xs _ _ _ _ w5 R5'.out R5.out hm').mono ?_; rw [decide_eq_true rfl]; rintro e w6 ⟨rfl, b6⟩
    go_wp2_with fail
    go_ret
    exact ⟨rfl, B5.out.trans (b6.mono B5.out.size)⟩
end Go.Proofs.YtphkfnhmpngjpaaDoor
