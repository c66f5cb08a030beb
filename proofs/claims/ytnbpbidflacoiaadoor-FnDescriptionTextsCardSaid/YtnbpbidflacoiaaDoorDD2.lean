/- ReadDescription of the program. -/
import Derived.Test.YtnbpbidflacoiaaDoorRows
import Derived.Test.YtnbpbidflacoiaaDoorL0
import Derived.Test.YtnbpbidflacoiaaDoorM0
import Derived.WalkKit
import Derived.ProofKit
import Derived.OpenShut
import Derived.BigQuiet
import Derived.Outline
import Derived.WalkSpells
import Derived.WalkLawsBesides
import Derived.Deep.DeepCutAuto
import Derived.Test.YtnbpbidflacoiaaDoorDD1
import Derived.Test.YtnbpbidflacoiaaDoorDN9
import Derived.Test.YtnbpbidflacoiaaDoorDN7
import Derived.Test.YtnbpbidflacoiaaDoorG1
import Derived.Test.YtnbpbidflacoiaaDoorG2
import Derived.Test.YtnbpbidflacoiaaDoorI5
import Derived.Test.YtnbpbidflacoiaaDoorQ5
namespace Go.Proofs.YtnbpbidflacoiaaDoor
open Go.ChangeShapes Go.WideShapes Go.ChangeAt Go.RowKit Go.Sort

theorem read_ok {rd : ByteArray → Int} {k0 : Int} {ws : List ByteArray} (h : ∀ p ∈ ws, p.size ≤ 1048576) : (readP rd k0 ws).Ok := by
  have e0 : (⟨#[]⟩ : ByteArray).size ≤ 9223372036854775807 := by decide
  unfold readP
  split
  · next x a =>
    have ha := h a (by simp)
    split
    · exact ⟨e0, by dsimp only; omega, e0⟩
    · split
      · exact ⟨e0, by dsimp only; omega, e0⟩
      · exact ⟨e0, e0, e0⟩
  · next x a y b =>
    have ha := h a (by simp)
    have hb := h b (by simp)
    split
    · exact ⟨e0, by dsimp only; omega, by dsimp only; omega⟩
    · exact ⟨e0, e0, e0⟩
  · next n u r o a =>
    have ha := h a (by simp)
    have hu := h u (by simp)
    exact ⟨by dsimp only; omega, by dsimp only; omega, e0⟩
  · exact ⟨e0, e0, e0⟩
theorem own_of_blk {w : World} {g : Nat} {t : TypeId} {size n base : Nat} {L : List Value} (h : Blk w g t L.toArray) (hl : L.length = n * size) (hb : base ≤ g) (hn : n ≤ maxLen) : w.ownsRow base t size (.slice (some ⟨g, 0, none⟩) n n) n L :=
  ⟨hl, .inr ⟨g, n, L.toArray, rfl, hb, h, Nat.le_refl _, hn, by simpa using hl, by simp [← hl]⟩⟩
theorem splitw_any (s : ByteArray) (hs : s.size ≤ 1073741824) (w : World) :
    Calls Tryd.prog 69 #[.string s, .string ⟨#[32]⟩] w fun e w' => ∃ v, e = .returned v ∧ w'.ownsRow w.heap.size 9 1 v (cutB 32 s).length (txC (cutB 32 s)) ∧ Below w.heap.size w w' := by
  refine (split_one Tryd.lays146 infoTx s 32 w (by omega)).mono ?_
  rintro e w' ⟨rfl, rfl⟩
  have hl := cut_len0 s
  exact ⟨_, rfl, own_of_blk (Blk.new _ _ _) (by simp [txC]) (Nat.le_refl _) (by unfold maxLen; omega), (Below.refl _ _).alloc (Nat.le_refl _) _⟩
set_option maxRecDepth 100000 in
set_option maxHeartbeats 4000000 in
theorem implRdD_any (ws : List ByteArray) (hz : ∀ p ∈ ws, p.size ≤ 281474976710656) (A : Option Addr) (c : Nat) (w : World) (hr : Reads w w.heap.size 1 A ws.length (txC ws)) (ht : Tab w) (he : Errs w) (hd : Dirs w) :
    Calls Tryd.prog 68 #[.slice A ws.length c] w fun e w' => e = .returned (readP (fun x => (readV x).1) 0 ws).val ∧ Below w.heap.size w w' := by
  have mixed : Tryd.prog.follows Departure.mixedOrders = true := by kernel_rfl
  generalize hr0 : (readP (fun x => (readV x).1) 0 ws).val = r
  have HV := Lib.hid hr0.symm
  clear hr0
  have HZ := Lib.hid hz; have HR := Lib.hid hr; have HTb := Lib.hid ht; have HEr := Lib.hid he; have HDr := Lib.hid hd
  clear hz hr ht he hd
  have KN0 := Lib.hid (dsc_new w 25 #[.int .i64 0, .int .i64 0, .string ⟨#[]⟩, .int .i64 0, .string ⟨#[]⟩, .string ⟨#[]⟩])
  by_cases l2 : ws.length = 2
  · obtain ⟨x, a, rfl⟩ := len_two l2
    clear l2
    by_cases h1 : x = ⟨#[97, 116]⟩
    · have zx := HZ.out x (by simp)
      have za := HZ.out a (by simp)
      rw [show readP (fun x => (readV x).1) 0 [x, a] = ⟨0, 0, ⟨#[]⟩, 0, a, ⟨#[]⟩⟩ from if_pos h1] at HV
      unfold Dsc.val at HV
      dsimp only at HV
      change Calls Tryd.prog 68 #[.slice A 2 c] w _
      have HR2 := Lib.hid (show Reads w w.heap.size 1 A 2 [.string x, .string a] from HR.out)
      have q1 := str_lit x [97, 116]
      rw [show decide (x = ⟨[97, 116].toArray⟩) = true from decide_eq_true h1] at q1
      go_enter Tryd.func68, Tryd.ntmps68
      go_upto_region 1 with (fail)
      generalize hW2 : w.alloc (.cells #[.int .i64 0, .int .i64 0, .string ⟨#[]⟩, .int .i64 0, .string ⟨#[]⟩, .string ⟨#[]⟩] 25) = W2
      obtain ⟨k2, bw2⟩ := KN0.out W2 hW2.symm
      clear hW2
      have K2 := Lib.hid k2
      have B2 := Lib.hid bw2
      obtain ⟨pb, po, rfl, hpdb, hpc⟩ := ((Reads.below HR2.out bw2).more bw2.size).2 (by omega)
      have p0 := hpc 0 (.string x) rfl
      have p1 := hpc 1 (.string a) rfl
      rw [Nat.add_zero] at p0
      clear hpc
      clear k2 bw2
      obtain ⟨g0, g1, g2, g3, g4, g5, g6, g7, g8, g9, g10, g11, g12, g13, g14, g15, g16, g17⟩ := six_facts K2.out
      go_wp2_with fail
      refine bodyPost_ret (v := r) (by rw [HV.out]; simp [results, Tryd.results68, go_sem, g12, g13, g14, g15, g16, g17]) rfl ⟨rfl, six_below B2.out (Nat.le_refl _) _ _ _ _ _ _⟩
    · by_cases h2 : x = ⟨#[110, 101, 97, 114]⟩
      · have zx := HZ.out x (by simp)
        have za := HZ.out a (by simp)
        rw [show readP (fun x => (readV x).1) 0 [x, a] = ⟨1, 0, ⟨#[]⟩, 0, a, ⟨#[]⟩⟩ from (if_neg h1).trans (if_pos h2)] at HV
        unfold Dsc.val at HV
        dsimp only at HV
        change Calls Tryd.prog 68 #[.slice A 2 c] w _
        have HR2 := Lib.hid (show Reads w w.heap.size 1 A 2 [.string x, .string a] from HR.out)
        have q1 := str_lit x [97, 116]
        rw [show decide (x = ⟨[97, 116].toArray⟩) = false from decide_eq_false h1] at q1
        have q2 := str_lit x [110, 101, 97, 114]
        rw [show decide (x = ⟨[110, 101, 97, 114].toArray⟩) = true from decide_eq_true h2] at q2
        go_enter Tryd.func68, Tryd.ntmps68
        go_upto_region 1 with (fail)
        generalize hW2 : w.alloc (.cells #[.int .i64 0, .int .i64 0, .string ⟨#[]⟩, .int .i64 0, .string ⟨#[]⟩, .string ⟨#[]⟩] 25) = W2
        obtain ⟨k2, bw2⟩ := KN0.out W2 hW2.symm
        clear hW2
        have K2 := Lib.hid k2
        have B2 := Lib.hid bw2
        obtain ⟨pb, po, rfl, hpdb, hpc⟩ := ((Reads.below HR2.out bw2).more bw2.size).2 (by omega)
        have p0 := hpc 0 (.string x) rfl
        have p1 := hpc 1 (.string a) rfl
        rw [Nat.add_zero] at p0
        clear hpc
        clear k2 bw2
        obtain ⟨g0, g1, g2, g3, g4, g5, g6, g7, g8, g9, g10, g11, g12, g13, g14, g15, g16, g17⟩ := six_facts K2.out
        go_wp2_with fail
        refine bodyPost_ret (v := r) (by rw [HV.out]; simp [results, Tryd.results68, go_sem, g12, g13, g14, g15, g16, g17]) rfl ⟨rfl, six_below B2.out (Nat.le_refl _) _ _ _ _ _ _⟩
      · have zx := HZ.out x (by simp)
        have za := HZ.out a (by simp)
        rw [show readP (fun x => (readV x).1) 0 [x, a] = zeroK 0 from (if_neg h1).trans (if_neg h2)] at HV
        unfold Dsc.val zeroK at HV
        dsimp only at HV
        change Calls Tryd.prog 68 #[.slice A 2 c] w _
        have HR2 := Lib.hid (show Reads w w.heap.size 1 A 2 [.string x, .string a] from HR.out)
        have q1 := str_lit x [97, 116]
        rw [show decide (x = ⟨[97, 116].toArray⟩) = false from decide_eq_false h1] at q1
        have q2 := str_lit x [110, 101, 97, 114]
        rw [show decide (x = ⟨[110, 101, 97, 114].toArray⟩) = false from decide_eq_false h2] at q2
        go_enter Tryd.func68, Tryd.ntmps68
        go_upto_region 1 with (fail)
        generalize hW2 : w.alloc (.cells #[.int .i64 0, .int .i64 0, .string ⟨#[]⟩, .int .i64 0, .string ⟨#[]⟩, .string ⟨#[]⟩] 25) = W2
        obtain ⟨k2, bw2⟩ := KN0.out W2 hW2.symm
        clear hW2
        have K2 := Lib.hid k2
        have B2 := Lib.hid bw2
        obtain ⟨pb, po, rfl, hpdb, hpc⟩ := ((Reads.below HR2.out bw2).more bw2.size).2 (by omega)
        have p0 := hpc 0 (.string x) rfl
        have p1 := hpc 1 (.string a) rfl
        rw [Nat.add_zero] at p0
        clear hpc
        clear k2 bw2
        obtain ⟨g0, g1, g2, g3, g4, g5, g6, g7, g8, g9, g10, g11, g12, g13, g14, g15, g16, g17⟩ := six_facts K2.out
        go_wp2_with fail
        refine bodyPost_ret (v := r) (by rw [HV.out]; simp [results, Tryd.results68, go_sem, g12, g13, g14, g15, g16, g17]) rfl ⟨rfl, six_below B2.out (Nat.le_refl _) _ _ _ _ _ _⟩
  by_cases l4 : ws.length = 4
  · obtain ⟨x, a, y, b, rfl⟩ := len_four l4
    clear l2 l4
    by_cases h3 : x = ⟨#[98, 101, 116, 119, 101, 101, 110]⟩
    · have zx := HZ.out x (by simp)
      have za := HZ.out a (by simp)
      have zy := HZ.out y (by simp)
      have zb := HZ.out b (by simp)
      rw [show readP (fun x => (readV x).1) 0 [x, a, y, b] = ⟨3, 0, ⟨#[]⟩, 0, a, b⟩ from if_pos h3] at HV
      unfold Dsc.val at HV
      dsimp only at HV
      change Calls Tryd.prog 68 #[.slice A 4 c] w _
      have HR2 := Lib.hid (show Reads w w.heap.size 1 A 4 [.string x, .string a, .string y, .string b] from HR.out)
      have q3 := str_lit x [98, 101, 116, 119, 101, 101, 110]
      rw [show decide (x = ⟨[98, 101, 116, 119, 101, 101, 110].toArray⟩) = true from decide_eq_true h3] at q3
      go_enter Tryd.func68, Tryd.ntmps68
      go_upto_region 1 with (fail)
      generalize hW2 : w.alloc (.cells #[.int .i64 0, .int .i64 0, .string ⟨#[]⟩, .int .i64 0, .string ⟨#[]⟩, .string ⟨#[]⟩] 25) = W2
      obtain ⟨k2, bw2⟩ := KN0.out W2 hW2.symm
      clear hW2
      have K2 := Lib.hid k2
      have B2 := Lib.hid bw2
      obtain ⟨pb, po, rfl, hpdb, hpc⟩ := ((Reads.below HR2.out bw2).more bw2.size).2 (by omega)
      have p0 := hpc 0 (.string x) rfl
      have p1 := hpc 1 (.string a) rfl
      have p2 := hpc 2 (.string y) rfl
      have p3 := hpc 3 (.string b) rfl
      rw [Nat.add_zero] at p0
      clear hpc
      clear k2 bw2
      go_upto_region 6 with (fail)
      refine' wp_region_slots (OverW W2) KeepW [isV (.slice (some ⟨pb, po, none⟩) 4 c), isV (.pointer (some ⟨pb, po + 1, none⟩)), isV (.string a), isV (.slice (some ⟨pb, po, none⟩) 4 c), isV (.pointer (some ⟨pb, po + 3, none⟩)), isV (.string b), isV (.agg #[.int .i64 3, .int .i64 0, .string ⟨#[]⟩, .int .i64 0, .string a, .string b])] mixed (by kernel_rfl) (by kernel_rfl) (OverW.drew (Below.refl _ _)) ?_ _ _ ?_ ?_ ?_
      · exact AllStable.cons (keep_V _) (AllStable.cons (keep_V _) (AllStable.cons (keep_V _) (AllStable.cons (keep_V _) (AllStable.cons (keep_V _) (AllStable.cons (keep_V _) (AllStable.cons (keep_V _) (AllStable.nil)))))))
      rotate_left 2
      · intro f; simp only [lay, List.setIfInBounds_toArray, List.set_cons_succ, List.set_cons_zero, Nat.reduceAdd]; exact rfl
      · refine AllTo.cons ?_ ?_
        · intro f v hS hT K hK
          simp only [Act.put, List.setIfInBounds_toArray, List.set_cons_succ, List.set_cons_zero] at hK
          go_simp
          exact hK.out _ _ rfl hS (keep_refl _)
        refine AllTo.cons ?_ ?_
        · intro f v hS hT K hK
          have e0 := hT 0 _ rfl rfl
          dsimp only [isV] at e0
          simp only [Act.put, List.setIfInBounds_toArray, List.set_cons_succ, List.set_cons_zero, e0] at hK
          go_simp
          exact hK.out _ _ rfl hS (keep_refl _)
        refine AllTo.cons ?_ ?_
        · intro f v hS hT K hK
          have e1 := hT 1 _ rfl rfl
          dsimp only [isV] at e1
          have hc := (Below.cell hS (p := ⟨pb, po + 1, none⟩) hpdb).trans p1
          simp only [Act.put, List.setIfInBounds_toArray, List.set_cons_succ, List.set_cons_zero, e1] at hK
          go_simp
          exact hK.out _ _ rfl hS (keep_refl _)
        refine AllTo.cons ?_ ?_
        · intro f v hS hT K hK
          simp only [Act.put, List.setIfInBounds_toArray, List.set_cons_succ, List.set_cons_zero] at hK
          go_simp
          exact hK.out _ _ rfl hS (keep_refl _)
        refine AllTo.cons ?_ ?_
        · intro f v hS hT K hK
          have e3 := hT 3 _ rfl rfl
          dsimp only [isV] at e3
          simp only [Act.put, List.setIfInBounds_toArray, List.set_cons_succ, List.set_cons_zero, e3] at hK
          go_simp
          exact hK.out _ _ rfl hS (keep_refl _)
        refine AllTo.cons ?_ ?_
        · intro f v hS hT K hK
          have e4 := hT 4 _ rfl rfl
          dsimp only [isV] at e4
          have hc := (Below.cell hS (p := ⟨pb, po + 3, none⟩) hpdb).trans p3
          simp only [Act.put, List.setIfInBounds_toArray, List.set_cons_succ, List.set_cons_zero, e4] at hK
          go_simp
          exact hK.out _ _ rfl hS (keep_refl _)
        refine AllTo.cons ?_ ?_
        · intro f v hS hT K hK
          have e2 := hT 2 _ rfl rfl
          dsimp only [isV] at e2
          have e5 := hT 5 _ rfl rfl
          dsimp only [isV] at e5
          simp only [Act.put, List.setIfInBounds_toArray, List.set_cons_succ, List.set_cons_zero, e2, e5] at hK
          go_simp
          exact hK.out _ _ rfl hS (keep_refl _)
        exact AllTo.nil
      · intro f v hS hT K hK
        have e := hT 6 _ rfl
        dsimp only [isV] at e
        rw [e]
        clear e hT
        have K3 := Lib.hid (K2.out.below hS K2.out.lt)
        have B3 := Lib.hid (B2.out.trans (hS.mono B2.out.size))
        clear hS p0 p1 K2 B2
        have K2 := Lib.hid K3.out
        have B2 := Lib.hid B3.out
        clear K3 B3
        obtain ⟨g0, g1, g2, g3, g4, g5, g6, g7, g8, g9, g10, g11, g12, g13, g14, g15, g16, g17⟩ := six_facts K2.out
        go_simp
        refine hK.out _ _ ?_
        clear hK K
        go_wp2_with fail
        refine bodyPost_ret (v := r) (by rw [HV.out]; simp [results, Tryd.results68, go_sem, g12, g13, g14, g15, g16, g17]) rfl ⟨rfl, six_below B2.out (Nat.le_refl _) _ _ _ _ _ _⟩
    · have zx := HZ.out x (by simp)
      have za := HZ.out a (by simp)
      have zy := HZ.out y (by simp)
      have zb := HZ.out b (by simp)
      rw [show readP (fun x => (readV x).1) 0 [x, a, y, b] = zeroK 0 from if_neg h3] at HV
      unfold Dsc.val zeroK at HV
      dsimp only at HV
      change Calls Tryd.prog 68 #[.slice A 4 c] w _
      have HR2 := Lib.hid (show Reads w w.heap.size 1 A 4 [.string x, .string a, .string y, .string b] from HR.out)
      have q3 := str_lit x [98, 101, 116, 119, 101, 101, 110]
      rw [show decide (x = ⟨[98, 101, 116, 119, 101, 101, 110].toArray⟩) = false from decide_eq_false h3] at q3
      go_enter Tryd.func68, Tryd.ntmps68
      go_upto_region 1 with (fail)
      generalize hW2 : w.alloc (.cells #[.int .i64 0, .int .i64 0, .string ⟨#[]⟩, .int .i64 0, .string ⟨#[]⟩, .string ⟨#[]⟩] 25) = W2
      obtain ⟨k2, bw2⟩ := KN0.out W2 hW2.symm
      clear hW2
      have K2 := Lib.hid k2
      have B2 := Lib.hid bw2
      obtain ⟨pb, po, rfl, hpdb, hpc⟩ := ((Reads.below HR2.out bw2).more bw2.size).2 (by omega)
      have p0 := hpc 0 (.string x) rfl
      have p1 := hpc 1 (.string a) rfl
      have p2 := hpc 2 (.string y) rfl
      have p3 := hpc 3 (.string b) rfl
      rw [Nat.add_zero] at p0
      clear hpc
      clear k2 bw2
      obtain ⟨g0, g1, g2, g3, g4, g5, g6, g7, g8, g9, g10, g11, g12, g13, g14, g15, g16, g17⟩ := six_facts K2.out
      go_wp2_with fail
      refine bodyPost_ret (v := r) (by rw [HV.out]; simp [results, Tryd.results68, go_sem, g12, g13, g14, g15, g16, g17]) rfl ⟨rfl, six_below B2.out (Nat.le_refl _) _ _ _ _ _ _⟩
  by_cases l5 : ws.length = 5
  · obtain ⟨n, u, d, o, a, rfl⟩ := len_five l5
    clear l2 l4 l5
    have zn := HZ.out n (by simp)
    have zu := HZ.out u (by simp)
    have zd := HZ.out d (by simp)
    have zo := HZ.out o (by simp)
    have za := HZ.out a (by simp)
    have CV := Lib.hid (fun W' => readNum_any n zn W')
    have CX := Lib.hid (fun W' (h : Dirs W') => (indexS_any dirsL d (by decide) (some ⟨0, 0, none⟩) 8 W' h).mono (R' := fun e w' => e = .returned (.int .i64 (ixS d dirsL)) ∧ Below W'.heap.size W' w') (by rintro e w' ⟨rfl, rfl⟩; exact ⟨rfl, Below.refl _ _⟩))
    rw [show readP (fun x => (readV x).1) 0 [n, u, d, o, a] = ⟨2, (readV n).1, u, ixS d dirsL, a, ⟨#[]⟩⟩ from rfl] at HV
    generalize (readV n).1 = nv at CV HV
    generalize (readV n).2 = nb at CV
    generalize ixS d dirsL = ix at CX HV
    unfold Dsc.val at HV
    dsimp only at HV
    change Calls Tryd.prog 68 #[.slice A 5 c] w _
    have HR2 := Lib.hid (show Reads w w.heap.size 1 A 5 [.string n, .string u, .string d, .string o, .string a] from HR.out)
    go_enter Tryd.func68, Tryd.ntmps68
    go_upto_region 1 with (fail)
    generalize hW2 : w.alloc (.cells #[.int .i64 0, .int .i64 0, .string ⟨#[]⟩, .int .i64 0, .string ⟨#[]⟩, .string ⟨#[]⟩] 25) = W2
    obtain ⟨k2, bw2⟩ := KN0.out W2 hW2.symm
    clear hW2
    have K2 := Lib.hid k2
    have B2 := Lib.hid bw2
    obtain ⟨pb, po, rfl, hpdb, hpc⟩ := ((Reads.below HR2.out bw2).more bw2.size).2 (by omega)
    have p0 := hpc 0 (.string n) rfl
    have p1 := hpc 1 (.string u) rfl
    have p2 := hpc 2 (.string d) rfl
    have p3 := hpc 3 (.string o) rfl
    have p4 := hpc 4 (.string a) rfl
    rw [Nat.add_zero] at p0
    clear hpc
    clear k2 bw2
    go_wp2_with fail
    refine (CV.out W2 (HTb.out.below B2.out) (HEr.out.below B2.out)).mono ?_; rintro e w3 ⟨rfl, b3⟩
    have x1 := (Below.cell b3 (p := ⟨pb, po + 1, none⟩) hpdb).trans p1
    have x2 := (Below.cell b3 (p := ⟨pb, po + 2, none⟩) hpdb).trans p2
    have x4 := (Below.cell b3 (p := ⟨pb, po + 4, none⟩) hpdb).trans p4
    have hpd3 : pb < w3.heap.size := Nat.lt_of_lt_of_le hpdb b3.size
    have K3 := Lib.hid (K2.out.below b3 K2.out.lt)
    have B3 := Lib.hid (B2.out.trans (b3.mono B2.out.size))
    have HD3 := Lib.hid (HDr.out.below B3.out)
    clear b3 p0 p1 p2 p3 p4 K2 B2
    have K2 := Lib.hid K3.out
    have B2 := Lib.hid B3.out
    clear K3 B3
    go_upto_region 9 with (fail)
    refine' wp_region_slots (OverW w3) KeepW [isV (.slice (some ⟨0, 0, none⟩) 8 8), isV (.slice (some ⟨pb, po, none⟩) 5 c), isV (.pointer (some ⟨pb, po + 2, none⟩)), isV (.string d), isV (.int .i64 ix)] mixed (by kernel_rfl) (by kernel_rfl) (OverW.drew (Below.refl _ _)) ?_ _ _ ?_ ?_ ?_
    · exact AllStable.cons (keep_V _) (AllStable.cons (keep_V _) (AllStable.cons (keep_V _) (AllStable.cons (keep_V _) (AllStable.cons (keep_V _) (AllStable.nil)))))
    rotate_left 2
    · intro f; simp only [lay, List.setIfInBounds_toArray, List.set_cons_succ, List.set_cons_zero, Nat.reduceAdd]; exact rfl
    · refine AllTo.cons ?_ ?_
      · intro f v hS hT K hK
        simp only [Act.put, List.setIfInBounds_toArray, List.set_cons_succ, List.set_cons_zero] at hK
        go_simp
        exact hK.out _ _ rfl hS (keep_refl _)
      refine AllTo.cons ?_ ?_
      · intro f v hS hT K hK
        simp only [Act.put, List.setIfInBounds_toArray, List.set_cons_succ, List.set_cons_zero] at hK
        go_simp
        exact hK.out _ _ rfl hS (keep_refl _)
      refine AllTo.cons ?_ ?_
      · intro f v hS hT K hK
        have e1 := hT 1 _ rfl rfl
        dsimp only [isV] at e1
        simp only [Act.put, List.setIfInBounds_toArray, List.set_cons_succ, List.set_cons_zero, e1] at hK
        go_simp
        exact hK.out _ _ rfl hS (keep_refl _)
      refine AllTo.cons ?_ ?_
      · intro f v hS hT K hK
        have e2 := hT 2 _ rfl rfl
        dsimp only [isV] at e2
        have hc := (Below.cell hS (p := ⟨pb, po + 2, none⟩) hpd3).trans x2
        simp only [Act.put, List.setIfInBounds_toArray, List.set_cons_succ, List.set_cons_zero, e2] at hK
        go_simp
        exact hK.out _ _ rfl hS (keep_refl _)
      refine AllTo.cons ?_ ?_
      · intro f v hS hT K hK
        have e0 := hT 0 _ rfl rfl
        dsimp only [isV] at e0
        have e3 := hT 3 _ rfl rfl
        dsimp only [isV] at e3
        simp only [Act.put, List.setIfInBounds_toArray, List.set_cons_succ, List.set_cons_zero, e0, e3] at hK
        go_simp
        refine (CX.out v (HD3.out.below hS)).mono ?_
        rintro e w1 ⟨rfl, b1⟩
        exact hK.out _ _ rfl (hS.go b1) b1
      exact AllTo.nil
    · intro f v hS hT K hK
      have e := hT 4 _ rfl
      dsimp only [isV] at e
      rw [e]
      clear e hT
      have y1 := (Below.cell hS (p := ⟨pb, po + 1, none⟩) hpd3).trans x1
      have y4 := (Below.cell hS (p := ⟨pb, po + 4, none⟩) hpd3).trans x4
      have hpd4 : pb < v.heap.size := Nat.lt_of_lt_of_le hpd3 hS.size
      have K3 := Lib.hid (K2.out.below hS K2.out.lt)
      have B3 := Lib.hid (B2.out.trans (hS.mono B2.out.size))
      clear hS x1 x2 x4 hpd3 hpdb K2 B2
      have K2 := Lib.hid K3.out
      have B2 := Lib.hid B3.out
      clear K3 B3
      go_simp
      refine hK.out _ _ ?_
      clear hK K
      go_upto_region 10 with (fail)
      refine' wp_region_slots (OverW v) KeepW [isV (.int .i64 nv), isV (.slice (some ⟨pb, po, none⟩) 5 c), isV (.pointer (some ⟨pb, po + 1, none⟩)), isV (.string u), isV (.int .i64 ix), isV (.slice (some ⟨pb, po, none⟩) 5 c), isV (.pointer (some ⟨pb, po + 4, none⟩)), isV (.string a), isV (.agg #[.int .i64 2, .int .i64 nv, .string u, .int .i64 ix, .string a, .string ⟨#[]⟩])] mixed (by kernel_rfl) (by kernel_rfl) (OverW.drew (Below.refl _ _)) ?_ _ _ ?_ ?_ ?_
      · exact AllStable.cons (keep_V _) (AllStable.cons (keep_V _) (AllStable.cons (keep_V _) (AllStable.cons (keep_V _) (AllStable.cons (keep_V _) (AllStable.cons (keep_V _) (AllStable.cons (keep_V _) (AllStable.cons (keep_V _) (AllStable.cons (keep_V _) (AllStable.nil)))))))))
      rotate_left 2
      · intro f; simp only [lay, List.setIfInBounds_toArray, List.set_cons_succ, List.set_cons_zero, Nat.reduceAdd]; exact rfl
      · refine AllTo.cons ?_ ?_
        · intro f v2 hS hT K hK
          simp only [Act.put, List.setIfInBounds_toArray, List.set_cons_succ, List.set_cons_zero] at hK
          go_simp
          exact hK.out _ _ rfl hS (keep_refl _)
        refine AllTo.cons ?_ ?_
        · intro f v2 hS hT K hK
          simp only [Act.put, List.setIfInBounds_toArray, List.set_cons_succ, List.set_cons_zero] at hK
          go_simp
          exact hK.out _ _ rfl hS (keep_refl _)
        refine AllTo.cons ?_ ?_
        · intro f v2 hS hT K hK
          have e1 := hT 1 _ rfl rfl
          dsimp only [isV] at e1
          simp only [Act.put, List.setIfInBounds_toArray, List.set_cons_succ, List.set_cons_zero, e1] at hK
          go_simp
          exact hK.out _ _ rfl hS (keep_refl _)
        refine AllTo.cons ?_ ?_
        · intro f v2 hS hT K hK
          have e2 := hT 2 _ rfl rfl
          dsimp only [isV] at e2
          have hc := (Below.cell hS (p := ⟨pb, po + 1, none⟩) hpd4).trans y1
          simp only [Act.put, List.setIfInBounds_toArray, List.set_cons_succ, List.set_cons_zero, e2] at hK
          go_simp
          exact hK.out _ _ rfl hS (keep_refl _)
        refine AllTo.cons ?_ ?_
        · intro f v2 hS hT K hK
          simp only [Act.put, List.setIfInBounds_toArray, List.set_cons_succ, List.set_cons_zero] at hK
          go_simp
          exact hK.out _ _ rfl hS (keep_refl _)
        refine AllTo.cons ?_ ?_
        · intro f v2 hS hT K hK
          simp only [Act.put, List.setIfInBounds_toArray, List.set_cons_succ, List.set_cons_zero] at hK
          go_simp
          exact hK.out _ _ rfl hS (keep_refl _)
        refine AllTo.cons ?_ ?_
        · intro f v2 hS hT K hK
          have e5 := hT 5 _ rfl rfl
          dsimp only [isV] at e5
          simp only [Act.put, List.setIfInBounds_toArray, List.set_cons_succ, List.set_cons_zero, e5] at hK
          go_simp
          exact hK.out _ _ rfl hS (keep_refl _)
        refine AllTo.cons ?_ ?_
        · intro f v2 hS hT K hK
          have e6 := hT 6 _ rfl rfl
          dsimp only [isV] at e6
          have hc := (Below.cell hS (p := ⟨pb, po + 4, none⟩) hpd4).trans y4
          simp only [Act.put, List.setIfInBounds_toArray, List.set_cons_succ, List.set_cons_zero, e6] at hK
          go_simp
          exact hK.out _ _ rfl hS (keep_refl _)
        refine AllTo.cons ?_ ?_
        · intro f v2 hS hT K hK
          have e0 := hT 0 _ rfl rfl
          dsimp only [isV] at e0
          have e3 := hT 3 _ rfl rfl
          dsimp only [isV] at e3
          have e4 := hT 4 _ rfl rfl
          dsimp only [isV] at e4
          have e7 := hT 7 _ rfl rfl
          dsimp only [isV] at e7
          simp only [Act.put, List.setIfInBounds_toArray, List.set_cons_succ, List.set_cons_zero, e0, e3, e4, e7] at hK
          go_simp
          exact hK.out _ _ rfl hS (keep_refl _)
        exact AllTo.nil
      · intro f v2 hS hT K hK
        have e := hT 8 _ rfl
        dsimp only [isV] at e
        rw [e]
        clear e hT
        have K3 := Lib.hid (K2.out.below hS K2.out.lt)
        have B3 := Lib.hid (B2.out.trans (hS.mono B2.out.size))
        clear hS y1 y4 K2 B2
        have K2 := Lib.hid K3.out
        have B2 := Lib.hid B3.out
        clear K3 B3
        obtain ⟨g0, g1, g2, g3, g4, g5, g6, g7, g8, g9, g10, g11, g12, g13, g14, g15, g16, g17⟩ := six_facts K2.out
        go_simp
        refine hK.out _ _ ?_
        clear hK K
        go_wp2_with fail
        refine bodyPost_ret (v := r) (by rw [HV.out]; simp [results, Tryd.results68, go_sem, g12, g13, g14, g15, g16, g17]) rfl ⟨rfl, six_below B2.out (Nat.le_refl _) _ _ _ _ _ _⟩
  rw [show readP (fun x => (readV x).1) 0 ws = zeroK 0 from read_other l2 l4 l5] at HV
  unfold Dsc.val zeroK at HV
  dsimp only at HV
  have q2 : ((ws.length : Int) == 2) = false := by rw [beq_eq_false_iff_ne]; omega
  have q4 : ((ws.length : Int) == 4) = false := by rw [beq_eq_false_iff_ne]; omega
  have q5 : ((ws.length : Int) == 5) = false := by rw [beq_eq_false_iff_ne]; omega
  clear l2 l4 l5
  go_enter Tryd.func68, Tryd.ntmps68
  go_upto_region 1 with (fail)
  generalize hW2 : w.alloc (.cells #[.int .i64 0, .int .i64 0, .string ⟨#[]⟩, .int .i64 0, .string ⟨#[]⟩, .string ⟨#[]⟩] 25) = W2
  obtain ⟨k2, bw2⟩ := KN0.out W2 hW2.symm
  clear hW2
  have K2 := Lib.hid k2
  have B2 := Lib.hid bw2
  clear k2 bw2
  obtain ⟨g0, g1, g2, g3, g4, g5, g6, g7, g8, g9, g10, g11, g12, g13, g14, g15, g16, g17⟩ := six_facts K2.out
  go_wp2_with fail
  refine bodyPost_ret (v := r) (by rw [HV.out]; simp [results, Tryd.results68, go_sem, g12, g13, g14, g15, g16, g17]) rfl ⟨rfl, six_below B2.out (Nat.le_refl _) _ _ _ _ _ _⟩
set_option maxRecDepth 100000 in
set_option maxHeartbeats 4000000 in
theorem implRD_any (s : ByteArray) (hs : s.size ≤ 1048576) (w : World) (ht : Tab w) (he : Errs w) (hd : Dirs w) :
    Calls Tryd.prog 37 #[.string s] w fun e w' => e = .returned (.tuple #[(rdP s).1.val, .int .i64 (rdP s).2]) ∧ Below w.heap.size w w' := by
  have HV := Lib.hid (show rdP s = if isD (readP (fun x => (readV x).1) 0 (cutB 32 s)) = true ∧ textD (readP (fun x => (readV x).1) 0 (cutB 32 s)) = s then (readP (fun x => (readV x).1) 0 (cutB 32 s), 0) else (zeroK 0, 6) from rfl)
  generalize rdP s = r at HV ⊢
  have HC := Lib.hid (fun W => splitw_any s (by omega) W)
  have hcz := cut_size 32 s
  generalize cutB 32 s = ws at HV HC hcz
  have HRd := Lib.hid (fun A c W => implRdD_any ws (fun p hp => by have := hcz p hp; omega) A c W)
  have ok := read_ok (rd := fun x => (readV x).1) (k0 := 0) (fun p hp => Nat.le_trans (hcz p hp) hs)
  generalize readP (fun x => (readV x).1) 0 ws = D at HV HRd ok
  have CI := Lib.hid (fun W (h : Below w.heap.size w W) => implIsD_any D ok W (hd.below h))
  have CT := Lib.hid (fun (h : isD D = true) W (hb : Below w.heap.size w W) => implText_any D (isD_tx h) W (ht.below hb) (hd.below hb))
  have HTb := Lib.hid ht; have HEr := Lib.hid he; have HDr := Lib.hid hd
  clear ht he hd ok hcz
  obtain ⟨kind, count, unit, dir, a, b⟩ := D
  generalize isD ⟨kind, count, unit, dir, a, b⟩ = ci at CI CT HV
  generalize textD ⟨kind, count, unit, dir, a, b⟩ = tx at CT HV
  unfold Dsc.val at CI CT HRd
  dsimp only at CI CT HRd
  have KN0 := Lib.hid (dsc_new w 25 #[.int .i64 0, .int .i64 0, .string ⟨#[]⟩, .int .i64 0, .string ⟨#[]⟩, .string ⟨#[]⟩])
  have KN1 := Lib.hid (fun w1 => dsc_new w1 25 #[.int .i64 kind, .int .i64 count, .string unit, .int .i64 dir, .string a, .string b])
  go_enter Tryd.func37, Tryd.ntmps37
  go_wp2_with fail
  generalize hW0 : w.alloc (.cells #[.int .i64 0, .int .i64 0, .string ⟨#[]⟩, .int .i64 0, .string ⟨#[]⟩, .string ⟨#[]⟩] 25) = W0
  obtain ⟨r0, bw0⟩ := KN0.out W0 hW0.symm
  clear hW0
  refine (HC.out W0).mono ?_; rintro e w1 ⟨v, rfl, ow, b1⟩
  obtain ⟨Aw, cw, rfl, _⟩ := own_shape ow
  have OW := Lib.hid ow
  have R1 := Lib.hid (r0.below b1 r0.lt)
  have B1 := Lib.hid (bw0.trans (b1.mono bw0.size))
  clear ow r0 bw0 b1
  go_wp2_with fail
  refine (HRd.out Aw cw w1 (Reads.of_own OW.out) (HTb.out.below B1.out) (HEr.out.below B1.out) (HDr.out.below B1.out)).mono ?_; rintro e w2 ⟨rfl, b2⟩
  have hgw : w.heap.size < w2.heap.size := Nat.lt_of_lt_of_le R1.out.lt b2.size
  have R2 := Lib.hid (R1.out.below b2 R1.out.lt)
  have B2 := Lib.hid (B1.out.trans (b2.mono B1.out.size))
  clear b2 R1 B1 OW
  go_wp2_with fail
  generalize hW3 : w2.alloc (.cells #[.int .i64 kind, .int .i64 count, .string unit, .int .i64 dir, .string a, .string b] 25) = W3
  obtain ⟨k3, bw3⟩ := KN1.out w2 W3 hW3.symm
  clear hW3
  have B3 := Lib.hid (B2.out.trans (bw3.mono B2.out.size))
  have R3 := Lib.hid (R2.out.below bw3 R2.out.lt)
  refine (CI.out W3 B3.out).mono ?_; rintro e w5 ⟨rfl, b5⟩
  have K5 := Lib.hid (k3.below b5 k3.lt)
  have R5 := Lib.hid (R3.out.below b5 R3.out.lt)
  have B5 := Lib.hid (B3.out.trans (b5.mono B3.out.size))
  clear b5 k3 bw3 R3 B3 R2 B2
  cases ci
  · obtain ⟨g0, g1, g2, g3, g4, g5, g6, g7, g8, g9, g10, g11, g12, g13, g14, g15, g16, g17⟩ := six_facts R5.out
    go_wp2_with fail
    refine bodyPost_ret (v := .tuple #[r.1.val, .int .i64 r.2]) (by rw [HV.out]; simp [results, Tryd.results37, go_sem, Dsc.val, zeroK, g12, g13, g14, g15, g16, g17]) rfl ⟨rfl, six_below B5.out (Nat.le_refl _) _ _ _ _ _ _⟩
  · obtain ⟨k0, k1, k2, k3, k4, k5⟩ := dsc_cells K5.out
    go_wp2_with fail
    refine (CT.out (by first | trivial | rfl) w5 B5.out).mono ?_; rintro e w6 ⟨rfl, b6⟩
    have R6 := Lib.hid (R5.out.below b6 R5.out.lt)
    have B6 := Lib.hid (B5.out.trans (b6.mono B5.out.size))
    have B56 := Lib.hid b6
    clear b6 k0 k1 k2 k3 k4 k5
    have q9 := str_eq tx s
    by_cases he : tx = s
    · rw [decide_eq_true he] at q9
      have q8 : (tx.toList != s.toList) = false := by rw [bne, q9]; rfl
      obtain ⟨k0, k1, k2, k3, k4, k5⟩ := dsc_cells (K5.out.below B56.out K5.out.lt)
      have HV1 := Lib.hid (HV.out.trans (if_pos ⟨by first | trivial | rfl, he⟩)); clear he
      obtain ⟨g0, g1, g2, g3, g4, g5, g6, g7, g8, g9, g10, g11, g12, g13, g14, g15, g16, g17⟩ := six_facts R6.out
      go_wp2_with fail
      refine bodyPost_ret (v := .tuple #[r.1.val, .int .i64 r.2]) (by rw [HV1.out]; simp [results, Tryd.results37, go_sem, Dsc.val, zeroK, g12, g13, g14, g15, g16, g17]) rfl ⟨rfl, six_below B6.out (Nat.le_refl _) _ _ _ _ _ _⟩
    · rw [decide_eq_false he] at q9
      have q8 : (tx.toList != s.toList) = true := by rw [bne, q9]; rfl
      have HV1 := Lib.hid (HV.out.trans (if_neg (fun h => he h.2))); clear he
      obtain ⟨g0, g1, g2, g3, g4, g5, g6, g7, g8, g9, g10, g11, g12, g13, g14, g15, g16, g17⟩ := six_facts R6.out
      go_wp2_with fail
      refine bodyPost_ret (v := .tuple #[r.1.val, .int .i64 r.2]) (by rw [HV1.out]; simp [results, Tryd.results37, go_sem, Dsc.val, zeroK, g12, g13, g14, g15, g16, g17]) rfl ⟨rfl, six_below B6.out (Nat.le_refl _) _ _ _ _ _ _⟩
end Go.Proofs.YtnbpbidflacoiaaDoor
