/- The plain law of the regions: fewer descriptions, more cells; compatible where the best point satisfies all; the center is a cell. A queue: a slice of single cells, taken from its front, appended to at its end; no names of the program. One point out of an array of four. -/
import Derived.Test.YtaaioengebaebaaGreatDoorRows
import Derived.Test.YtaaioengebaebaaGreatDoorK8GA
import Derived.WalkKit
import Derived.ProofKit
import Derived.OpenShut
import Derived.BigQuiet
import Derived.Outline
import Derived.WalkSpells
import Derived.WalkLawsBesides
import Derived.Deep.DeepCutAuto
import Derived.Test.YtaaioengebaebaaGreatDoorK8GL
import Derived.Test.YtaaioengebaebaaGreatDoorK8GG
import Derived.ArgAppend
namespace Go.Proofs.YtaaioengebaebaaGreatDoor
open Go.ChangeShapes Go.WideShapes Go.ChangeAt Go.RowKit Go.Sort

theorem cntTo_cons (xs : List Sit) (d : Dsc) (ds : List Dsc) (px py : Int) : ∀ k, k ≤ ds.length → cntTo xs (d :: ds) px py (k + 1) = (if satV xs d px py = true then 1 else 0) + cntTo xs ds px py k
  | 0, _ => by
    rw [cntTo_at (ds := d :: ds) (k := 0) (by simp)]
    simp only [List.getElem_cons_zero]
    simp [cntTo]
  | k + 1, h => by
    have ih := cntTo_cons xs d ds px py k (by omega)
    rw [cntTo_at (ds := d :: ds) (k := k + 1) (by simp; omega), cntTo_at (ds := ds) (k := k) (by omega), ih]
    simp only [List.getElem_cons_succ]
    split <;> split <;> omega
theorem regB_at (xs : List Sit) (ds : List Dsc) (x y W : Int) (n k : Nat) (h : k < n) : (regB xs ds x y W n)[k]?.getD false = (cellF xs ds x y W k == (ds.length : Int)) := by
  simp [regB, h]
theorem cell_tail {xs : List Sit} {d : Dsc} {ds : List Dsc} {x y W : Int} {k : Nat} (h : cellF xs (d :: ds) x y W k = ((d :: ds).length : Int)) : cellF xs ds x y W k = (ds.length : Int) := by
  have h1 := cellF_bd xs ds x y W k
  have h2 : cellF xs (d :: ds) x y W k = _ := cntTo_cons xs d ds (pX x W k) (pY y W k) ds.length (Nat.le_refl _)
  have h3 : cellF xs ds x y W k = cntTo xs ds (pX x W k) (pY y W k) ds.length := rfl
  rw [h2] at h
  simp only [List.length_cons] at h
  split at h <;> omega
theorem sum_mono (cs bs : List Bool) (h : ∀ k : Nat, cs[k]?.getD false = true → bs[k]?.getD false = true) : ∀ k, sumTo cs (fun _ => 1) k ≤ sumTo bs (fun _ => 1) k
  | 0 => by simp [sumTo]
  | k + 1 => by
    have ih := sum_mono cs bs h k
    unfold sumTo
    split
    · next hc => rw [if_pos (h k hc)]; omega
    · split <;> omega
theorem reg_mono (xs : List Sit) (d : Dsc) (ds : List Dsc) (x y W : Int) (n : Nat) : cntM (regB xs (d :: ds) x y W n) ≤ cntM (regB xs ds x y W n) := by
  unfold cntM
  rw [regB_len, regB_len]
  refine sum_mono _ _ ?_ n
  intro k hk
  by_cases hkn : k < n
  · rw [regB_at _ _ _ _ _ _ _ hkn] at hk ⊢
    simp only [beq_iff_eq] at hk ⊢
    exact cell_tail hk
  · rw [List.getElem?_eq_none (by rw [regB_len]; omega)] at hk
    simp at hk
theorem sum_pos (cs : List Bool) : ∀ k, 0 < sumTo cs (fun _ => 1) k ↔ ∃ i, i < k ∧ cs[i]?.getD false = true
  | 0 => by simp [sumTo]
  | k + 1 => by
    have ih := sum_pos cs k
    have h0 : ∀ k, 0 ≤ sumTo cs (fun _ => 1) k := by
      intro k
      induction k with
      | zero => simp [sumTo]
      | succ k ih => unfold sumTo; split <;> omega
    unfold sumTo
    split
    · next hc =>
      constructor
      · intro _; exact ⟨k, by omega, hc⟩
      · intro _; have := h0 k; omega
    · next hc =>
      rw [ih]
      constructor
      · rintro ⟨i, h1, h2⟩; exact ⟨i, by omega, h2⟩
      · rintro ⟨i, h1, h2⟩
        rcases Nat.lt_or_ge i k with h3 | h3
        · exact ⟨i, h3, h2⟩
        · obtain rfl : i = k := by omega
          exact absurd h2 hc
theorem comp_best (xs : List Sit) (ds : List Dsc) (x y W : Int) (n : Nat) (hn : 0 < n) : decide (0 < cntM (regB xs ds x y W n)) = (cellF xs ds x y W (bestTo (cellF xs ds x y W) n) == (ds.length : Int)) := by
  have hb := bestTo_lt (cellF xs ds x y W) n hn
  have h0 : 0 < cntM (regB xs ds x y W n) ↔ _ := sum_pos (regB xs ds x y W n) (regB xs ds x y W n).length
  rw [regB_len] at h0
  rw [Bool.eq_iff_iff, decide_eq_true_eq, beq_iff_eq, h0]
  constructor
  · rintro ⟨i, h1, h2⟩
    rw [regB_at _ _ _ _ _ _ _ h1, beq_iff_eq] at h2
    have h3 := bestTo_max (cellF xs ds x y W) n i h1
    have h4 := cellF_bd xs ds x y W (bestTo (cellF xs ds x y W) n)
    omega
  · intro h1
    exact ⟨_, hb, by rw [regB_at _ _ _ _ _ _ _ hb, beq_iff_eq]; exact h1⟩
theorem div_lt_h {W H : Int} {i : Nat} (h1 : 1 ≤ W) (h : (i : Int) < W * H) : (i : Int) / W < H := by
  rw [Int.mul_comm] at h
  exact Int.ediv_lt_of_lt_mul (by omega) h
theorem cell_in {x y W H : Int} {n i : Nat} (hm : maskB x y W H n = true) (hi : i < n) : ptB (pX x W i) (pY y W i) = true ∧ (0 ≤ pX x W i - x ∧ pX x W i - x ≤ W - 1) ∧ (0 ≤ pY y W i - y ∧ pY y W i - y ≤ H - 1) ∧ (pY y W i - y) * W + (pX x W i - x) = i := by
  obtain ⟨a1, a2, a3, a4, a5, a6, a7, a8, a9, a10, a11, a12⟩ := mask_bd hm
  have hmod0 := Int.emod_nonneg (i : Int) (b := W) (by omega)
  have hmod1 := Int.emod_lt_of_pos (i : Int) (b := W) (by omega)
  have hdiv0 : 0 ≤ (i : Int) / W := Int.ediv_nonneg (by omega) (by omega)
  have hdiv1 : (i : Int) / W < H := div_lt_h a5 (by omega)
  have hsum := Int.mul_ediv_add_emod (i : Int) W
  have e1 : pX x W i - x = (i : Int) % W := by unfold pX; omega
  have e2 : pY y W i - y = (i : Int) / W := by unfold pY; omega
  have f1 : pX x W i = x + (i : Int) % W := rfl
  have f2 : pY y W i = y + (i : Int) / W := rfl
  rw [e1, e2]
  refine ⟨?_, ⟨by omega, by omega⟩, ⟨by omega, by omega⟩, by rw [Int.mul_comm]; omega⟩
  simp only [ptB, inB, Bool.and_eq_true, decide_eq_true_eq]
  omega
theorem cenTo_cell (cs : List Bool) (g : Nat → Int) : ∀ k b l, cenTo cs g k = some (b, l) → b < k ∧ cs[b]?.getD false = true := by
  intro k
  induction k with
  | zero => intro b l h; simp [cenTo] at h
  | succ k ih =>
    intro b l h
    unfold cenTo at h
    split at h
    · next hc =>
      cases h0 : cenTo cs g k with
      | none => rw [h0] at h; simp at h; obtain ⟨rfl, rfl⟩ := h; exact ⟨by omega, hc⟩
      | some p =>
        obtain ⟨b', l'⟩ := p
        rw [h0] at h
        simp only at h
        split at h
        · simp at h; obtain ⟨rfl, rfl⟩ := h; exact ⟨by omega, hc⟩
        · simp at h; obtain ⟨rfl, rfl⟩ := h; have := ih _ _ h0; exact ⟨by omega, this.2⟩
    · have := ih _ _ h; exact ⟨by omega, this.2⟩
/-- The center of a mask is one of its cells. -/
theorem cen_cell {x y W H : Int} {cs : List Bool} (h : (cenP x y W H cs).2.2 = 0) : ∃ i, ∃ hi : i < cs.length, cs[i] = true ∧ maskB x y W H cs.length = true ∧ cenP x y W H cs = (pX x W i, pY y W i, 0) := by
  unfold cenP at h ⊢
  split at h
  · next hm =>
    rw [if_pos hm]
    cases hc : cenTo cs (gP x y W cs) cs.length with
    | none => rw [hc] at h; simp at h
    | some p =>
      obtain ⟨b, l⟩ := p
      obtain ⟨h1, h2⟩ := cenTo_cell _ _ _ _ _ hc
      refine ⟨b, h1, ?_, hm, rfl⟩
      simpa [h1] using h2
  · simp at h
/-- Sub-lists of descriptions keep the code. -/
theorem codeS_tail {xs : List Sit} {d : Dsc} {ds : List Dsc} (h : codeS xs (d :: ds) true = 0) : codeS xs ds true = 0 := by
  unfold codeS at h
  split at h
  · next hc =>
    split at h
    · omega
    · next hm =>
      split at h
      · omega
      · next hl =>
        simp only [Bool.and_eq_true, List.all_cons] at hc
        simp only [List.any_cons, Bool.or_eq_true, not_or] at hm
        simp only [List.length_cons] at hl
        unfold codeS
        rw [if_pos (by simp only [Bool.and_eq_true]; exact ⟨hc.1, trivial, hc.2.2.2⟩), if_neg hm.2, if_neg (by omega)]
  · omega
/-- What CountSatisfied answers at the best point. -/
theorem best_cnt {xs : List Sit} {ds : List Dsc} {x y W H : Int} {n : Nat} (hm : maskB x y W H n = true) (hz : codeS xs ds true = 0) (hn : 0 < n) :
    cntT xs ds (bestP xs ds x y W H n).1 (bestP xs ds x y W H n).2.1 = (cellF xs ds x y W (bestTo (cellF xs ds x y W) n), 0) ∧ (compP xs ds x y W H n).1 = (cellF xs ds x y W (bestTo (cellF xs ds x y W) n) == (ds.length : Int)) := by
  have hb := bestTo_lt (cellF xs ds x y W) n hn
  have hp := (cell_in hm hb).1
  unfold bestP compP
  rw [hm, if_pos hz, if_pos hz]
  refine ⟨?_, comp_best xs ds x y W n hn⟩
  dsimp only
  unfold cntT
  rw [hp, if_pos hz]
  rfl
end Go.Proofs.YtaaioengebaebaaGreatDoor
namespace Go.Proofs.YtaaioengebaebaaGreatDoor
open Go Go.RowKit

/-- The slice v holds the cells qs, lies at base or behind, and the cells behind it are there to be filled. -/
def Que (w : World) (base : Nat) (v : Value) (qs : List Value) : Prop :=
  ∃ b off cap, v = .slice (some ⟨b, off, none⟩) qs.length cap ∧ base ≤ b ∧ b < w.heap.size ∧ qs.length ≤ cap ∧ cap ≤ maxLen ∧ (∀ j u, qs[j]? = some u → w.cell? ⟨b, off + j, none⟩ = some u) ∧
    (∀ j, j < cap - qs.length → (w.cell? ⟨b, off + qs.length + j, none⟩).isSome = true) ∧ ∀ o, w.frozen? ⟨b, o, none⟩ = false
theorem Que.below {w w' : World} {base : Nat} {v : Value} {qs : List Value} (h : Que w base v qs) (hb : Below w.heap.size w w') : Que w' base v qs := by
  obtain ⟨b, off, cap, e, h1, h2, h3, h4, h5, h6, h7⟩ := h
  exact ⟨b, off, cap, e, h1, Nat.lt_of_lt_of_le h2 hb.size, h3, h4, fun j u hu => (hb.cell (p := ⟨b, off + j, none⟩) h2).trans (h5 j u hu), fun j hj => by rw [hb.cell (p := ⟨b, off + qs.length + j, none⟩) h2]; exact h6 j hj, fun o => (hb.frozen (p := ⟨b, o, none⟩) h2).trans (h7 o)⟩
/-- Another block turns. -/
theorem Que.grown {w w' : World} {base : Nat} {v : Value} {qs : List Value} {g : Nat} (h : Que w base v qs) (hg : w.grownBy w' (some g)) (hlt : g < base) : Que w' base v qs := by
  obtain ⟨b, off, cap, e, h1, h2, h3, h4, h5, h6, h7⟩ := h
  have hb : w'.heap[b]? = w.heap[b]? := hg.block b h2 (by intro e; injection e with e; omega)
  exact ⟨b, off, cap, e, h1, Nat.lt_of_lt_of_le h2 hg.size, h3, h4, fun j u hu => (World.cell?_of_block (a := ⟨b, off + j, none⟩) hb).trans (h5 j u hu), fun j hj => by rw [World.cell?_of_block (a := ⟨b, off + qs.length + j, none⟩) hb]; exact h6 j hj, fun o => (World.frozen?_of_block (a := ⟨b, o, none⟩) hb).trans (h7 o)⟩
theorem Que.start (w : World) (base : Nat) (t : TypeId) (u : Value) (hb : base ≤ w.heap.size) : Que (w.alloc (.cells #[u] t)) base (.slice (some ⟨w.heap.size, 0, none⟩) 1 1) [u] := by
  have hk := Blk.new w t #[u]
  refine ⟨w.heap.size, 0, 1, rfl, hb, hk.lt, by simp, by decide, ?_, ?_, fun o => hk.frozen o⟩
  · intro j v hv
    rw [Nat.zero_add, hk.cell]
    cases j with
    | zero => simpa using hv
    | succ j => simp at hv
  · intro j hj
    simp at hj
theorem Que.pop {w : World} {base b off n cap : Nat} {q : Value} {qs : List Value} (h : Que w base (.slice (some ⟨b, off, none⟩) n cap) (q :: qs)) :
    n = qs.length + 1 ∧ n ≤ cap ∧ b < w.heap.size ∧ w.cell? ⟨b, off, none⟩ = some q ∧ Que w base (.slice (some ⟨b, if cap = 1 then off else off + 1, none⟩) qs.length (cap - 1)) qs := by
  obtain ⟨b', off', cap', e, h1, h2, h3, h4, h5, h6, h7⟩ := h
  injection e with e1 e2 e3
  injection e1 with e1
  injection e1 with e1 e4
  subst e1 e3 e4
  simp only [List.length_cons] at e2 h3 h6
  refine ⟨e2, by omega, h2, by have := h5 0 q (by simp); simpa using this, ?_⟩
  by_cases hz : cap = 1
  · subst hz
    obtain rfl : qs = [] := List.eq_nil_of_length_eq_zero (by omega)
    rw [if_pos rfl]
    exact ⟨b, off, 0, rfl, h1, h2, by simp, by omega, fun j u hu => by simp at hu, fun j hj => by simp at hj, h7⟩
  · rw [if_neg hz]
    refine ⟨b, off + 1, cap - 1, rfl, h1, h2, by omega, by omega, fun j u hu => ?_, fun j hj => ?_, h7⟩
    · have := h5 (j + 1) u (by simpa using hu)
      rwa [show off + (j + 1) = off + 1 + j by omega] at this
    · have := h6 j (by omega)
      rwa [show off + (qs.length + 1) + j = off + 1 + qs.length + j by omega] at this
theorem Que.shape {w : World} {base : Nat} {v : Value} {qs : List Value} (h : Que w base v qs) : ∃ b off cap, v = .slice (some ⟨b, off, none⟩) qs.length cap ∧ qs.length ≤ cap ∧ base ≤ b ∧ b < w.heap.size ∧ cap ≤ maxLen := by
  obtain ⟨b, off, cap, e, h1, h2, h3, h4, _⟩ := h
  exact ⟨b, off, cap, e, h3, h1, h2, h4⟩
section
variable {P : Program} (w : World)
theorem run_append_que (t ty e : TypeId) (i : TypeInfo) (z : Value) (bytes : Nat) (ht : P.underlying t = some (.slice e)) (hi : P.info? e = some i) (hz : i.zero = some z)
    (hsize : i.size = 1) (hby : i.bytes = bytes) (hzs : z.cells.size = 1) (base : Nat) (v : Value) (qs : List Value) (hq : Que w base v qs) (ad : Addr) (c : Nat) (u : Value) (hu : w.cell? ad = some u) (h1 : u.oneCell' = true)
    (h63 : qs.length + 1 ≤ maxLen) (hbytes : (qs.length + 1) * bytes ≤ 140737488355328) (hbase : base ≤ w.heap.size) :
    ∃ v' w', (Builtin.append_ #[t, t] ty #[v, .slice (some ad) 1 c]).run P w = .ok v' w' ∧ Que w' base v' (qs ++ [u]) ∧ Below base w w' := by
  obtain ⟨b, off, cap, rfl, hb, hlt, hle, hm, hc, hs, hf⟩ := hq
  have hnews : ∀ j u', [u][j]? = some u' → w.cell? (ad.add j) = some u' := by
    intro j u' h
    cases j with
    | zero => simp at h; subst h; simpa [Addr.add] using hu
    | succ j => simp at h
  by_cases hr : qs.length + 1 ≤ cap
  · have hfree := hs 0 (by omega)
    rw [Nat.add_zero] at hfree
    have hrun := run_append_room_cells (P := P) w t ty e i ht hi b off qs.length cap ad 1 c [u] (by simp [hsize]) hnews (by simpa using h1) hr
      (fun j hj => by obtain rfl : j = 0 := by simpa using hj
                      rw [hsize, Nat.mul_one]; exact hfree) (fun j _ => hf _)
    simp only [hsize, Nat.mul_one, World.setCells] at hrun
    obtain ⟨x, hx⟩ := Option.isSome_iff_exists.1 hfree
    refine ⟨_, _, hrun, ⟨b, off, cap, by simp, hb, by simpa using hlt, by simpa using hr, hm, ?_, ?_, fun o => (World.frozen?_setCell _ _ _ _).trans (hf o)⟩, (Below.refl base w).setCell hb u⟩
    · intro j v hv
      rcases Nat.lt_or_ge j qs.length with hj | hj
      · rw [List.getElem?_append_left hj] at hv
        rw [World.cell?_setCell_other _ _ _ _ (fun e => by injection e with _ e; omega)]
        exact hc j v hv
      · rw [List.getElem?_append_right hj] at hv
        have hj0 : j = qs.length := by
          have := (List.getElem?_eq_some_iff.1 hv).1
          simp at this; omega
        subst hj0
        simp at hv
        subst hv
        exact World.cell?_setCell_same _ _ _ hx
    · intro j hj
      simp only [List.length_append, List.length_cons, List.length_nil] at hj ⊢
      rw [World.cell?_setCell_other _ _ _ _ (fun e => by injection e with _ e; omega)]
      have := hs (j + 1) (by omega)
      rwa [show off + qs.length + (j + 1) = off + (qs.length + (0 + 1)) + j by omega] at this
  · obtain ⟨v', w', hrun, hown, hg⟩ := run_append_arg_grows (P := P) w t ty e i z 1 bytes ht hi hz hsize hby hzs (by decide) ⟨b, off, none⟩ qs.length cap qs (by simp) (fun j u' hu' => by rw [add_lit']; exact hc j u' hu') ad 1 c [u] (by simp) hnews (by omega) h63 hbytes
    refine ⟨v', w', hrun, ?_, (Below.refl base w).grown hg hbase (fun k hk => by cases hk)⟩
    rcases hown.2 with ⟨_, h0⟩ | ⟨g, cap', cur, rfl, hg1, hg2, hg3, hg4, hg5, hg6⟩
    · omega
    · have hk : Blk w' g e cur := hg2
      have hlen : (qs ++ [u]).length = qs.length + 1 := by simp
      refine ⟨g, 0, cap', by rw [hlen], Nat.le_trans hbase hg1, hk.lt, by rw [hlen]; exact hg3, hg4, ?_, ?_, fun o => hk.frozen o⟩
      · intro j v hv
        rw [Nat.zero_add]
        have hj : j < qs.length + 1 := by rw [← hlen]; exact (List.getElem?_eq_some_iff.1 hv).1
        exact hown.cellAt j (by omega) |>.trans hv
      · intro j hj
        rw [hlen] at hj ⊢
        rw [hk.cell, Array.getElem?_eq_getElem (by rw [hg5]; omega)]
        rfl
theorem wp_append_que {o : Oper} {a : Act} {K : Act → World → Prop} {Q : Exit → Act → World → Prop} (s x : Operand) (t : TypeId)
    (ho : o.op = .call { callee := .builtin .append, args := #[s, x], argTypes := #[t, t] })
    (e : TypeId) (i : TypeInfo) (z : Value) (bytes : Nat) (ht : P.underlying t = some (.slice e)) (hi : P.info? e = some i) (hz : i.zero = some z)
    (hsize : i.size = 1) (hby : i.bytes = bytes) (hzs : z.cells.size = 1) (base : Nat) (v : Value) (qs : List Value) (hs : a.eval s = v) (hq : Que w base v qs) (ad : Addr) (c : Nat) (u : Value) (hx : a.eval x = .slice (some ad) 1 c) (hu : w.cell? ad = some u) (h1 : u.oneCell' = true)
    (h63 : qs.length + 1 ≤ maxLen) (hbytes : (qs.length + 1) * bytes ≤ 140737488355328) (hbase : base ≤ w.heap.size)
    (h : ∀ v' w', Que w' base v' (qs ++ [u]) → Below base w w' → K (a.put o.dst v') w') : o.wp P a w K Q := by
  obtain ⟨v', w', hrun, h2, h3⟩ := run_append_que (P := P) w t o.type e i z bytes ht hi hz hsize hby hzs base v qs hq ad c u hu h1 h63 hbytes hbase
  unfold Oper.wp execOp
  simp only [ho, resolve, invoke, builtin, Sem.run_bind, Sem.run_pure, Result.andThen_ok, List.map_toArray, List.map_cons, List.map_nil, hs, hx, hrun]
  exact h v' w' h2 h3
theorem wpList_append_que {ops : Array Oper} {rest : List Oper} {o : Oper} {a : Act} {Q : Exit → Act → World → Prop} (hgd : o.guard = none) (s x : Operand) (t : TypeId)
    (ho : o.op = .call { callee := .builtin .append, args := #[s, x], argTypes := #[t, t] })
    (e : TypeId) (i : TypeInfo) (z : Value) (bytes : Nat) (ht : P.underlying t = some (.slice e)) (hi : P.info? e = some i) (hz : i.zero = some z)
    (hsize : i.size = 1) (hby : i.bytes = bytes) (hzs : z.cells.size = 1) (base : Nat) (v : Value) (qs : List Value) (hs : a.eval s = v) (hq : Que w base v qs) (ad : Addr) (c : Nat) (u : Value) (hx : a.eval x = .slice (some ad) 1 c) (hu : w.cell? ad = some u) (h1 : u.oneCell' = true)
    (h63 : qs.length + 1 ≤ maxLen) (hbytes : (qs.length + 1) * bytes ≤ 140737488355328) (hbase : base ≤ w.heap.size)
    (h : ∀ v' w', Que w' base v' (qs ++ [u]) → Below base w w' → wpList P ops Q rest (a.put o.dst v') w') : wpList P ops Q (o :: rest) a w :=
  wpList_plain hgd fun _ hK => wp_append_que w s x t ho e i z bytes ht hi hz hsize hby hzs base v qs hs hq ad c u hx hu h1 h63 hbytes hbase fun v' w' h2 h3 => hK _ _ (h v' w' h2 h3)
/-- x[1:] -/
theorem run_tail (t e : TypeId) (i : TypeInfo) (size : Nat) (ht : P.underlying t = some (.slice e)) (hi : P.info? e = some i) (hz : i.size = size) (ab ao n c : Nat) (hk : 1 ≤ n) (hc : n ≤ c) (hm : c ≤ 9223372036854775807) :
    (Instr.sliceAt t (.slice (some ⟨ab, ao, none⟩) n c) (some (.int .i64 1)) none none).run P w = .ok (.slice (some ⟨ab, if c = 1 then ao else ao + size, none⟩) (n - 1) (c - 1)) w := by
  have he : P.elem t = e := by simp [Program.elem, ht]
  rw [run_sliceAt_slice w t _ _ _ _ (by rw [he]; exact ht)]
  rw [run_slice_l w t _ n c (by rw [he]; exact ht) .i64 1 (by omega) (by omega), he]
  subst hz
  by_cases h1 : c = 1 <;> simp [sizeOf, typeInfo, hi, sliced, h1, Addr.add]
end
end Go.Proofs.YtaaioengebaebaaGreatDoor
namespace Go.Proofs.YtaaioengebaebaaGreatDoor
open Go.ChangeShapes Go.WideShapes Go.ChangeAt Go.RowKit

theorem infoPt2 : (Tryz.prog.info? 32).map (fun i => i.size) = some 2 := by kernel_rfl
theorem run_ix (j : Nat) (hj : j < 4) (cs : Array Value) (k : Int) (hk : k = j) (W : World) : (Instr.index 126 (.agg cs) (.int .i64 k)).run Tryz.prog W = .ok (.agg (cs.extract (j * 2) (j * 2 + 2))) W := by
  subst hk
  obtain ⟨i, hi, hs⟩ : ∃ i, Tryz.prog.info? 32 = some i ∧ i.size = 2 := by
    have h := infoPt2
    cases hc : Tryz.prog.info? 32 with
    | none => rw [hc] at h; cases h
    | some i => rw [hc] at h; exact ⟨i, rfl, by simpa using h⟩
  have hlt : ((j : Nat) : Int) < 4 := by omega
  simp [Instr.index, run_underlying Tryz.underlying126, run_underlying Tryz.underlying32, asIntOf, part, isAgg, sizeOf, typeInfo, hi, hs, hlt, go_sem]
  intro h; omega
section
variable (a b c d e f g h : Value) (W : World)
theorem ix_0 : (Instr.index 126 (.agg #[a, b, c, d, e, f, g, h]) (.int .i64 0)).run Tryz.prog W = .ok (.agg #[a, b]) W := by rw [run_ix 0 (by decide) _ 0 rfl]; rfl
theorem ix_1 : (Instr.index 126 (.agg #[a, b, c, d, e, f, g, h]) (.int .i64 1)).run Tryz.prog W = .ok (.agg #[c, d]) W := by rw [run_ix 1 (by decide) _ 1 rfl]; rfl
theorem ix_2 : (Instr.index 126 (.agg #[a, b, c, d, e, f, g, h]) (.int .i64 2)).run Tryz.prog W = .ok (.agg #[e, f]) W := by rw [run_ix 2 (by decide) _ 2 rfl]; rfl
theorem ix_3 : (Instr.index 126 (.agg #[a, b, c, d, e, f, g, h]) (.int .i64 3)).run Tryz.prog W = .ok (.agg #[g, h]) W := by rw [run_ix 3 (by decide) _ 3 rfl]; rfl
end
end Go.Proofs.YtaaioengebaebaaGreatDoor
