/- General laws: a guarded operation is walked once, and its slot holds a guarded value; a pick of two tests is one test. Words for memory: a slice that reads as a list, a block known whole, appends. After the guide's page extra-words, turned to this claim. Append onto a row of the call's own, the source nil, empty or not. After the guide's page extra-words, turned to this claim. An argument that is a slice of structs, opened to its cells (after the guide's page extra-structs); general words. Words for strings. Contracts of small functions. Marks of texts: markText; slices of strings: comparing, marking, asking. What loads and stores of a block of two to six cells need. -/
import Derived.WalkKit
import Derived.Outline
import Derived.Below
import Derived.Laws.OwnMore
import Derived.Deep.AppendLies
import Derived.Deep.Draws
import Derived.Laws.Rows
import Derived.Maps.AppendAt
import Derived.RegionTactic
import Derived.OwnWalk
import Derived.Laws.MakeOwn
import Derived.Laws.Entries
import Derived.Deep.RegionWith
import Derived.Deep.Slices
import Derived.Deep.Fields
import Derived.ChangeSame
import Derived.ProofKit
import Derived.OpenShut
import Derived.Laws.Closers25
import Derived.WideShapes
import Derived.Lib.MinMaxS
import Derived.Test.YtaaioengebaebaaGreatDoorRows
import Derived.BigQuiet
import Derived.WalkSpells
import Derived.WalkLawsBesides
import Derived.Deep.DeepCutAuto
import Derived.Lib.Hide
import Derived.Lib.QuietBelow
import Derived.Deep.QuietTactic
import Derived.IntWalk
import Derived.Laws.IdiomStrings
namespace Go.Proofs.YtaaioengebaebaaGreatDoor
open Go Go.RowKit

/-- What a guarded operation leaves in its slot. -/
def gv (c : Bool) (v : Value) : Value := if c = true then v else undef
@[go_sem] theorem gv_of {c : Bool} {v : Value} (h : c = true) : gv c v = v := by rw [gv, if_pos h]
@[congr] theorem gv_congr {c : Bool} {u v : Value} (h : u = v) : gv c u = gv c v := by rw [h]
theorem gv_not {c : Bool} {v : Value} (h : c = false) : gv c v = undef := by rw [gv, if_neg (by simp [h])]

theorem wanted_of {ops : Array Oper} {tmps : Array Value} {o : Oper} {j : Nat} {b : Bool} {d : Tmp} {c : Bool}
    (hg : o.guard = some (j, b)) (hd : (ops[j]?).bind (·.dst) = some d) (ht : tmps[d]? = some (.bool c)) :
    Region.wanted o (yielded ops tmps) = (c == b) := by
  simp [Region.wanted, hg, yielded, hd, ht]

section
variable {P : Program} {ops : Array Oper} {Q : Exit → Act → World → Prop} {a : Act} {w : World} {rest : List Oper} {o : Oper} {j : Nat} {d : Tmp} {c g : Bool}
theorem at_list (h : wpList P ops Q (o :: rest) a w) : wpList P ops Q (o :: rest) a w := h
theorem gp_t (v : Value)
    (hg : o.guard = some (j, true)) (hd : (ops[j]?).bind (·.dst) = some d) (ht : a.tmps[d]? = some (.bool c))
    (hyes : c = true → (∀ u, gv c u = u) → ∀ K : Act → World → Prop, K (a.put o.dst v) w → o.wp P a w K Q)
    (h : ∀ a', a' = a.put o.dst (gv c v) → wpList P ops Q rest a' w) : wpList P ops Q (o :: rest) a w := by
  replace h := h _ rfl
  unfold wpList
  rw [wanted_of hg hd ht]
  cases c
  · simpa [gv] using h
  · simp only [beq_self_eq_true, if_true]
    refine .inl (hyes rfl (fun _ => gv_of rfl) _ ?_)
    simpa [gv] using h
theorem gp_f (v : Value)
    (hg : o.guard = some (j, false)) (hd : (ops[j]?).bind (·.dst) = some d) (ht : a.tmps[d]? = some (.bool c))
    (hyes : c = false → (∀ u, gv (!c) u = u) → ∀ K : Act → World → Prop, K (a.put o.dst v) w → o.wp P a w K Q)
    (h : ∀ a', a' = a.put o.dst (gv (!c) v) → wpList P ops Q rest a' w) : wpList P ops Q (o :: rest) a w := by
  replace h := h _ rfl
  unfold wpList
  rw [wanted_of hg hd ht]
  cases c
  · simp only [beq_self_eq_true, if_true]
    refine .inl (hyes rfl (fun _ => gv_of rfl) _ ?_)
    simpa [gv] using h
  · simpa [gv] using h
theorem gp_t2 (v : Value)
    (hg : o.guard = some (j, true)) (hd : (ops[j]?).bind (·.dst) = some d) (ht : a.tmps[d]? = some (gv g (.bool c)))
    (hyes : g = true → c = true → (∀ u, gv g u = u) → (∀ u, gv (g && c) u = u) → ∀ K : Act → World → Prop, K (a.put o.dst v) w → o.wp P a w K Q)
    (h : ∀ a', a' = a.put o.dst (gv (g && c) v) → wpList P ops Q rest a' w) : wpList P ops Q (o :: rest) a w := by
  replace h := h _ rfl
  cases hgb : g
  · unfold wpList
    have hf : Region.wanted o (yielded ops a.tmps) = false := by
      rw [gv_not hgb] at ht
      simp [Region.wanted, hg, yielded, hd, ht, undef]
    rw [hf]
    simpa [hgb, gv] using h
  · rw [gv_of hgb] at ht
    refine gp_t v hg hd ht (fun h1 _ => hyes hgb h1 (fun _ => gv_of hgb) (fun _ => gv_of (by rw [hgb, h1]; rfl))) ?_
    rintro _ rfl
    simpa [hgb] using h
theorem gp_f2 (v : Value)
    (hg : o.guard = some (j, false)) (hd : (ops[j]?).bind (·.dst) = some d) (ht : a.tmps[d]? = some (gv g (.bool c)))
    (hyes : g = true → c = false → (∀ u, gv g u = u) → (∀ u, gv (g && !c) u = u) → ∀ K : Act → World → Prop, K (a.put o.dst v) w → o.wp P a w K Q)
    (h : ∀ a', a' = a.put o.dst (gv (g && !c) v) → wpList P ops Q rest a' w) : wpList P ops Q (o :: rest) a w := by
  replace h := h _ rfl
  cases hgb : g
  · unfold wpList
    have hf : Region.wanted o (yielded ops a.tmps) = false := by
      rw [gv_not hgb] at ht
      simp [Region.wanted, hg, yielded, hd, ht, undef]
    rw [hf]
    simpa [hgb, gv] using h
  · rw [gv_of hgb] at ht
    refine gp_f v hg hd ht (fun h1 _ => hyes hgb h1 (fun _ => gv_of hgb) (fun _ => gv_of (by rw [hgb, h1]; rfl))) ?_
    rintro _ rfl
    simpa [hgb] using h

section
variable {K : Act → World → Prop} {p : Bool} {t x y : Operand}
theorem wp_move_to {v : Value} (ho : o.op = .move x) (hx : a.eval x = v) (h : K (a.put o.dst v) w) : o.wp P a w K Q := by
  subst hx
  unfold Oper.wp execOp; rw [ho]; exact h
theorem wp_pick_and (ho : o.op = .pick t x (.const (.bool false))) (hc : a.eval t = .bool c) (hx : c = true → a.eval x = .bool p)
    (h : K (a.put o.dst (.bool (c && p))) w) : o.wp P a w K Q := by
  unfold Oper.wp execOp
  rw [ho]
  simp only [hc, asBool]
  cases c
  · exact h
  · rw [hx rfl]; exact h
theorem wp_pick_or (ho : o.op = .pick t (.const (.bool true)) y) (hc : a.eval t = .bool c) (hy : c = false → a.eval y = .bool p)
    (h : K (a.put o.dst (.bool (c || p))) w) : o.wp P a w K Q := by
  unfold Oper.wp execOp
  rw [ho]
  simp only [hc, asBool]
  cases c
  · rw [hy rfl]; exact h
  · exact h
theorem pick_and (hg : o.guard = none) (ho : o.op = .pick t x (.const (.bool false))) (hc : a.eval t = .bool c) (hx : c = true → a.eval x = .bool p)
    (h : ∀ a', a' = a.put o.dst (.bool (c && p)) → wpList P ops Q rest a' w) : wpList P ops Q (o :: rest) a w :=
  wpList_plain hg fun _ hK => wp_pick_and ho hc hx (hK _ _ (h _ rfl))
theorem pick_or (hg : o.guard = none) (ho : o.op = .pick t (.const (.bool true)) y) (hc : a.eval t = .bool c) (hy : c = false → a.eval y = .bool p)
    (h : ∀ a', a' = a.put o.dst (.bool (c || p)) → wpList P ops Q rest a' w) : wpList P ops Q (o :: rest) a w :=
  wpList_plain hg fun _ hK => wp_pick_or ho hc hy (hK _ _ (h _ rfl))
end
section
variable {l : List Value} {ol : List Oper} {df : List Deferred} {dd : Tmp}
theorem gl_t (v : Value)
    (hg : o.guard = some (j, true)) (hd : (ol[j]?).bind (·.dst) = some d) (ht : l[d]? = some (.bool c)) (ho : o.dst = some dd)
    (hyes : c = true → (∀ u, gv c u = u) → ∀ K : Act → World → Prop, K ⟨(l.set dd v).toArray, df⟩ w → o.wp P ⟨l.toArray, df⟩ w K Q)
    (h : ∀ l', l' = l.set dd (gv c v) → wpList P ol.toArray Q rest ⟨l'.toArray, df⟩ w) : wpList P ol.toArray Q (o :: rest) ⟨l.toArray, df⟩ w :=
  gp_t v hg (by simpa using hd) (by simpa using ht) (fun h1 h2 K hK => hyes h1 h2 K (by simpa [Act.put, ho] using hK)) fun a' ha => by
    subst ha; simpa [Act.put, ho] using h _ rfl
theorem gl_f (v : Value)
    (hg : o.guard = some (j, false)) (hd : (ol[j]?).bind (·.dst) = some d) (ht : l[d]? = some (.bool c)) (ho : o.dst = some dd)
    (hyes : c = false → (∀ u, gv (!c) u = u) → ∀ K : Act → World → Prop, K ⟨(l.set dd v).toArray, df⟩ w → o.wp P ⟨l.toArray, df⟩ w K Q)
    (h : ∀ l', l' = l.set dd (gv (!c) v) → wpList P ol.toArray Q rest ⟨l'.toArray, df⟩ w) : wpList P ol.toArray Q (o :: rest) ⟨l.toArray, df⟩ w :=
  gp_f v hg (by simpa using hd) (by simpa using ht) (fun h1 h2 K hK => hyes h1 h2 K (by simpa [Act.put, ho] using hK)) fun a' ha => by
    subst ha; simpa [Act.put, ho] using h _ rfl
theorem gl_t2 (v : Value)
    (hg : o.guard = some (j, true)) (hd : (ol[j]?).bind (·.dst) = some d) (ht : l[d]? = some (gv g (.bool c))) (ho : o.dst = some dd)
    (hyes : g = true → c = true → (∀ u, gv g u = u) → (∀ u, gv (g && c) u = u) → ∀ K : Act → World → Prop, K ⟨(l.set dd v).toArray, df⟩ w → o.wp P ⟨l.toArray, df⟩ w K Q)
    (h : ∀ l', l' = l.set dd (gv (g && c) v) → wpList P ol.toArray Q rest ⟨l'.toArray, df⟩ w) : wpList P ol.toArray Q (o :: rest) ⟨l.toArray, df⟩ w :=
  gp_t2 v hg (by simpa using hd) (by simpa using ht) (fun h1 h2 h3 h4 K hK => hyes h1 h2 h3 h4 K (by simpa [Act.put, ho] using hK)) fun a' ha => by
    subst ha; simpa [Act.put, ho] using h _ rfl
theorem gl_f2 (v : Value)
    (hg : o.guard = some (j, false)) (hd : (ol[j]?).bind (·.dst) = some d) (ht : l[d]? = some (gv g (.bool c))) (ho : o.dst = some dd)
    (hyes : g = true → c = false → (∀ u, gv g u = u) → (∀ u, gv (g && !c) u = u) → ∀ K : Act → World → Prop, K ⟨(l.set dd v).toArray, df⟩ w → o.wp P ⟨l.toArray, df⟩ w K Q)
    (h : ∀ l', l' = l.set dd (gv (g && !c) v) → wpList P ol.toArray Q rest ⟨l'.toArray, df⟩ w) : wpList P ol.toArray Q (o :: rest) ⟨l.toArray, df⟩ w :=
  gp_f2 v hg (by simpa using hd) (by simpa using ht) (fun h1 h2 h3 h4 K hK => hyes h1 h2 h3 h4 K (by simpa [Act.put, ho] using hK)) fun a' ha => by
    subst ha; simpa [Act.put, ho] using h _ rfl
variable {p : Bool} {t x y : Tmp} {K : Act → World → Prop}
theorem lpick_and (hg : o.guard = none) (ho : o.op = .pick (.tmp t) (.tmp x) (.const (.bool false))) (hd : o.dst = some dd) (hc : l[t]? = some (.bool c)) (hx : c = true → l[x]? = some (.bool p))
    (h : ∀ l', l' = l.set dd (.bool (c && p)) → wpList P ol.toArray Q rest ⟨l'.toArray, df⟩ w) : wpList P ol.toArray Q (o :: rest) ⟨l.toArray, df⟩ w :=
  pick_and (c := c) (p := p) hg ho (by simp [Act.eval, hc]) (fun h1 => by simp [Act.eval, hx h1]) fun a' ha => by
    subst ha; simpa [Act.put, hd] using h _ rfl
theorem lpick_or (hg : o.guard = none) (ho : o.op = .pick (.tmp t) (.const (.bool true)) (.tmp y)) (hd : o.dst = some dd) (hc : l[t]? = some (.bool c)) (hy : c = false → l[y]? = some (.bool p))
    (h : ∀ l', l' = l.set dd (.bool (c || p)) → wpList P ol.toArray Q rest ⟨l'.toArray, df⟩ w) : wpList P ol.toArray Q (o :: rest) ⟨l.toArray, df⟩ w :=
  pick_or (c := c) (p := p) hg ho (by simp [Act.eval, hc]) (fun h1 => by simp [Act.eval, hy h1]) fun a' ha => by
    subst ha; simpa [Act.put, hd] using h _ rfl
theorem lmove {v : Value} (ho : o.op = .move (.tmp x)) (hd : o.dst = some dd) (hx : l[x]? = some v) (h : K ⟨(l.set dd v).toArray, df⟩ w) : o.wp P ⟨l.toArray, df⟩ w K Q :=
  wp_move_to (v := v) ho (by simp [Act.eval, hx]) (by simpa [Act.put, hd] using h)
theorem lwpick_and (ho : o.op = .pick (.tmp t) (.tmp x) (.const (.bool false))) (hd : o.dst = some dd) (hc : l[t]? = some (.bool c)) (hx : c = true → l[x]? = some (.bool p))
    (h : K ⟨(l.set dd (.bool (c && p))).toArray, df⟩ w) : o.wp P ⟨l.toArray, df⟩ w K Q :=
  wp_pick_and (c := c) (p := p) ho (by simp [Act.eval, hc]) (fun h1 => by simp [Act.eval, hx h1]) (by simpa [Act.put, hd] using h)
theorem lwpick_or (ho : o.op = .pick (.tmp t) (.const (.bool true)) (.tmp y)) (hd : o.dst = some dd) (hc : l[t]? = some (.bool c)) (hy : c = false → l[y]? = some (.bool p))
    (h : K ⟨(l.set dd (.bool (c || p))).toArray, df⟩ w) : o.wp P ⟨l.toArray, df⟩ w K Q :=
  wp_pick_or (c := c) (p := p) ho (by simp [Act.eval, hc]) (fun h1 => by simp [Act.eval, hy h1]) (by simpa [Act.put, hd] using h)
theorem gs {b : Bool} {v : Value} (h : b = true) : some (gv b v) = some v := by rw [gv_of h]
end
end

end Go.Proofs.YtaaioengebaebaaGreatDoor
namespace Go.Proofs.YtaaioengebaebaaGreatDoor
open Go Go.RowKit

theorem block_of_add (a : Addr) (n : Nat) : (a.add n).block = a.block := by unfold Addr.add; split <;> rfl
theorem add_of_add (a : Addr) (i j : Nat) : (a.add i).add j = a.add (i + j) := by
  unfold Addr.add
  by_cases hi : i = 0 <;> by_cases hj : j = 0 <;> simp [hi, hj, Nat.add_assoc]

theorem add_lit0 (g j : Nat) : (⟨g, 0, none⟩ : Addr).add j = ⟨g, 0 + j, none⟩ := by unfold Addr.add; split <;> simp_all
theorem add_lit' (g o j : Nat) : (⟨g, o, none⟩ : Addr).add j = ⟨g, o + j, none⟩ := by unfold Addr.add; split <;> simp_all

/-- The slice '.slice A n _' reads as the cells xs, 'size' cells an element; it lies below block B. -/
def Reads (w : World) (B size : Nat) (A : Option Addr) (n : Nat) (xs : List Value) : Prop :=
  xs.length = n * size ∧ (0 < n → ∃ b off, A = some ⟨b, off, none⟩ ∧ b < B ∧ ∀ j u, xs[j]? = some u → w.cell? ⟨b, off + j, none⟩ = some u)

section
variable {w w' : World} {B B' size n : Nat} {A : Option Addr} {xs : List Value}
theorem Reads.nil_ : Reads w B size A 0 [] := ⟨by simp, fun h => absurd h (by omega)⟩
theorem Reads.keep (h : Reads w B size A n xs) (hk : ∀ p : Addr, p.block < B → w'.cell? p = w.cell? p) : Reads w' B size A n xs :=
  ⟨h.1, fun hn => by
    obtain ⟨b, off, e, hb, hc⟩ := h.2 hn
    exact ⟨b, off, e, hb, fun j u hu => (hk _ hb).trans (hc j u hu)⟩⟩
theorem Reads.more (h : Reads w B size A n xs) (hB : B ≤ B') : Reads w B' size A n xs :=
  ⟨h.1, fun hn => by
    obtain ⟨b, off, e, hb, hc⟩ := h.2 hn
    exact ⟨b, off, e, by omega, hc⟩⟩
theorem Reads.below (h : Reads w B size A n xs) (hb : Below B w w') : Reads w' B size A n xs := h.keep fun _ hp => hb.cell hp
theorem Reads.drew (h : Reads w B size A n xs) : Reads w.drew B size A n xs := h
theorem Reads.drewN (h : Reads w B size A n xs) (k : Nat) : Reads (w.drewN k) B size A n xs := h
theorem Reads.alloc (h : Reads w B size A n xs) (hB : B ≤ w.heap.size) (o : Obj) : Reads (w.alloc o) B size A n xs := h.keep fun p hp => World.cell?_alloc_lt w o p (by omega)
theorem Reads.setCell (h : Reads w B size A n xs) {p : Addr} (hB : B ≤ p.block) (u : Value) : Reads (w.setCell p u) B size A n xs :=
  h.keep fun q hq => World.cell?_setCell_other w p q u (fun e => by subst e; omega)
theorem Reads.grown (h : Reads w B size A n xs) {row : Option Nat} (hg : w.grownBy w' row) (hB : B ≤ w.heap.size) (hr : ∀ g, row = some g → B ≤ g) : Reads w' B size A n xs :=
  h.keep fun p hp => World.cell?_of_block (hg.block p.block (by omega) (fun e => by have := hr _ e.symm; omega))
theorem Reads.of_own {base : Nat} {e : TypeId} {c : Nat} (h : w.ownsRow base e size (.slice A n c) n xs) : Reads w w.heap.size size A n xs := by
  refine ⟨h.1, fun hn => ?_⟩
  obtain ⟨g, cap, hv, _, hlt⟩ := h.form hn
  have hA : A = some ⟨g, 0, none⟩ := by injection hv
  subst hA
  refine ⟨g, 0, rfl, hlt, fun j u hu => ?_⟩
  have := h.cells (g := g) rfl j u hu
  rwa [add_lit0] at this
end

/-- Block g is just the cells cs of element type t, none frozen. -/
def Blk (w : World) (g : Nat) (t : TypeId) (cs : Array Value) : Prop := w.heap[g]? = some (.cells cs t (0, 0))
section
variable {w w' : World} {g : Nat} {t : TypeId} {cs : Array Value}
theorem Blk.lt (h : Blk w g t cs) : g < w.heap.size := by
  rcases Nat.lt_or_ge g w.heap.size with hlt | hge
  · exact hlt
  · unfold Blk at h; rw [Array.getElem?_eq_none hge] at h; cases h
theorem Blk.cell (h : Blk w g t cs) (i : Nat) : w.cell? ⟨g, i, none⟩ = cs[i]? := cell_of_row w g i cs t (0, 0) h
theorem Blk.frozen (h : Blk w g t cs) (i : Nat) : w.frozen? ⟨g, i, none⟩ = false := by
  unfold Blk at h
  simp [World.frozen?, h]
theorem Blk.new (w : World) (t : TypeId) (cs : Array Value) : Blk (w.alloc (.cells cs t)) w.heap.size t cs := heap_alloc_new w _
theorem Blk.drew (h : Blk w g t cs) : Blk w.drew g t cs := h
theorem Blk.drewN (h : Blk w g t cs) (n : Nat) : Blk (w.drewN n) g t cs := h
theorem Blk.alloc (h : Blk w g t cs) (o : Obj) : Blk (w.alloc o) g t cs := (Below.heap_alloc w o g h.lt).trans h
theorem Blk.set_ (h : Blk w g t cs) (i : Nat) (u : Value) : Blk (w.setCell ⟨g, i, none⟩ u) g t (cs.setIfInBounds i u) := by
  unfold Blk at h ⊢
  simp [World.setCell, Array.getElem?_modify, h]
theorem Blk.far (h : Blk w g t cs) {p : Addr} (hp : g ≠ p.block) (u : Value) : Blk (w.setCell p u) g t cs := (Below.heap_setCell w p u g hp).trans h
theorem Blk.below {B : Nat} (h : Blk w g t cs) (hb : Below B w w') (hg : g < B) : Blk w' g t cs := (hb.block g hg).trans h
theorem Blk.grown {row : Option Nat} (h : Blk w g t cs) (hb : w.grownBy w' row) (hg : some g ≠ row) : Blk w' g t cs := (hb.block g h.lt hg).trans h
end

theorem ret_int {k : IntKind} {a b : Int} (h : a = b) : Ending.returned (.int k a) = .returned (.int k b) := by rw [h]
theorem ret_int2 {k k' : IntKind} {a b c d : Int} (h : a = c) (h' : b = d) : Ending.returned (.tuple #[.int k a, .int k' b]) = .returned (.tuple #[.int k c, .int k' d]) := by rw [h, h']
theorem ret_bool {a b : Bool} (h : a = b) : Ending.returned (.bool a) = .returned (.bool b) := by rw [h]
theorem results_tmp4 {fn : Func} {t u v x : Tmp} (h : fn.results = #[.tmp t, .tmp u, .tmp v, .tmp x]) (tmps : Array Value) (P : Program) (w : World) :
    (results fn tmps).run P w = .ok (.tuple #[tmps.getD t undef, tmps.getD u undef, tmps.getD v undef, tmps.getD x undef]) w := by simp [results, h]
theorem run_make_rowN {P : Program} (t e : TypeId) (i : TypeInfo) (z : Value) (ht : P.underlying t = some (.slice e)) (hi : P.info? e = some i) (hz : i.zero = some z)
    (kl kc : IntKind) (n c : Nat) (hnc : n ≤ c) (hbytes : i.bytes * c ≤ 281474976710656) (h63 : c ≤ 9223372036854775807) (w : World) :
    (Instr.makeSlice t (.int kl (n : Int)) (.int kc (c : Int))).run P w = .ok (.slice (some ⟨w.heap.size, 0, none⟩) n c) (w.alloc (.cells (madeCells z.cells (c * i.size)) e)) := by
  have hb : (i.bytes : Int) * (c : Int) ≤ 281474976710656 := by
    have h : ((i.bytes * c : Nat) : Int) ≤ 281474976710656 := by omega
    rwa [Int.natCast_mul] at h
  have hr := run_make (P := P) w t e i z ht hi hz kl kc n c (by omega) (by omega) hb (by omega)
  simp only [Int.toNat_natCast] at hr
  exact hr
theorem bcell {W w1 : World} (hb : Below W.heap.size W w1) : (∀ b o, b < W.heap.size → w1.cell? ⟨b, o, none⟩ = W.cell? ⟨b, o, none⟩) ∧ (∀ b o, b < W.heap.size → w1.frozen? ⟨b, o, none⟩ = W.frozen? ⟨b, o, none⟩) :=
  ⟨fun b o h => hb.cell (p := ⟨b, o, none⟩) h, fun b o h => hb.frozen (p := ⟨b, o, none⟩) h⟩
/-- Block g, of which the first m cells are those of L, and which is as long as L. -/
def Copied (w : World) (g : Nat) (t : TypeId) (m : Nat) (L : List Value) : Prop := ∃ cs : Array Value, Blk w g t cs ∧ cs.size = L.length ∧ ∀ j, j < m → cs[j]? = L[j]?
section
variable {w w' : World} {g m : Nat} {t : TypeId} {L : List Value}
theorem Copied.start (w : World) (t : TypeId) (cs : Array Value) (hs : cs.size = L.length) : Copied (w.alloc (.cells cs t)) w.heap.size t 0 L := ⟨cs, Blk.new w t cs, hs, fun j hj => absurd hj (by omega)⟩
theorem Copied.lt (h : Copied w g t m L) : g < w.heap.size := by obtain ⟨cs, hb, _⟩ := h; exact hb.lt
theorem Copied.cell (h : Copied w g t m L) {j : Nat} (hj : j < L.length) : (∃ u, w.cell? ⟨g, j, none⟩ = some u) ∧ w.frozen? ⟨g, j, none⟩ = false := by
  obtain ⟨cs, hb, hs, _⟩ := h
  exact ⟨⟨cs[j]'(by omega), by rw [hb.cell]; exact Array.getElem?_eq_getElem (by omega)⟩, hb.frozen j⟩
theorem Copied.below {B : Nat} (h : Copied w g t m L) (hb : Below B w w') (hg : g < B) : Copied w' g t m L := by
  obtain ⟨cs, h1, h2⟩ := h
  exact ⟨cs, h1.below hb hg, h2⟩
theorem Copied.alloc (h : Copied w g t m L) (o : Obj) : Copied (w.alloc o) g t m L := by
  obtain ⟨cs, h1, h2⟩ := h
  exact ⟨cs, h1.alloc o, h2⟩
theorem Copied.set_ (h : Copied w g t m L) {a : Value} (ha : L[m]? = some a) : Copied (w.setCell ⟨g, m, none⟩ a) g t (m + 1) L := by
  obtain ⟨cs, h1, h2, h3⟩ := h
  refine ⟨_, h1.set_ m a, by simpa using h2, fun j hj => ?_⟩
  have hl : m < L.length := (List.getElem?_eq_some_iff.1 ha).1
  rw [Array.getElem?_setIfInBounds]
  by_cases hm : m = j
  · subst hm
    rw [if_pos rfl, if_pos (by omega), ha]
  · rw [if_neg hm]
    exact h3 j (by omega)
theorem Copied.done (h : Copied w g t L.length L) : Blk w g t L.toArray := by
  obtain ⟨cs, h1, h2, h3⟩ := h
  have : cs = L.toArray := by
    apply Array.ext_getElem?
    intro j
    by_cases hj : j < L.length
    · rw [h3 j hj]; simp
    · rw [Array.getElem?_eq_none (by omega), Array.getElem?_eq_none (by simpa using hj)]
  rwa [← this]
end
/-- 'Below' over some draws. -/
theorem below_drewN' {B : Nat} {a w : World} (h : Below B a w) (n : Nat) : Below B a (w.drewN n) := ⟨h.os, h.tape, h.output, h.size, h.block⟩

end Go.Proofs.YtaaioengebaebaaGreatDoor
namespace Go.Proofs.YtaaioengebaebaaGreatDoor
open Go Go.RowKit
section
variable {P : Program} (w : World)

theorem run_append_of_nil (base : Nat) (t ty e : TypeId) (i : TypeInfo) (size : Nat) (ht : P.underlying t = some (.slice e)) (hi : P.info? e = some i)
    (v : Value) (n : Nat) (xs : List Value) (hown : w.ownsRow base e size v n xs) (c : Nat) : (Builtin.append_ #[t, t] ty #[v, .slice none 0 c]).run P w = .ok v w := by
  rcases hown.2 with ⟨rfl, rfl⟩ | ⟨g, cap, cur, rfl, _, _, hnc, _⟩
  · simp [Builtin.append_, run_underlying ht, sizeOf, typeInfo, hi, Builtin.lenOf, Builtin.firstCells]
  · simp [Builtin.append_, run_underlying ht, sizeOf, typeInfo, hi, Builtin.lenOf, Builtin.firstCells, hnc, storeCells]

theorem run_append_any (base : Nat) (t ty e : TypeId) (i : TypeInfo) (z : Value) (size bytes : Nat) (ht : P.underlying t = some (.slice e)) (hi : P.info? e = some i) (hz : i.zero = some z)
    (hsize : i.size = size) (hby : i.bytes = bytes) (hzs : z.cells.size = size) (hsz : 0 < size)
    (v : Value) (n : Nat) (xs : List Value) (hown : w.ownsRow base e size v n xs)
    (B : Nat) (A : Option Addr) (m c : Nat) (news : List Value) (hr : Reads w B size A m news) (h1 : ∀ u ∈ news, u.oneCell' = true)
    (h63 : n + m ≤ maxLen) (hbytes : (n + m) * bytes ≤ 140737488355328) (hbase : base ≤ w.heap.size) :
    ∃ v' w', (Builtin.append_ #[t, t] ty #[v, .slice A m c]).run P w = .ok v' w' ∧ w'.ownsRow base e size v' (n + m) (xs ++ news) ∧ w.grownBy w' v.ownBlock ∧
      (v'.ownBlock = v.ownBlock ∨ v'.ownBlock = some w.heap.size) := by
  rcases A with _ | ad
  · have hm : m = 0 := by
      rcases Nat.eq_zero_or_pos m with h0 | h0
      · exact h0
      · obtain ⟨_, _, h, _⟩ := hr.2 h0
        cases h
    subst hm
    have hn : news = [] := List.eq_nil_of_length_eq_zero (by simpa using hr.1)
    subst hn
    exact ⟨v, w, run_append_of_nil w base t ty e i size ht hi v n xs hown c, by simpa using hown, World.grownBy.refl w _, .inl rfl⟩
  · have hcells : ∀ j u, news[j]? = some u → w.cell? (ad.add j) = some u := by
      intro j u hu
      rcases Nat.eq_zero_or_pos m with h0 | h0
      · subst h0
        have hn : news = [] := List.eq_nil_of_length_eq_zero (by simpa using hr.1)
        subst hn
        simp at hu
      · obtain ⟨b, off, h, _, hc⟩ := hr.2 h0
        injection h with h
        subst h
        rw [add_lit']
        exact hc j u hu
    obtain ⟨v', w', hrun, h2, h3, _, h5⟩ := run_append_own_at (P := P) w base t ty e i z size bytes ht hi hz hsize hby hzs hsz v n xs hown ad m c news hr.1 hcells h1 h63 hbytes hbase
    exact ⟨v', w', hrun, h2, h3, h5⟩

theorem wp_append_any {o : Oper} {a : Act} {K : Act → World → Prop} {Q : Exit → Act → World → Prop} (s x : Operand) (t : TypeId)
    (ho : o.op = .call { callee := .builtin .append, args := #[s, x], argTypes := #[t, t] })
    (base : Nat) (e : TypeId) (i : TypeInfo) (z : Value) (size bytes : Nat) (ht : P.underlying t = some (.slice e)) (hi : P.info? e = some i) (hz : i.zero = some z)
    (hsize : i.size = size) (hby : i.bytes = bytes) (hzs : z.cells.size = size) (hsz : 0 < size)
    (v : Value) (n : Nat) (xs : List Value) (hs : a.eval s = v) (hown : w.ownsRow base e size v n xs)
    (B : Nat) (A : Option Addr) (m c : Nat) (news : List Value) (hx : a.eval x = .slice A m c) (hr : Reads w B size A m news) (h1 : ∀ u ∈ news, u.oneCell' = true)
    (h63 : n + m ≤ maxLen) (hbytes : (n + m) * bytes ≤ 140737488355328) (hbase : base ≤ w.heap.size)
    (h : ∀ v' w', w'.ownsRow base e size v' (n + m) (xs ++ news) → w.grownBy w' v.ownBlock → (v'.ownBlock = v.ownBlock ∨ v'.ownBlock = some w.heap.size) → K (a.put o.dst v') w') : o.wp P a w K Q := by
  obtain ⟨v', w', hrun, h2, h3, h4⟩ := run_append_any (P := P) w base t o.type e i z size bytes ht hi hz hsize hby hzs hsz v n xs hown B A m c news hr h1 h63 hbytes hbase
  unfold Oper.wp execOp
  simp only [ho, resolve, invoke, builtin, Sem.run_bind, Sem.run_pure, Result.andThen_ok, List.map_toArray, List.map_cons, List.map_nil, hs, hx, hrun]
  exact h v' w' h2 h3 h4

theorem wpList_append_any {ops : Array Oper} {rest : List Oper} {o : Oper} {a : Act} {Q : Exit → Act → World → Prop} (hgd : o.guard = none) (s x : Operand) (t : TypeId)
    (ho : o.op = .call { callee := .builtin .append, args := #[s, x], argTypes := #[t, t] })
    (base : Nat) (e : TypeId) (i : TypeInfo) (z : Value) (size bytes : Nat) (ht : P.underlying t = some (.slice e)) (hi : P.info? e = some i) (hz : i.zero = some z)
    (hsize : i.size = size) (hby : i.bytes = bytes) (hzs : z.cells.size = size) (hsz : 0 < size)
    (v : Value) (n : Nat) (xs : List Value) (hs : a.eval s = v) (hown : w.ownsRow base e size v n xs)
    (B : Nat) (A : Option Addr) (m c : Nat) (news : List Value) (hx : a.eval x = .slice A m c) (hr : Reads w B size A m news) (h1 : ∀ u ∈ news, u.oneCell' = true)
    (h63 : n + m ≤ maxLen) (hbytes : (n + m) * bytes ≤ 140737488355328) (hbase : base ≤ w.heap.size)
    (h : ∀ v' w', w'.ownsRow base e size v' (n + m) (xs ++ news) → w.grownBy w' v.ownBlock → (v'.ownBlock = v.ownBlock ∨ v'.ownBlock = some w.heap.size) → wpList P ops Q rest (a.put o.dst v') w') : wpList P ops Q (o :: rest) a w :=
  wpList_plain hgd fun _ hK => wp_append_any w s x t ho base e i z size bytes ht hi hz hsize hby hzs hsz v n xs hs hown B A m c news hx hr h1 h63 hbytes hbase fun v' w' h2 h3 h4 => hK _ _ (h v' w' h2 h3 h4)

theorem step_append_any {ops : Array Oper} {o : Oper} {a : Act} {K : Act → World → Prop} {Q : Exit → Act → World → Prop} {E : Prop} (hgd : o.guard = none) (s x : Operand) (t : TypeId)
    (ho : o.op = .call { callee := .builtin .append, args := #[s, x], argTypes := #[t, t] })
    (base : Nat) (e : TypeId) (i : TypeInfo) (z : Value) (size bytes : Nat) (ht : P.underlying t = some (.slice e)) (hi : P.info? e = some i) (hz : i.zero = some z)
    (hsize : i.size = size) (hby : i.bytes = bytes) (hzs : z.cells.size = size) (hsz : 0 < size)
    (v : Value) (n : Nat) (xs : List Value) (hs : a.eval s = v) (hown : w.ownsRow base e size v n xs)
    (B : Nat) (A : Option Addr) (m c : Nat) (news : List Value) (hx : a.eval x = .slice A m c) (hr : Reads w B size A m news) (h1 : ∀ u ∈ news, u.oneCell' = true)
    (h63 : n + m ≤ maxLen) (hbytes : (n + m) * bytes ≤ 140737488355328) (hbase : base ≤ w.heap.size)
    (h : ∀ v' w', w'.ownsRow base e size v' (n + m) (xs ++ news) → w.grownBy w' v.ownBlock → (v'.ownBlock = v.ownBlock ∨ v'.ownBlock = some w.heap.size) → K (a.put o.dst v') w') :
    if Region.wanted o (yielded ops a.tmps) = true then Oper.wp P o a w K Q else E := by
  have hw : Region.wanted o (yielded ops a.tmps) = true := by simp [Region.wanted, hgd]
  rw [if_pos hw]
  exact wp_append_any w s x t ho base e i z size bytes ht hi hz hsize hby hzs hsz v n xs hs hown B A m c news hx hr h1 h63 hbytes hbase h
end

theorem Reads.none_nil {w : World} {B size n : Nat} {xs : List Value} (h : Reads w B size none n xs) : n = 0 ∧ xs = [] := by
  have hn : n = 0 := by
    rcases Nat.eq_zero_or_pos n with h0 | h0
    · exact h0
    · obtain ⟨_, _, h, _⟩ := h.2 h0
      cases h
  subst hn
  exact ⟨rfl, List.eq_nil_of_length_eq_zero (by simpa using h.1)⟩
/-- The shape of an owned slice. -/
theorem own_shape {w : World} {base : Nat} {e : TypeId} {size : Nat} {v : Value} {n : Nat} {xs : List Value} (h : w.ownsRow base e size v n xs) : ∃ A c, v = .slice A n c ∧ n ≤ c := by
  rcases h.2 with ⟨rfl, rfl⟩ | ⟨g, cap, cur, rfl, _, _, h1, _⟩
  · exact ⟨none, 0, rfl, Nat.le_refl _⟩
  · exact ⟨_, cap, rfl, h1⟩
theorem own_mono {w : World} {base base' : Nat} {e : TypeId} {size : Nat} {v : Value} {n : Nat} {xs : List Value} (h : w.ownsRow base e size v n xs) (hb : base' ≤ base) : w.ownsRow base' e size v n xs := by
  refine ⟨h.1, ?_⟩
  rcases h.2 with h2 | ⟨g, cap, cur, hv, hg, r⟩
  · exact .inl h2
  · exact .inr ⟨g, cap, cur, hv, Nat.le_trans hb hg, r⟩
theorem own_lt {w : World} {base : Nat} {e : TypeId} {size : Nat} {v : Value} {n : Nat} {xs : List Value} (h : w.ownsRow base e size v n xs) : ∀ k, v.ownBlock = some k → base ≤ k ∧ k < w.heap.size := h.lt
theorem own_below {w w' : World} {base : Nat} {e : TypeId} {size : Nat} {v : Value} {n : Nat} {xs : List Value} (h : w.ownsRow base e size v n xs) (hb : Below w.heap.size w w') : w'.ownsRow base e size v n xs := by
  refine ⟨h.1, ?_⟩
  rcases h.2 with h2 | ⟨g, cap, cur, hv, hg, hh, r⟩
  · exact .inl h2
  · exact .inr ⟨g, cap, cur, hv, hg, (hb.block g (Array.getElem?_eq_some_iff.1 hh).1).trans hh, r⟩
theorem below_own {w w' : World} {B base : Nat} {e : TypeId} {size : Nat} {v : Value} {n : Nat} {xs : List Value} {w0 : World} (h : Below B w0 w) (hown : w.ownsRow base e size v n xs) (hg : w.grownBy w' v.ownBlock) (hB : B ≤ base) (hB' : B ≤ w.heap.size) : Below B w0 w' :=
  h.grown hg hB' (fun k hk => Nat.le_trans hB (hown.lt k hk).1)
end Go.Proofs.YtaaioengebaebaaGreatDoor
namespace Go.Proofs.YtaaioengebaebaaGreatDoor
open Go.ChangeShapes Go.WideShapes Go.Deep Go.RowKit
section
variable {H : Type} {enc : TypeId × Value → H} {P : Program} {w : World} {base : Nat} {spare : Nat → Bool} {held : Bool}
theorem open_slice_fields {t e : TypeId} {fs : Array Field} {fuel : Nat} {cs : List Value} {x : DataW H × List MemPlace} (ht : P.underlying t = some (.slice e)) (he : P.underlying e = some (.struct fs))
    (hone : oneCellFields P fs = true) (hC : P.cellsOf e = fs.size) (h : DataW.trod enc P w base spare held fuel t cs = some x) :
    (cs = [.slice none 0 0] ∧ x = (.nil, [])) ∨
    ∃ (a : Addr) (len cap m : Nat) (D : Nat → DataW H) (Pl : Nat → List MemPlace), cs = [.slice (some a) len cap] ∧ base ≤ a.block ∧ len ≤ cap ∧ cap ≤ maxLen ∧ m = (if spare a.block then cap else len) ∧
      x = (.slice ((List.range len).map D) ((List.range (m - len)).map fun j => D (len + j)), MemPlace.row a (m * fs.size) ++ (List.range m).flatMap Pl) ∧
      ∀ i, i < m → ∃ (ys : List (DataW H × List MemPlace)) (n : Nat), D i = .agg (ys.map (·.1)) ∧ Pl i = ys.flatMap (·.2) ∧ ys.length = fs.size ∧
        ∀ (j : Nat) (f : Field), fs[j]? = some f → ∃ (v : Value) (y : DataW H × List MemPlace), w.cell? (a.add (i * fs.size + j)) = some v ∧ ys[j]? = some y ∧ DataW.trod enc P w base spare held n f.type [v] = some y := by
  rcases open_slice ht h with h0 | ⟨a, len, cap, m, n, D, Pl, hcs, hb, hl, hm, hmm, hx, hi⟩
  · exact .inl h0
  · refine .inr ⟨a, len, cap, m, D, Pl, hcs, hb, hl, hm, hmm, by rw [hC] at hx; exact hx, fun i him => ?_⟩
    obtain ⟨cs', hc, ht'⟩ := hi i him
    rw [hC] at hc
    obtain ⟨ys, n', hn', hy, hlen, hyl, hf⟩ := DataW.trod_struct he ht'
    obtain ⟨_, hcl, hat⟩ := World.cells?_some hc
    simp only [Prod.mk.injEq] at hy
    refine ⟨ys, n', hy.1, hy.2, hyl, fun j f hj => ?_⟩
    obtain ⟨ho, hk⟩ := hone_of hone j f hj
    have hjl : j < fs.size := (Array.getElem?_eq_some_iff.1 hj).1
    have hcell := hat j hjl
    have hv : cs'[j]? = some (cs'[j]'(by omega)) := List.getElem?_eq_getElem (by omega)
    have h1 := hf j f hj
    rw [ho, hk] at h1
    have hone' : (cs'.drop j).take 1 = [cs'[j]'(by omega)] := by
      rw [List.drop_eq_getElem_cons (by omega)]
      rfl
    rw [hone'] at h1
    have hys : ys[j]? = some (ys[j]'(by omega)) := List.getElem?_eq_getElem (by omega)
    refine ⟨_, _, ?_, hys, h1.trans hys⟩
    rw [← Go.Deep.add_add, hcell, hv]
end

/-- A list out of one value for each index. -/
theorem list_of {α : Type} {n : Nat} {p : Nat → α → Prop} (h : ∀ i, i < n → ∃ a, p i a) : ∃ l : List α, l.length = n ∧ ∀ i (hi : i < l.length), p i l[i] := by
  induction n with
  | zero => exact ⟨[], rfl, fun i hi => absurd hi (by simp)⟩
  | succ n ih =>
    obtain ⟨l, hl, hp⟩ := ih (fun i hi => h i (by omega))
    obtain ⟨a, ha⟩ := h n (by omega)
    refine ⟨l ++ [a], by simp [hl], fun i hi => ?_⟩
    by_cases hin : i < l.length
    · rw [List.getElem_append_left hin]; exact hp i hin
    · have hi' : i = n := by simp at hi; omega
      subst hi'
      rw [List.getElem_append_right (by omega)]
      simpa [hl] using ha
theorem spot_of {w : World} {a : Addr} {u : Value} (h : w.cell? (a.add 0) = some u) : a.spot = none := by
  simpa [Addr.add] using World.cell?_spot h


/-- Reads out of the cells of the elements: element i is the cells f i. -/
theorem reads_of {w : World} {x : Addr} {len size : Nat} {xs : List Value} (hs : 0 < size) (hl : xs.length = len * size) (h : ∀ i j, i < len → j < size → ∀ u, xs[i * size + j]? = some u → w.cell? (x.add (i * size + j)) = some u) (h0 : 0 < len → ∃ u, w.cell? (x.add 0) = some u) :
    Reads w w.heap.size size (some x) len xs := by
  refine ⟨hl, fun hpos => ?_⟩
  obtain ⟨u0, hu0⟩ := h0 hpos
  have hsp := spot_of hu0
  obtain ⟨b, off, spot⟩ := x
  dsimp only at hsp
  subst hsp
  have hb := World.block_lt_of_cell? w _ hu0
  rw [add_lit'] at hb
  refine ⟨b, off, rfl, hb, fun j u hu => ?_⟩
  have hj : j < len * size := by have := (List.getElem?_eq_some_iff.1 hu).1; omega
  have hd : j / size < len := by rw [Nat.div_lt_iff_lt_mul hs]; exact hj
  have hm : j % size < size := Nat.mod_lt _ hs
  have e : j / size * size + j % size = j := by rw [Nat.mul_comm]; exact Nat.div_add_mod j size
  have := h (j / size) (j % size) hd hm u (by rw [e]; exact hu)
  rw [e, add_lit'] at this
  exact this
end Go.Proofs.YtaaioengebaebaaGreatDoor
namespace Go.Proofs.YtaaioengebaebaaGreatDoor
open Go Go.RowKit

theorem str_inj {a b : ByteArray} (h : a.toList = b.toList) : a = b := by
  rw [ByteArray.toList_eq, ByteArray.toList_eq] at h
  exact Go.WideShapes.bytes_inj h
theorem str_eq (a b : ByteArray) : (a.toList == b.toList) = decide (a = b) := by
  by_cases h : a = b
  · subst h; simp
  · rw [decide_eq_false h, beq_eq_false_iff_ne]
    exact fun e => h (str_inj e)
theorem str_len (a : ByteArray) : a.toList.length = a.size := by rw [ByteArray.toList_eq]; rfl
/-- Go's order of strings. -/
def strLt (a b : ByteArray) : Bool := Op.bytesLess a.toList b.toList
end Go.Proofs.YtaaioengebaebaaGreatDoor
namespace Go.Proofs.YtaaioengebaebaaGreatDoor
open Go.ChangeShapes Go.WideShapes Go.ChangeAt Go.RowKit

def inB (x lo hi : Int) : Bool := decide (lo ≤ x) && decide (x ≤ hi)

theorem within_any (x lo hi : Int) (w : World) : Calls Tryz.prog 86 #[.int .i64 x, .int .i64 lo, .int .i64 hi] w fun e w' => e = .returned (.bool (inB x lo hi)) ∧ w = w' := by
  go_enter Tryz.func86, Tryz.ntmps86
  go_upto_region 9999 with ((with_reducible refine at_list ?_); (first | (refine gl_t _ (by exact rfl) (by exact rfl) (by exact rfl) (by exact rfl) (by intro hc hv K hK; (first | (refine lmove (by exact rfl) (by exact rfl) (by first | exact gs hc | exact gs hg | exact gs (by simp [hc]) | exact gs (by simp [hc, hg]) | exact rfl) ?_; exact hK) | (refine lwpick_and (by exact rfl) (by exact rfl) (by first | exact rfl | exact gs hc | exact gs hg | exact gs (by simp [hc]) | exact gs (by simp [hc, hg])) (by intro hb; first | exact rfl | exact gs hb | exact gs hc | exact gs hg | exact gs (by simp [hb, hc]) | exact gs (by simp [hb, hc, hg])) ?_; exact hK) | (refine lwpick_or (by exact rfl) (by exact rfl) (by first | exact rfl | exact gs hc | exact gs hg | exact gs (by simp [hc]) | exact gs (by simp [hc, hg])) (by intro hb; first | exact rfl | exact gs hb | exact gs hc | exact gs hg | exact gs (by simp [hb, hc]) | exact gs (by simp [hb, hc, hg])) ?_; exact hK) | (clear hc; (try clear hg); go_step; exact hK) | ((try have hc' := hc; simp at hc'); (try have hg' := hg; simp at hg'); go_step; exact hK))) ?_; (intro l' hl; simp only [List.set_cons_succ, List.set_cons_zero] at hl; subst hl)) | (refine gl_f _ (by exact rfl) (by exact rfl) (by exact rfl) (by exact rfl) (by intro hc hv K hK; (first | (refine lmove (by exact rfl) (by exact rfl) (by first | exact gs hc | exact gs hg | exact gs (by simp [hc]) | exact gs (by simp [hc, hg]) | exact rfl) ?_; exact hK) | (refine lwpick_and (by exact rfl) (by exact rfl) (by first | exact rfl | exact gs hc | exact gs hg | exact gs (by simp [hc]) | exact gs (by simp [hc, hg])) (by intro hb; first | exact rfl | exact gs hb | exact gs hc | exact gs hg | exact gs (by simp [hb, hc]) | exact gs (by simp [hb, hc, hg])) ?_; exact hK) | (refine lwpick_or (by exact rfl) (by exact rfl) (by first | exact rfl | exact gs hc | exact gs hg | exact gs (by simp [hc]) | exact gs (by simp [hc, hg])) (by intro hb; first | exact rfl | exact gs hb | exact gs hc | exact gs hg | exact gs (by simp [hb, hc]) | exact gs (by simp [hb, hc, hg])) ?_; exact hK) | (clear hc; (try clear hg); go_step; exact hK) | ((try have hc' := hc; simp at hc'); (try have hg' := hg; simp at hg'); go_step; exact hK))) ?_; (intro l' hl; simp only [List.set_cons_succ, List.set_cons_zero] at hl; subst hl)) | (refine gl_t2 _ (by exact rfl) (by exact rfl) (by exact rfl) (by exact rfl) (by intro hg hc hv hv2 K hK; (first | (refine lmove (by exact rfl) (by exact rfl) (by first | exact gs hc | exact gs hg | exact gs (by simp [hc]) | exact gs (by simp [hc, hg]) | exact rfl) ?_; exact hK) | (refine lwpick_and (by exact rfl) (by exact rfl) (by first | exact rfl | exact gs hc | exact gs hg | exact gs (by simp [hc]) | exact gs (by simp [hc, hg])) (by intro hb; first | exact rfl | exact gs hb | exact gs hc | exact gs hg | exact gs (by simp [hb, hc]) | exact gs (by simp [hb, hc, hg])) ?_; exact hK) | (refine lwpick_or (by exact rfl) (by exact rfl) (by first | exact rfl | exact gs hc | exact gs hg | exact gs (by simp [hc]) | exact gs (by simp [hc, hg])) (by intro hb; first | exact rfl | exact gs hb | exact gs hc | exact gs hg | exact gs (by simp [hb, hc]) | exact gs (by simp [hb, hc, hg])) ?_; exact hK) | (clear hc; (try clear hg); go_step; exact hK) | ((try have hc' := hc; simp at hc'); (try have hg' := hg; simp at hg'); go_step; exact hK))) ?_; (intro l' hl; simp only [List.set_cons_succ, List.set_cons_zero] at hl; subst hl)) | (refine gl_f2 _ (by exact rfl) (by exact rfl) (by exact rfl) (by exact rfl) (by intro hg hc hv hv2 K hK; (first | (refine lmove (by exact rfl) (by exact rfl) (by first | exact gs hc | exact gs hg | exact gs (by simp [hc]) | exact gs (by simp [hc, hg]) | exact rfl) ?_; exact hK) | (refine lwpick_and (by exact rfl) (by exact rfl) (by first | exact rfl | exact gs hc | exact gs hg | exact gs (by simp [hc]) | exact gs (by simp [hc, hg])) (by intro hb; first | exact rfl | exact gs hb | exact gs hc | exact gs hg | exact gs (by simp [hb, hc]) | exact gs (by simp [hb, hc, hg])) ?_; exact hK) | (refine lwpick_or (by exact rfl) (by exact rfl) (by first | exact rfl | exact gs hc | exact gs hg | exact gs (by simp [hc]) | exact gs (by simp [hc, hg])) (by intro hb; first | exact rfl | exact gs hb | exact gs hc | exact gs hg | exact gs (by simp [hb, hc]) | exact gs (by simp [hb, hc, hg])) ?_; exact hK) | (clear hc; (try clear hg); go_step; exact hK) | ((try have hc' := hc; simp at hc'); (try have hg' := hg; simp at hg'); go_step; exact hK))) ?_; (intro l' hl; simp only [List.set_cons_succ, List.set_cons_zero] at hl; subst hl)) | (refine lpick_and (by exact rfl) (by exact rfl) (by exact rfl) (by exact rfl) (by intro hb; first | exact rfl | exact gs hb) ?_; (intro l' hl; simp only [List.set_cons_succ, List.set_cons_zero] at hl; subst hl)) | (refine lpick_or (by exact rfl) (by exact rfl) (by exact rfl) (by exact rfl) (by intro hb; first | exact rfl | exact gs hb | exact gs (by simp [hb])) ?_; (intro l' hl; simp only [List.set_cons_succ, List.set_cons_zero] at hl; subst hl))))
  go_ret
  exact ⟨rfl, rfl⟩
end Go.Proofs.YtaaioengebaebaaGreatDoor
namespace Go.Proofs.YtaaioengebaebaaGreatDoor
open Go.ChangeShapes Go.WideShapes Go.ChangeAt Go.RowKit Go.Sort

/-- The last digit. -/
def digB (j : Nat) : UInt8 := UInt8.ofNat (48 + j % 10)
theorem ba_cons (c : UInt8) (l : List UInt8) : (⟨#[c]⟩ : ByteArray) ++ ⟨l.toArray⟩ = ⟨(c :: l).toArray⟩ := by
  apply ByteArray.ext
  rw [ByteArray.data_append]
  simp
/-- The digits of k ahead of l. -/
def mGo : Nat → Nat → List UInt8 → List UInt8
  | 0, _, l => l
  | f + 1, k, l => if k = 0 then l else mGo f (k / 10) (digB k :: l)
def mT (k : Nat) : ByteArray := ⟨(109 :: mGo (k + 1) k []).toArray⟩
theorem mGo_step {f k : Nat} {l : List UInt8} (hk : 0 < k) (hf : k ≤ f) : ∃ f', f = f' + 1 ∧ k / 10 ≤ f' ∧ mGo (f + 1) k l = mGo (f' + 1) (k / 10) (digB k :: l) := by
  obtain ⟨f', rfl⟩ : ∃ f', f = f' + 1 := ⟨f - 1, by omega⟩
  refine ⟨f', rfl, by omega, ?_⟩
  rw [mGo, if_neg (by omega)]
theorem digit_string (w : World) (j : Nat) : (convert 56 9 (.slice (some ⟨w.heap.size, 0, none⟩) 1 1)).run Tryz.prog (w.alloc (.cells #[.int .u8 (48 + (j : Int) % 10)] 5)) = .ok (.string ⟨#[digB j]⟩) (w.alloc (.cells #[.int .u8 (48 + (j : Int) % 10)] 5)) := by
  have h := run_convert_bytes_back (P := Tryz.prog) (w.alloc (.cells #[.int .u8 (48 + (j : Int) % 10)] 5)) 56 9 5 ⟨w.heap.size, 0, none⟩ 1 [digB j] Tryz.underlying56 Tryz.underlying5 Tryz.underlying9 (fun i hi => by
    obtain rfl : i = 0 := by simp at hi; omega
    have hc : (w.alloc (.cells #[.int .u8 (48 + (j : Int) % 10)] 5)).cell? ⟨w.heap.size, 0, none⟩ = some (.int .u8 (48 + (j : Int) % 10)) := by rw [(Blk.new w 5 #[.int .u8 (48 + (j : Int) % 10)]).cell 0]; rfl
    have e : ((digB j).toNat : Int) = 48 + (j : Int) % 10 := by
      rw [digB, UInt8.toNat_ofNat', Nat.mod_eq_of_lt (by omega)]; omega
    simp only [List.getElem_cons_zero, e]
    rw [add_lit0]; exact hc)
  simpa using h
set_option maxRecDepth 100000 in
set_option maxHeartbeats 1000000 in
theorem markText_any (k : Nat) (h1 : 1 ≤ k) (h2 : k ≤ 1099511627776) (w : World) :
    Calls Tryz.prog 62 #[.int .i64 k] w fun e w' => e = .returned (.string (mT k)) ∧ Below w.heap.size w w' := by
  go_enter Tryz.func62, Tryz.ntmps62
  go_wp2_with fail
  go_loopw [0, 3] (fun v0 v3 wr => ∃ (f j : Nat) (l : List UInt8), j ≤ f ∧ j ≤ 1099511627776 ∧ l.length + j ≤ k ∧ Hid (mGo (k + 1) k [] = mGo (f + 1) j l) ∧ v0 = .int .i64 j ∧ v3 = .string ⟨l.toArray⟩ ∧ Hid (Below w.heap.size w wr)) (fun i _ _ => (intOf i).toNat)
  case atStart => exact ⟨k, k, [], by omega, by omega, by simp, rfl, rfl, rfl, Below.refl _ _⟩
  case round =>
    obtain ⟨f, j, l, hf, hj, hlen, HM, rfl, rfl, BW⟩ := hrel
    by_cases hpos : 0 < j
    · obtain ⟨f', _, hf', hs⟩ := mGo_step (l := l) hpos hf
      have HS := Lib.hid (HM.out.trans hs); clear hs
      have e1 : (j : Int).tmod 10 = (j : Int) % 10 := Int.tmod_eq_emod_of_nonneg (by omega)
      have hb := BW.out.size
      have hcv := digit_string wr j
      have hlj : l.length < k := by omega
      have HB := Lib.hid (ba_cons (digB j) l)
      go_wp2_with fail
      go_roundw
      case rel => exact ⟨_, j / 10, digB j :: l, hf', by omega, by simp; omega, HS, by go_num, by rw [HB.out], BW.out.alloc hb _⟩
      case measure => simp [intOf]; omega
    · obtain rfl : j = 0 := by omega
      have HE := Lib.hid (show mT k = ⟨(109 :: l).toArray⟩ by rw [mT, HM.out]; rfl)
      go_wp2_with fail
      go_ret
      exact ⟨by rw [HE.out, ← ba_cons]; rfl, BW.out⟩

theorem grown_of_below {a w : World} (h : Below a.heap.size a w) (row : Option Nat) : a.grownBy w row := ⟨h.os, h.tape, h.output, h.size, fun i hi _ => h.block i hi⟩
/-- Texts as cells. -/
def txC (xs : List ByteArray) : List Value := xs.map Value.string
theorem txC_len (xs : List ByteArray) : (txC xs).length = xs.length * 1 := by simp [txC]
theorem txC_get (xs : List ByteArray) (k : Nat) (h : k < xs.length) : (txC xs)[k]? = some (.string xs[k]) := by simp [txC, h]
theorem txC_one (xs : List ByteArray) : ∀ u ∈ txC xs, u.oneCell' = true := by
  intro u hu
  simp only [txC, List.mem_map] at hu
  obtain ⟨s, _, rfl⟩ := hu
  rfl
theorem txC_set (ys zs : List ByteArray) (x a : ByteArray) : (txC (ys ++ x :: zs)).set ys.length (.string a) = txC (ys ++ a :: zs) := by simp [txC]
/-- The marks from k on. -/
def marksT (k : Nat) : Nat → List ByteArray
  | 0 => []
  | n + 1 => marksT k n ++ [mT (k + n)]
theorem marksT_len (k n : Nat) : (marksT k n).length = n := by
  induction n with
  | zero => rfl
  | succ n ih => simp [marksT, ih]
theorem marksT_get (k n j : Nat) (h : j < n) : (marksT k n)[j]? = some (mT (k + j)) := by
  induction n with
  | zero => omega
  | succ n ih =>
    by_cases hj : j = n
    · subst hj
      rw [marksT, List.getElem?_append_right (by rw [marksT_len]; exact Nat.le_refl _)]
      simp [marksT_len]
    · rw [marksT, List.getElem?_append_left (by rw [marksT_len]; omega)]
      exact ih (by omega)
end Go.Proofs.YtaaioengebaebaaGreatDoor
namespace Go.Proofs.YtaaioengebaebaaGreatDoor
open Go Go.RowKit
theorem cells_2 {W : World} {g : Nat} {t : TypeId} {z0 z1 : Value} (h : Blk W g t #[z0, z1]) : W.cell? ⟨g, 0, none⟩ = some z0 ∧ W.cell? ⟨g, 1, none⟩ = some z1 :=
  ⟨by rw [h.cell]; rfl, by rw [h.cell]; rfl⟩
theorem facts_2 {W : World} {g : Nat} {t : TypeId} {z0 z1 : Value} (h : Blk W g t #[z0, z1]) :
    (W.cell? ⟨g, 0, none⟩ = some z0) ∧ (W.frozen? ⟨g, 0, none⟩ = false) ∧ (∀ v0, (W.setCell ⟨g, 0, none⟩ v0).cell? ⟨g, 1, none⟩ = some z1) ∧ (∀ v0, (W.setCell ⟨g, 0, none⟩ v0).frozen? ⟨g, 1, none⟩ = false) ∧ (∀ v0 v1, ((W.setCell ⟨g, 0, none⟩ v0).setCell ⟨g, 1, none⟩ v1).cell? ⟨g, 0, none⟩ = some v0) ∧ (∀ v0 v1, ((W.setCell ⟨g, 0, none⟩ v0).setCell ⟨g, 1, none⟩ v1).cell? ⟨g, 1, none⟩ = some v1) := by
  have b1 : ∀ v0, Blk (W.setCell ⟨g, 0, none⟩ v0) g t #[v0, z1] := fun v0 => by simpa using h.set_ 0 v0
  have b2 : ∀ v0 v1, Blk ((W.setCell ⟨g, 0, none⟩ v0).setCell ⟨g, 1, none⟩ v1) g t #[v0, v1] := fun v0 v1 => by simpa using (b1 v0).set_ 1 v1
  exact ⟨(by rw [h.cell]; rfl), (h.frozen 0), (fun v0 => by rw [(b1 v0).cell]; rfl), (fun v0 => (b1 v0).frozen 1), (fun v0 v1 => by rw [(b2 v0 v1).cell]; rfl), (fun v0 v1 => by rw [(b2 v0 v1).cell]; rfl)⟩
theorem cells_3 {W : World} {g : Nat} {t : TypeId} {z0 z1 z2 : Value} (h : Blk W g t #[z0, z1, z2]) : W.cell? ⟨g, 0, none⟩ = some z0 ∧ W.cell? ⟨g, 1, none⟩ = some z1 ∧ W.cell? ⟨g, 2, none⟩ = some z2 :=
  ⟨by rw [h.cell]; rfl, by rw [h.cell]; rfl, by rw [h.cell]; rfl⟩
theorem facts_3 {W : World} {g : Nat} {t : TypeId} {z0 z1 z2 : Value} (h : Blk W g t #[z0, z1, z2]) :
    (W.cell? ⟨g, 0, none⟩ = some z0) ∧ (W.frozen? ⟨g, 0, none⟩ = false) ∧ (∀ v0, (W.setCell ⟨g, 0, none⟩ v0).cell? ⟨g, 1, none⟩ = some z1) ∧ (∀ v0, (W.setCell ⟨g, 0, none⟩ v0).frozen? ⟨g, 1, none⟩ = false) ∧ (∀ v0 v1, ((W.setCell ⟨g, 0, none⟩ v0).setCell ⟨g, 1, none⟩ v1).cell? ⟨g, 2, none⟩ = some z2) ∧ (∀ v0 v1, ((W.setCell ⟨g, 0, none⟩ v0).setCell ⟨g, 1, none⟩ v1).frozen? ⟨g, 2, none⟩ = false) ∧ (∀ v0 v1 v2, (((W.setCell ⟨g, 0, none⟩ v0).setCell ⟨g, 1, none⟩ v1).setCell ⟨g, 2, none⟩ v2).cell? ⟨g, 0, none⟩ = some v0) ∧ (∀ v0 v1 v2, (((W.setCell ⟨g, 0, none⟩ v0).setCell ⟨g, 1, none⟩ v1).setCell ⟨g, 2, none⟩ v2).cell? ⟨g, 1, none⟩ = some v1) ∧ (∀ v0 v1 v2, (((W.setCell ⟨g, 0, none⟩ v0).setCell ⟨g, 1, none⟩ v1).setCell ⟨g, 2, none⟩ v2).cell? ⟨g, 2, none⟩ = some v2) := by
  have b1 : ∀ v0, Blk (W.setCell ⟨g, 0, none⟩ v0) g t #[v0, z1, z2] := fun v0 => by simpa using h.set_ 0 v0
  have b2 : ∀ v0 v1, Blk ((W.setCell ⟨g, 0, none⟩ v0).setCell ⟨g, 1, none⟩ v1) g t #[v0, v1, z2] := fun v0 v1 => by simpa using (b1 v0).set_ 1 v1
  have b3 : ∀ v0 v1 v2, Blk (((W.setCell ⟨g, 0, none⟩ v0).setCell ⟨g, 1, none⟩ v1).setCell ⟨g, 2, none⟩ v2) g t #[v0, v1, v2] := fun v0 v1 v2 => by simpa using (b2 v0 v1).set_ 2 v2
  exact ⟨(by rw [h.cell]; rfl), (h.frozen 0), (fun v0 => by rw [(b1 v0).cell]; rfl), (fun v0 => (b1 v0).frozen 1), (fun v0 v1 => by rw [(b2 v0 v1).cell]; rfl), (fun v0 v1 => (b2 v0 v1).frozen 2), (fun v0 v1 v2 => by rw [(b3 v0 v1 v2).cell]; rfl), (fun v0 v1 v2 => by rw [(b3 v0 v1 v2).cell]; rfl), (fun v0 v1 v2 => by rw [(b3 v0 v1 v2).cell]; rfl)⟩
theorem cells_4 {W : World} {g : Nat} {t : TypeId} {z0 z1 z2 z3 : Value} (h : Blk W g t #[z0, z1, z2, z3]) : W.cell? ⟨g, 0, none⟩ = some z0 ∧ W.cell? ⟨g, 1, none⟩ = some z1 ∧ W.cell? ⟨g, 2, none⟩ = some z2 ∧ W.cell? ⟨g, 3, none⟩ = some z3 :=
  ⟨by rw [h.cell]; rfl, by rw [h.cell]; rfl, by rw [h.cell]; rfl, by rw [h.cell]; rfl⟩
theorem facts_4 {W : World} {g : Nat} {t : TypeId} {z0 z1 z2 z3 : Value} (h : Blk W g t #[z0, z1, z2, z3]) :
    (W.cell? ⟨g, 0, none⟩ = some z0) ∧ (W.frozen? ⟨g, 0, none⟩ = false) ∧ (∀ v0, (W.setCell ⟨g, 0, none⟩ v0).cell? ⟨g, 1, none⟩ = some z1) ∧ (∀ v0, (W.setCell ⟨g, 0, none⟩ v0).frozen? ⟨g, 1, none⟩ = false) ∧ (∀ v0 v1, ((W.setCell ⟨g, 0, none⟩ v0).setCell ⟨g, 1, none⟩ v1).cell? ⟨g, 2, none⟩ = some z2) ∧ (∀ v0 v1, ((W.setCell ⟨g, 0, none⟩ v0).setCell ⟨g, 1, none⟩ v1).frozen? ⟨g, 2, none⟩ = false) ∧ (∀ v0 v1 v2, (((W.setCell ⟨g, 0, none⟩ v0).setCell ⟨g, 1, none⟩ v1).setCell ⟨g, 2, none⟩ v2).cell? ⟨g, 3, none⟩ = some z3) ∧ (∀ v0 v1 v2, (((W.setCell ⟨g, 0, none⟩ v0).setCell ⟨g, 1, none⟩ v1).setCell ⟨g, 2, none⟩ v2).frozen? ⟨g, 3, none⟩ = false) ∧ (∀ v0 v1 v2 v3, ((((W.setCell ⟨g, 0, none⟩ v0).setCell ⟨g, 1, none⟩ v1).setCell ⟨g, 2, none⟩ v2).setCell ⟨g, 3, none⟩ v3).cell? ⟨g, 0, none⟩ = some v0) ∧ (∀ v0 v1 v2 v3, ((((W.setCell ⟨g, 0, none⟩ v0).setCell ⟨g, 1, none⟩ v1).setCell ⟨g, 2, none⟩ v2).setCell ⟨g, 3, none⟩ v3).cell? ⟨g, 1, none⟩ = some v1) ∧ (∀ v0 v1 v2 v3, ((((W.setCell ⟨g, 0, none⟩ v0).setCell ⟨g, 1, none⟩ v1).setCell ⟨g, 2, none⟩ v2).setCell ⟨g, 3, none⟩ v3).cell? ⟨g, 2, none⟩ = some v2) ∧ (∀ v0 v1 v2 v3, ((((W.setCell ⟨g, 0, none⟩ v0).setCell ⟨g, 1, none⟩ v1).setCell ⟨g, 2, none⟩ v2).setCell ⟨g, 3, none⟩ v3).cell? ⟨g, 3, none⟩ = some v3) := by
  have b1 : ∀ v0, Blk (W.setCell ⟨g, 0, none⟩ v0) g t #[v0, z1, z2, z3] := fun v0 => by simpa using h.set_ 0 v0
  have b2 : ∀ v0 v1, Blk ((W.setCell ⟨g, 0, none⟩ v0).setCell ⟨g, 1, none⟩ v1) g t #[v0, v1, z2, z3] := fun v0 v1 => by simpa using (b1 v0).set_ 1 v1
  have b3 : ∀ v0 v1 v2, Blk (((W.setCell ⟨g, 0, none⟩ v0).setCell ⟨g, 1, none⟩ v1).setCell ⟨g, 2, none⟩ v2) g t #[v0, v1, v2, z3] := fun v0 v1 v2 => by simpa using (b2 v0 v1).set_ 2 v2
  have b4 : ∀ v0 v1 v2 v3, Blk ((((W.setCell ⟨g, 0, none⟩ v0).setCell ⟨g, 1, none⟩ v1).setCell ⟨g, 2, none⟩ v2).setCell ⟨g, 3, none⟩ v3) g t #[v0, v1, v2, v3] := fun v0 v1 v2 v3 => by simpa using (b3 v0 v1 v2).set_ 3 v3
  exact ⟨(by rw [h.cell]; rfl), (h.frozen 0), (fun v0 => by rw [(b1 v0).cell]; rfl), (fun v0 => (b1 v0).frozen 1), (fun v0 v1 => by rw [(b2 v0 v1).cell]; rfl), (fun v0 v1 => (b2 v0 v1).frozen 2), (fun v0 v1 v2 => by rw [(b3 v0 v1 v2).cell]; rfl), (fun v0 v1 v2 => (b3 v0 v1 v2).frozen 3), (fun v0 v1 v2 v3 => by rw [(b4 v0 v1 v2 v3).cell]; rfl), (fun v0 v1 v2 v3 => by rw [(b4 v0 v1 v2 v3).cell]; rfl), (fun v0 v1 v2 v3 => by rw [(b4 v0 v1 v2 v3).cell]; rfl), (fun v0 v1 v2 v3 => by rw [(b4 v0 v1 v2 v3).cell]; rfl)⟩
theorem cells_5 {W : World} {g : Nat} {t : TypeId} {z0 z1 z2 z3 z4 : Value} (h : Blk W g t #[z0, z1, z2, z3, z4]) : W.cell? ⟨g, 0, none⟩ = some z0 ∧ W.cell? ⟨g, 1, none⟩ = some z1 ∧ W.cell? ⟨g, 2, none⟩ = some z2 ∧ W.cell? ⟨g, 3, none⟩ = some z3 ∧ W.cell? ⟨g, 4, none⟩ = some z4 :=
  ⟨by rw [h.cell]; rfl, by rw [h.cell]; rfl, by rw [h.cell]; rfl, by rw [h.cell]; rfl, by rw [h.cell]; rfl⟩
theorem facts_5 {W : World} {g : Nat} {t : TypeId} {z0 z1 z2 z3 z4 : Value} (h : Blk W g t #[z0, z1, z2, z3, z4]) :
    (W.cell? ⟨g, 0, none⟩ = some z0) ∧ (W.frozen? ⟨g, 0, none⟩ = false) ∧ (∀ v0, (W.setCell ⟨g, 0, none⟩ v0).cell? ⟨g, 1, none⟩ = some z1) ∧ (∀ v0, (W.setCell ⟨g, 0, none⟩ v0).frozen? ⟨g, 1, none⟩ = false) ∧ (∀ v0 v1, ((W.setCell ⟨g, 0, none⟩ v0).setCell ⟨g, 1, none⟩ v1).cell? ⟨g, 2, none⟩ = some z2) ∧ (∀ v0 v1, ((W.setCell ⟨g, 0, none⟩ v0).setCell ⟨g, 1, none⟩ v1).frozen? ⟨g, 2, none⟩ = false) ∧ (∀ v0 v1 v2, (((W.setCell ⟨g, 0, none⟩ v0).setCell ⟨g, 1, none⟩ v1).setCell ⟨g, 2, none⟩ v2).cell? ⟨g, 3, none⟩ = some z3) ∧ (∀ v0 v1 v2, (((W.setCell ⟨g, 0, none⟩ v0).setCell ⟨g, 1, none⟩ v1).setCell ⟨g, 2, none⟩ v2).frozen? ⟨g, 3, none⟩ = false) ∧ (∀ v0 v1 v2 v3, ((((W.setCell ⟨g, 0, none⟩ v0).setCell ⟨g, 1, none⟩ v1).setCell ⟨g, 2, none⟩ v2).setCell ⟨g, 3, none⟩ v3).cell? ⟨g, 4, none⟩ = some z4) ∧ (∀ v0 v1 v2 v3, ((((W.setCell ⟨g, 0, none⟩ v0).setCell ⟨g, 1, none⟩ v1).setCell ⟨g, 2, none⟩ v2).setCell ⟨g, 3, none⟩ v3).frozen? ⟨g, 4, none⟩ = false) ∧ (∀ v0 v1 v2 v3 v4, (((((W.setCell ⟨g, 0, none⟩ v0).setCell ⟨g, 1, none⟩ v1).setCell ⟨g, 2, none⟩ v2).setCell ⟨g, 3, none⟩ v3).setCell ⟨g, 4, none⟩ v4).cell? ⟨g, 0, none⟩ = some v0) ∧ (∀ v0 v1 v2 v3 v4, (((((W.setCell ⟨g, 0, none⟩ v0).setCell ⟨g, 1, none⟩ v1).setCell ⟨g, 2, none⟩ v2).setCell ⟨g, 3, none⟩ v3).setCell ⟨g, 4, none⟩ v4).cell? ⟨g, 1, none⟩ = some v1) ∧ (∀ v0 v1 v2 v3 v4, (((((W.setCell ⟨g, 0, none⟩ v0).setCell ⟨g, 1, none⟩ v1).setCell ⟨g, 2, none⟩ v2).setCell ⟨g, 3, none⟩ v3).setCell ⟨g, 4, none⟩ v4).cell? ⟨g, 2, none⟩ = some v2) ∧ (∀ v0 v1 v2 v3 v4, (((((W.setCell ⟨g, 0, none⟩ v0).setCell ⟨g, 1, none⟩ v1).setCell ⟨g, 2, none⟩ v2).setCell ⟨g, 3, none⟩ v3).setCell ⟨g, 4, none⟩ v4).cell? ⟨g, 3, none⟩ = some v3) ∧ (∀ v0 v1 v2 v3 v4, (((((W.setCell ⟨g, 0, none⟩ v0).setCell ⟨g, 1, none⟩ v1).setCell ⟨g, 2, none⟩ v2).setCell ⟨g, 3, none⟩ v3).setCell ⟨g, 4, none⟩ v4).cell? ⟨g, 4, none⟩ = some v4) := by
  have b1 : ∀ v0, Blk (W.setCell ⟨g, 0, none⟩ v0) g t #[v0, z1, z2, z3, z4] := fun v0 => by simpa using h.set_ 0 v0
  have b2 : ∀ v0 v1, Blk ((W.setCell ⟨g, 0, none⟩ v0).setCell ⟨g, 1, none⟩ v1) g t #[v0, v1, z2, z3, z4] := fun v0 v1 => by simpa using (b1 v0).set_ 1 v1
  have b3 : ∀ v0 v1 v2, Blk (((W.setCell ⟨g, 0, none⟩ v0).setCell ⟨g, 1, none⟩ v1).setCell ⟨g, 2, none⟩ v2) g t #[v0, v1, v2, z3, z4] := fun v0 v1 v2 => by simpa using (b2 v0 v1).set_ 2 v2
  have b4 : ∀ v0 v1 v2 v3, Blk ((((W.setCell ⟨g, 0, none⟩ v0).setCell ⟨g, 1, none⟩ v1).setCell ⟨g, 2, none⟩ v2).setCell ⟨g, 3, none⟩ v3) g t #[v0, v1, v2, v3, z4] := fun v0 v1 v2 v3 => by simpa using (b3 v0 v1 v2).set_ 3 v3
  have b5 : ∀ v0 v1 v2 v3 v4, Blk (((((W.setCell ⟨g, 0, none⟩ v0).setCell ⟨g, 1, none⟩ v1).setCell ⟨g, 2, none⟩ v2).setCell ⟨g, 3, none⟩ v3).setCell ⟨g, 4, none⟩ v4) g t #[v0, v1, v2, v3, v4] := fun v0 v1 v2 v3 v4 => by simpa using (b4 v0 v1 v2 v3).set_ 4 v4
  exact ⟨(by rw [h.cell]; rfl), (h.frozen 0), (fun v0 => by rw [(b1 v0).cell]; rfl), (fun v0 => (b1 v0).frozen 1), (fun v0 v1 => by rw [(b2 v0 v1).cell]; rfl), (fun v0 v1 => (b2 v0 v1).frozen 2), (fun v0 v1 v2 => by rw [(b3 v0 v1 v2).cell]; rfl), (fun v0 v1 v2 => (b3 v0 v1 v2).frozen 3), (fun v0 v1 v2 v3 => by rw [(b4 v0 v1 v2 v3).cell]; rfl), (fun v0 v1 v2 v3 => (b4 v0 v1 v2 v3).frozen 4), (fun v0 v1 v2 v3 v4 => by rw [(b5 v0 v1 v2 v3 v4).cell]; rfl), (fun v0 v1 v2 v3 v4 => by rw [(b5 v0 v1 v2 v3 v4).cell]; rfl), (fun v0 v1 v2 v3 v4 => by rw [(b5 v0 v1 v2 v3 v4).cell]; rfl), (fun v0 v1 v2 v3 v4 => by rw [(b5 v0 v1 v2 v3 v4).cell]; rfl), (fun v0 v1 v2 v3 v4 => by rw [(b5 v0 v1 v2 v3 v4).cell]; rfl)⟩
theorem cells_6 {W : World} {g : Nat} {t : TypeId} {z0 z1 z2 z3 z4 z5 : Value} (h : Blk W g t #[z0, z1, z2, z3, z4, z5]) : W.cell? ⟨g, 0, none⟩ = some z0 ∧ W.cell? ⟨g, 1, none⟩ = some z1 ∧ W.cell? ⟨g, 2, none⟩ = some z2 ∧ W.cell? ⟨g, 3, none⟩ = some z3 ∧ W.cell? ⟨g, 4, none⟩ = some z4 ∧ W.cell? ⟨g, 5, none⟩ = some z5 :=
  ⟨by rw [h.cell]; rfl, by rw [h.cell]; rfl, by rw [h.cell]; rfl, by rw [h.cell]; rfl, by rw [h.cell]; rfl, by rw [h.cell]; rfl⟩
theorem facts_6 {W : World} {g : Nat} {t : TypeId} {z0 z1 z2 z3 z4 z5 : Value} (h : Blk W g t #[z0, z1, z2, z3, z4, z5]) :
    (W.cell? ⟨g, 0, none⟩ = some z0) ∧ (W.frozen? ⟨g, 0, none⟩ = false) ∧ (∀ v0, (W.setCell ⟨g, 0, none⟩ v0).cell? ⟨g, 1, none⟩ = some z1) ∧ (∀ v0, (W.setCell ⟨g, 0, none⟩ v0).frozen? ⟨g, 1, none⟩ = false) ∧ (∀ v0 v1, ((W.setCell ⟨g, 0, none⟩ v0).setCell ⟨g, 1, none⟩ v1).cell? ⟨g, 2, none⟩ = some z2) ∧ (∀ v0 v1, ((W.setCell ⟨g, 0, none⟩ v0).setCell ⟨g, 1, none⟩ v1).frozen? ⟨g, 2, none⟩ = false) ∧ (∀ v0 v1 v2, (((W.setCell ⟨g, 0, none⟩ v0).setCell ⟨g, 1, none⟩ v1).setCell ⟨g, 2, none⟩ v2).cell? ⟨g, 3, none⟩ = some z3) ∧ (∀ v0 v1 v2, (((W.setCell ⟨g, 0, none⟩ v0).setCell ⟨g, 1, none⟩ v1).setCell ⟨g, 2, none⟩ v2).frozen? ⟨g, 3, none⟩ = false) ∧ (∀ v0 v1 v2 v3, ((((W.setCell ⟨g, 0, none⟩ v0).setCell ⟨g, 1, none⟩ v1).setCell ⟨g, 2, none⟩ v2).setCell ⟨g, 3, none⟩ v3).cell? ⟨g, 4, none⟩ = some z4) ∧ (∀ v0 v1 v2 v3, ((((W.setCell ⟨g, 0, none⟩ v0).setCell ⟨g, 1, none⟩ v1).setCell ⟨g, 2, none⟩ v2).setCell ⟨g, 3, none⟩ v3).frozen? ⟨g, 4, none⟩ = false) ∧ (∀ v0 v1 v2 v3 v4, (((((W.setCell ⟨g, 0, none⟩ v0).setCell ⟨g, 1, none⟩ v1).setCell ⟨g, 2, none⟩ v2).setCell ⟨g, 3, none⟩ v3).setCell ⟨g, 4, none⟩ v4).cell? ⟨g, 5, none⟩ = some z5) ∧ (∀ v0 v1 v2 v3 v4, (((((W.setCell ⟨g, 0, none⟩ v0).setCell ⟨g, 1, none⟩ v1).setCell ⟨g, 2, none⟩ v2).setCell ⟨g, 3, none⟩ v3).setCell ⟨g, 4, none⟩ v4).frozen? ⟨g, 5, none⟩ = false) ∧ (∀ v0 v1 v2 v3 v4 v5, ((((((W.setCell ⟨g, 0, none⟩ v0).setCell ⟨g, 1, none⟩ v1).setCell ⟨g, 2, none⟩ v2).setCell ⟨g, 3, none⟩ v3).setCell ⟨g, 4, none⟩ v4).setCell ⟨g, 5, none⟩ v5).cell? ⟨g, 0, none⟩ = some v0) ∧ (∀ v0 v1 v2 v3 v4 v5, ((((((W.setCell ⟨g, 0, none⟩ v0).setCell ⟨g, 1, none⟩ v1).setCell ⟨g, 2, none⟩ v2).setCell ⟨g, 3, none⟩ v3).setCell ⟨g, 4, none⟩ v4).setCell ⟨g, 5, none⟩ v5).cell? ⟨g, 1, none⟩ = some v1) ∧ (∀ v0 v1 v2 v3 v4 v5, ((((((W.setCell ⟨g, 0, none⟩ v0).setCell ⟨g, 1, none⟩ v1).setCell ⟨g, 2, none⟩ v2).setCell ⟨g, 3, none⟩ v3).setCell ⟨g, 4, none⟩ v4).setCell ⟨g, 5, none⟩ v5).cell? ⟨g, 2, none⟩ = some v2) ∧ (∀ v0 v1 v2 v3 v4 v5, ((((((W.setCell ⟨g, 0, none⟩ v0).setCell ⟨g, 1, none⟩ v1).setCell ⟨g, 2, none⟩ v2).setCell ⟨g, 3, none⟩ v3).setCell ⟨g, 4, none⟩ v4).setCell ⟨g, 5, none⟩ v5).cell? ⟨g, 3, none⟩ = some v3) ∧ (∀ v0 v1 v2 v3 v4 v5, ((((((W.setCell ⟨g, 0, none⟩ v0).setCell ⟨g, 1, none⟩ v1).setCell ⟨g, 2, none⟩ v2).setCell ⟨g, 3, none⟩ v3).setCell ⟨g, 4, none⟩ v4).setCell ⟨g, 5, none⟩ v5).cell? ⟨g, 4, none⟩ = some v4) ∧ (∀ v0 v1 v2 v3 v4 v5, ((((((W.setCell ⟨g, 0, none⟩ v0).setCell ⟨g, 1, none⟩ v1).setCell ⟨g, 2, none⟩ v2).setCell ⟨g, 3, none⟩ v3).setCell ⟨g, 4, none⟩ v4).setCell ⟨g, 5, none⟩ v5).cell? ⟨g, 5, none⟩ = some v5) := by
  have b1 : ∀ v0, Blk (W.setCell ⟨g, 0, none⟩ v0) g t #[v0, z1, z2, z3, z4, z5] := fun v0 => by simpa using h.set_ 0 v0
  have b2 : ∀ v0 v1, Blk ((W.setCell ⟨g, 0, none⟩ v0).setCell ⟨g, 1, none⟩ v1) g t #[v0, v1, z2, z3, z4, z5] := fun v0 v1 => by simpa using (b1 v0).set_ 1 v1
  have b3 : ∀ v0 v1 v2, Blk (((W.setCell ⟨g, 0, none⟩ v0).setCell ⟨g, 1, none⟩ v1).setCell ⟨g, 2, none⟩ v2) g t #[v0, v1, v2, z3, z4, z5] := fun v0 v1 v2 => by simpa using (b2 v0 v1).set_ 2 v2
  have b4 : ∀ v0 v1 v2 v3, Blk ((((W.setCell ⟨g, 0, none⟩ v0).setCell ⟨g, 1, none⟩ v1).setCell ⟨g, 2, none⟩ v2).setCell ⟨g, 3, none⟩ v3) g t #[v0, v1, v2, v3, z4, z5] := fun v0 v1 v2 v3 => by simpa using (b3 v0 v1 v2).set_ 3 v3
  have b5 : ∀ v0 v1 v2 v3 v4, Blk (((((W.setCell ⟨g, 0, none⟩ v0).setCell ⟨g, 1, none⟩ v1).setCell ⟨g, 2, none⟩ v2).setCell ⟨g, 3, none⟩ v3).setCell ⟨g, 4, none⟩ v4) g t #[v0, v1, v2, v3, v4, z5] := fun v0 v1 v2 v3 v4 => by simpa using (b4 v0 v1 v2 v3).set_ 4 v4
  have b6 : ∀ v0 v1 v2 v3 v4 v5, Blk ((((((W.setCell ⟨g, 0, none⟩ v0).setCell ⟨g, 1, none⟩ v1).setCell ⟨g, 2, none⟩ v2).setCell ⟨g, 3, none⟩ v3).setCell ⟨g, 4, none⟩ v4).setCell ⟨g, 5, none⟩ v5) g t #[v0, v1, v2, v3, v4, v5] := fun v0 v1 v2 v3 v4 v5 => by simpa using (b5 v0 v1 v2 v3 v4).set_ 5 v5
  exact ⟨(by rw [h.cell]; rfl), (h.frozen 0), (fun v0 => by rw [(b1 v0).cell]; rfl), (fun v0 => (b1 v0).frozen 1), (fun v0 v1 => by rw [(b2 v0 v1).cell]; rfl), (fun v0 v1 => (b2 v0 v1).frozen 2), (fun v0 v1 v2 => by rw [(b3 v0 v1 v2).cell]; rfl), (fun v0 v1 v2 => (b3 v0 v1 v2).frozen 3), (fun v0 v1 v2 v3 => by rw [(b4 v0 v1 v2 v3).cell]; rfl), (fun v0 v1 v2 v3 => (b4 v0 v1 v2 v3).frozen 4), (fun v0 v1 v2 v3 v4 => by rw [(b5 v0 v1 v2 v3 v4).cell]; rfl), (fun v0 v1 v2 v3 v4 => (b5 v0 v1 v2 v3 v4).frozen 5), (fun v0 v1 v2 v3 v4 v5 => by rw [(b6 v0 v1 v2 v3 v4 v5).cell]; rfl), (fun v0 v1 v2 v3 v4 v5 => by rw [(b6 v0 v1 v2 v3 v4 v5).cell]; rfl), (fun v0 v1 v2 v3 v4 v5 => by rw [(b6 v0 v1 v2 v3 v4 v5).cell]; rfl), (fun v0 v1 v2 v3 v4 v5 => by rw [(b6 v0 v1 v2 v3 v4 v5).cell]; rfl), (fun v0 v1 v2 v3 v4 v5 => by rw [(b6 v0 v1 v2 v3 v4 v5).cell]; rfl), (fun v0 v1 v2 v3 v4 v5 => by rw [(b6 v0 v1 v2 v3 v4 v5).cell]; rfl)⟩
theorem cells_7 {W : World} {g : Nat} {t : TypeId} {z0 z1 z2 z3 z4 z5 z6 : Value} (h : Blk W g t #[z0, z1, z2, z3, z4, z5, z6]) : W.cell? ⟨g, 0, none⟩ = some z0 ∧ W.cell? ⟨g, 1, none⟩ = some z1 ∧ W.cell? ⟨g, 2, none⟩ = some z2 ∧ W.cell? ⟨g, 3, none⟩ = some z3 ∧ W.cell? ⟨g, 4, none⟩ = some z4 ∧ W.cell? ⟨g, 5, none⟩ = some z5 ∧ W.cell? ⟨g, 6, none⟩ = some z6 :=
  ⟨by rw [h.cell]; rfl, by rw [h.cell]; rfl, by rw [h.cell]; rfl, by rw [h.cell]; rfl, by rw [h.cell]; rfl, by rw [h.cell]; rfl, by rw [h.cell]; rfl⟩
theorem facts_7 {W : World} {g : Nat} {t : TypeId} {z0 z1 z2 z3 z4 z5 z6 : Value} (h : Blk W g t #[z0, z1, z2, z3, z4, z5, z6]) :
    (W.cell? ⟨g, 0, none⟩ = some z0) ∧ (W.frozen? ⟨g, 0, none⟩ = false) ∧ (∀ v0, (W.setCell ⟨g, 0, none⟩ v0).cell? ⟨g, 1, none⟩ = some z1) ∧ (∀ v0, (W.setCell ⟨g, 0, none⟩ v0).frozen? ⟨g, 1, none⟩ = false) ∧ (∀ v0 v1, ((W.setCell ⟨g, 0, none⟩ v0).setCell ⟨g, 1, none⟩ v1).cell? ⟨g, 2, none⟩ = some z2) ∧ (∀ v0 v1, ((W.setCell ⟨g, 0, none⟩ v0).setCell ⟨g, 1, none⟩ v1).frozen? ⟨g, 2, none⟩ = false) ∧ (∀ v0 v1 v2, (((W.setCell ⟨g, 0, none⟩ v0).setCell ⟨g, 1, none⟩ v1).setCell ⟨g, 2, none⟩ v2).cell? ⟨g, 3, none⟩ = some z3) ∧ (∀ v0 v1 v2, (((W.setCell ⟨g, 0, none⟩ v0).setCell ⟨g, 1, none⟩ v1).setCell ⟨g, 2, none⟩ v2).frozen? ⟨g, 3, none⟩ = false) ∧ (∀ v0 v1 v2 v3, ((((W.setCell ⟨g, 0, none⟩ v0).setCell ⟨g, 1, none⟩ v1).setCell ⟨g, 2, none⟩ v2).setCell ⟨g, 3, none⟩ v3).cell? ⟨g, 4, none⟩ = some z4) ∧ (∀ v0 v1 v2 v3, ((((W.setCell ⟨g, 0, none⟩ v0).setCell ⟨g, 1, none⟩ v1).setCell ⟨g, 2, none⟩ v2).setCell ⟨g, 3, none⟩ v3).frozen? ⟨g, 4, none⟩ = false) ∧ (∀ v0 v1 v2 v3 v4, (((((W.setCell ⟨g, 0, none⟩ v0).setCell ⟨g, 1, none⟩ v1).setCell ⟨g, 2, none⟩ v2).setCell ⟨g, 3, none⟩ v3).setCell ⟨g, 4, none⟩ v4).cell? ⟨g, 5, none⟩ = some z5) ∧ (∀ v0 v1 v2 v3 v4, (((((W.setCell ⟨g, 0, none⟩ v0).setCell ⟨g, 1, none⟩ v1).setCell ⟨g, 2, none⟩ v2).setCell ⟨g, 3, none⟩ v3).setCell ⟨g, 4, none⟩ v4).frozen? ⟨g, 5, none⟩ = false) ∧ (∀ v0 v1 v2 v3 v4 v5, ((((((W.setCell ⟨g, 0, none⟩ v0).setCell ⟨g, 1, none⟩ v1).setCell ⟨g, 2, none⟩ v2).setCell ⟨g, 3, none⟩ v3).setCell ⟨g, 4, none⟩ v4).setCell ⟨g, 5, none⟩ v5).cell? ⟨g, 6, none⟩ = some z6) ∧ (∀ v0 v1 v2 v3 v4 v5, ((((((W.setCell ⟨g, 0, none⟩ v0).setCell ⟨g, 1, none⟩ v1).setCell ⟨g, 2, none⟩ v2).setCell ⟨g, 3, none⟩ v3).setCell ⟨g, 4, none⟩ v4).setCell ⟨g, 5, none⟩ v5).frozen? ⟨g, 6, none⟩ = false) ∧ (∀ v0 v1 v2 v3 v4 v5 v6, (((((((W.setCell ⟨g, 0, none⟩ v0).setCell ⟨g, 1, none⟩ v1).setCell ⟨g, 2, none⟩ v2).setCell ⟨g, 3, none⟩ v3).setCell ⟨g, 4, none⟩ v4).setCell ⟨g, 5, none⟩ v5).setCell ⟨g, 6, none⟩ v6).cell? ⟨g, 0, none⟩ = some v0) ∧ (∀ v0 v1 v2 v3 v4 v5 v6, (((((((W.setCell ⟨g, 0, none⟩ v0).setCell ⟨g, 1, none⟩ v1).setCell ⟨g, 2, none⟩ v2).setCell ⟨g, 3, none⟩ v3).setCell ⟨g, 4, none⟩ v4).setCell ⟨g, 5, none⟩ v5).setCell ⟨g, 6, none⟩ v6).cell? ⟨g, 1, none⟩ = some v1) ∧ (∀ v0 v1 v2 v3 v4 v5 v6, (((((((W.setCell ⟨g, 0, none⟩ v0).setCell ⟨g, 1, none⟩ v1).setCell ⟨g, 2, none⟩ v2).setCell ⟨g, 3, none⟩ v3).setCell ⟨g, 4, none⟩ v4).setCell ⟨g, 5, none⟩ v5).setCell ⟨g, 6, none⟩ v6).cell? ⟨g, 2, none⟩ = some v2) ∧ (∀ v0 v1 v2 v3 v4 v5 v6, (((((((W.setCell ⟨g, 0, none⟩ v0).setCell ⟨g, 1, none⟩ v1).setCell ⟨g, 2, none⟩ v2).setCell ⟨g, 3, none⟩ v3).setCell ⟨g, 4, none⟩ v4).setCell ⟨g, 5, none⟩ v5).setCell ⟨g, 6, none⟩ v6).cell? ⟨g, 3, none⟩ = some v3) ∧ (∀ v0 v1 v2 v3 v4 v5 v6, (((((((W.setCell ⟨g, 0, none⟩ v0).setCell ⟨g, 1, none⟩ v1).setCell ⟨g, 2, none⟩ v2).setCell ⟨g, 3, none⟩ v3).setCell ⟨g, 4, none⟩ v4).setCell ⟨g, 5, none⟩ v5).setCell ⟨g, 6, none⟩ v6).cell? ⟨g, 4, none⟩ = some v4) ∧ (∀ v0 v1 v2 v3 v4 v5 v6, (((((((W.setCell ⟨g, 0, none⟩ v0).setCell ⟨g, 1, none⟩ v1).setCell ⟨g, 2, none⟩ v2).setCell ⟨g, 3, none⟩ v3).setCell ⟨g, 4, none⟩ v4).setCell ⟨g, 5, none⟩ v5).setCell ⟨g, 6, none⟩ v6).cell? ⟨g, 5, none⟩ = some v5) ∧ (∀ v0 v1 v2 v3 v4 v5 v6, (((((((W.setCell ⟨g, 0, none⟩ v0).setCell ⟨g, 1, none⟩ v1).setCell ⟨g, 2, none⟩ v2).setCell ⟨g, 3, none⟩ v3).setCell ⟨g, 4, none⟩ v4).setCell ⟨g, 5, none⟩ v5).setCell ⟨g, 6, none⟩ v6).cell? ⟨g, 6, none⟩ = some v6) := by
  have b1 : ∀ v0, Blk (W.setCell ⟨g, 0, none⟩ v0) g t #[v0, z1, z2, z3, z4, z5, z6] := fun v0 => by simpa using h.set_ 0 v0
  have b2 : ∀ v0 v1, Blk ((W.setCell ⟨g, 0, none⟩ v0).setCell ⟨g, 1, none⟩ v1) g t #[v0, v1, z2, z3, z4, z5, z6] := fun v0 v1 => by simpa using (b1 v0).set_ 1 v1
  have b3 : ∀ v0 v1 v2, Blk (((W.setCell ⟨g, 0, none⟩ v0).setCell ⟨g, 1, none⟩ v1).setCell ⟨g, 2, none⟩ v2) g t #[v0, v1, v2, z3, z4, z5, z6] := fun v0 v1 v2 => by simpa using (b2 v0 v1).set_ 2 v2
  have b4 : ∀ v0 v1 v2 v3, Blk ((((W.setCell ⟨g, 0, none⟩ v0).setCell ⟨g, 1, none⟩ v1).setCell ⟨g, 2, none⟩ v2).setCell ⟨g, 3, none⟩ v3) g t #[v0, v1, v2, v3, z4, z5, z6] := fun v0 v1 v2 v3 => by simpa using (b3 v0 v1 v2).set_ 3 v3
  have b5 : ∀ v0 v1 v2 v3 v4, Blk (((((W.setCell ⟨g, 0, none⟩ v0).setCell ⟨g, 1, none⟩ v1).setCell ⟨g, 2, none⟩ v2).setCell ⟨g, 3, none⟩ v3).setCell ⟨g, 4, none⟩ v4) g t #[v0, v1, v2, v3, v4, z5, z6] := fun v0 v1 v2 v3 v4 => by simpa using (b4 v0 v1 v2 v3).set_ 4 v4
  have b6 : ∀ v0 v1 v2 v3 v4 v5, Blk ((((((W.setCell ⟨g, 0, none⟩ v0).setCell ⟨g, 1, none⟩ v1).setCell ⟨g, 2, none⟩ v2).setCell ⟨g, 3, none⟩ v3).setCell ⟨g, 4, none⟩ v4).setCell ⟨g, 5, none⟩ v5) g t #[v0, v1, v2, v3, v4, v5, z6] := fun v0 v1 v2 v3 v4 v5 => by simpa using (b5 v0 v1 v2 v3 v4).set_ 5 v5
  have b7 : ∀ v0 v1 v2 v3 v4 v5 v6, Blk (((((((W.setCell ⟨g, 0, none⟩ v0).setCell ⟨g, 1, none⟩ v1).setCell ⟨g, 2, none⟩ v2).setCell ⟨g, 3, none⟩ v3).setCell ⟨g, 4, none⟩ v4).setCell ⟨g, 5, none⟩ v5).setCell ⟨g, 6, none⟩ v6) g t #[v0, v1, v2, v3, v4, v5, v6] := fun v0 v1 v2 v3 v4 v5 v6 => by simpa using (b6 v0 v1 v2 v3 v4 v5).set_ 6 v6
  exact ⟨(by rw [h.cell]; rfl), (h.frozen 0), (fun v0 => by rw [(b1 v0).cell]; rfl), (fun v0 => (b1 v0).frozen 1), (fun v0 v1 => by rw [(b2 v0 v1).cell]; rfl), (fun v0 v1 => (b2 v0 v1).frozen 2), (fun v0 v1 v2 => by rw [(b3 v0 v1 v2).cell]; rfl), (fun v0 v1 v2 => (b3 v0 v1 v2).frozen 3), (fun v0 v1 v2 v3 => by rw [(b4 v0 v1 v2 v3).cell]; rfl), (fun v0 v1 v2 v3 => (b4 v0 v1 v2 v3).frozen 4), (fun v0 v1 v2 v3 v4 => by rw [(b5 v0 v1 v2 v3 v4).cell]; rfl), (fun v0 v1 v2 v3 v4 => (b5 v0 v1 v2 v3 v4).frozen 5), (fun v0 v1 v2 v3 v4 v5 => by rw [(b6 v0 v1 v2 v3 v4 v5).cell]; rfl), (fun v0 v1 v2 v3 v4 v5 => (b6 v0 v1 v2 v3 v4 v5).frozen 6), (fun v0 v1 v2 v3 v4 v5 v6 => by rw [(b7 v0 v1 v2 v3 v4 v5 v6).cell]; rfl), (fun v0 v1 v2 v3 v4 v5 v6 => by rw [(b7 v0 v1 v2 v3 v4 v5 v6).cell]; rfl), (fun v0 v1 v2 v3 v4 v5 v6 => by rw [(b7 v0 v1 v2 v3 v4 v5 v6).cell]; rfl), (fun v0 v1 v2 v3 v4 v5 v6 => by rw [(b7 v0 v1 v2 v3 v4 v5 v6).cell]; rfl), (fun v0 v1 v2 v3 v4 v5 v6 => by rw [(b7 v0 v1 v2 v3 v4 v5 v6).cell]; rfl), (fun v0 v1 v2 v3 v4 v5 v6 => by rw [(b7 v0 v1 v2 v3 v4 v5 v6).cell]; rfl), (fun v0 v1 v2 v3 v4 v5 v6 => by rw [(b7 v0 v1 v2 v3 v4 v5 v6).cell]; rfl)⟩
theorem blks_one (w : World) (t : TypeId) (cs : Array Value) : ∀ W, W = w.alloc (.cells cs t) → Blk W w.heap.size t cs ∧ Below w.heap.size w W ∧ W.heap.size = w.heap.size + 1 := by
  rintro W rfl
  exact ⟨Blk.new _ _ _, (Below.refl _ _).alloc (Nat.le_refl _) _, by simp⟩
theorem blks_two (w : World) (t u : TypeId) (cs ds : Array Value) : ∀ W, W = (w.alloc (.cells cs t)).alloc (.cells ds u) → Blk W w.heap.size t cs ∧ Blk W (w.heap.size + 1) u ds ∧ Below w.heap.size w W ∧ W.heap.size = w.heap.size + 2 := by
  rintro W rfl
  refine ⟨(Blk.new _ _ _).alloc _, by have := Blk.new (w.alloc (.cells cs t)) u ds; simpa using this, ((Below.refl _ _).alloc (Nat.le_refl _) _).alloc (by simp) _, by simp⟩
theorem blks_three (w : World) (t u v : TypeId) (cs ds es : Array Value) : ∀ W, W = ((w.alloc (.cells cs t)).alloc (.cells ds u)).alloc (.cells es v) → Blk W w.heap.size t cs ∧ Blk W (w.heap.size + 1) u ds ∧ Blk W (w.heap.size + 2) v es ∧ Below w.heap.size w W ∧ W.heap.size = w.heap.size + 3 := by
  rintro W rfl
  refine ⟨((Blk.new _ _ _).alloc _).alloc _, ?_, ?_, (((Below.refl _ _).alloc (Nat.le_refl _) _).alloc (by simp) _).alloc (by simp; omega) _, by simp⟩
  · have := (Blk.new (w.alloc (.cells cs t)) u ds).alloc (.cells es v)
    simpa using this
  · have := Blk.new ((w.alloc (.cells cs t)).alloc (.cells ds u)) v es
    simpa using this
end Go.Proofs.YtaaioengebaebaaGreatDoor
