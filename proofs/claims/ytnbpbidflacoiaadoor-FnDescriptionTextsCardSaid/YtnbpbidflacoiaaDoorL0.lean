/- General laws: a guarded operation is walked once, and its slot holds a guarded value; a pick of two tests is one test. -/
import Derived.WalkKit
import Derived.Outline
namespace Go.Proofs.YtnbpbidflacoiaaDoor
open Go Go.RowKit

/-- What a guarded operation leaves in its slot. -/
def gv (c : Bool) (v : Value) : Value := if c = true then v else undef
@[go_sem] theorem gv_of {c : Bool} {v : Value} (h : c = true) : gv c v = v := by rw [gv, if_pos h]
@[congr] theorem gv_congr {c : Bool} {u v : Value} (h : u = v) : gv c u = gv c v := by rw [h]
theorem gv_not {c : Bool} {v : Value} (h : c = false) : gv c v = undef := by rw [gv, if_neg (by simp [h])]

theorem wanted_of {ops : Array Oper} {tmps : Array Value} {o : Oper} {j : Nat} {b : Bool} {d : Tmp} {c : Bool}
    (hg : o.guard = some (j, b)) (hd : (ops[j]?).bind (·.dst) = some d) (ht : tmps[d]? = some (.bool c)) :
    Region.wanted o (yielded ops tmps) = (c == b) := by
  simp [Region.wanted, hg, yielded, hd, ht]

section
variable {P : Program} {ops : Array Oper} {Q : Exit → Act → World → Prop} {a : Act} {w : World} {rest : List Oper} {o : Oper} {j : Nat} {d : Tmp} {c g : Bool}
theorem at_list (h : wpList P ops Q (o :: rest) a w) : wpList P ops Q (o :: rest) a w := h
theorem gp_t (v : Value)
    (hg : o.guard = some (j, true)) (hd : (ops[j]?).bind (·.dst) = some d) (ht : a.tmps[d]? = some (.bool c))
    (hyes : c = true → (∀ u, gv c u = u) → ∀ K : Act → World → Prop, K (a.put o.dst v) w → o.wp P a w K Q)
    (h : ∀ a', a' = a.put o.dst (gv c v) → wpList P ops Q rest a' w) : wpList P ops Q (o :: rest) a w := by
  replace h := h _ rfl
  unfold wpList
  rw [wanted_of hg hd ht]
  cases c
  · simpa [gv] using h
  · simp only [beq_self_eq_true, if_true]
    refine .inl (hyes rfl (fun _ => gv_of rfl) _ ?_)
    simpa [gv] using h
theorem gp_f (v : Value)
    (hg : o.guard = some (j, false)) (hd : (ops[j]?).bind (·.dst) = some d) (ht : a.tmps[d]? = some (.bool c))
    (hyes : c = false → (∀ u, gv (!c) u = u) → ∀ K : Act → World → Prop, K (a.put o.dst v) w → o.wp P a w K Q)
    (h : ∀ a', a' = a.put o.dst (gv (!c) v) → wpList P ops Q rest a' w) : wpList P ops Q (o :: rest) a w := by
  replace h := h _ rfl
  unfold wpList
  rw [wanted_of hg hd ht]
  cases c
  · simp only [beq_self_eq_true, if_true]
    refine .inl (hyes rfl (fun _ => gv_of rfl) _ ?_)
    simpa [gv] using h
  · simpa [gv] using h
theorem gp_t2 (v : Value)
    (hg : o.guard = some (j, true)) (hd : (ops[j]?).bind (·.dst) = some d) (ht : a.tmps[d]? = some (gv g (.bool c)))
    (hyes : g = true → c = true → (∀ u, gv g u = u) → (∀ u, gv (g && c) u = u) → ∀ K : Act → World → Prop, K (a.put o.dst v) w → o.wp P a w K Q)
    (h : ∀ a', a' = a.put o.dst (gv (g && c) v) → wpList P ops Q rest a' w) : wpList P ops Q (o :: rest) a w := by
  replace h := h _ rfl
  cases hgb : g
  · unfold wpList
    have hf : Region.wanted o (yielded ops a.tmps) = false := by
      rw [gv_not hgb] at ht
      simp [Region.wanted, hg, yielded, hd, ht, undef]
    rw [hf]
    simpa [hgb, gv] using h
  · rw [gv_of hgb] at ht
    refine gp_t v hg hd ht (fun h1 _ => hyes hgb h1 (fun _ => gv_of hgb) (fun _ => gv_of (by rw [hgb, h1]; rfl))) ?_
    rintro _ rfl
    simpa [hgb] using h
theorem gp_f2 (v : Value)
    (hg : o.guard = some (j, false)) (hd : (ops[j]?).bind (·.dst) = some d) (ht : a.tmps[d]? = some (gv g (.bool c)))
    (hyes : g = true → c = false → (∀ u, gv g u = u) → (∀ u, gv (g && !c) u = u) → ∀ K : Act → World → Prop, K (a.put o.dst v) w → o.wp P a w K Q)
    (h : ∀ a', a' = a.put o.dst (gv (g && !c) v) → wpList P ops Q rest a' w) : wpList P ops Q (o :: rest) a w := by
  replace h := h _ rfl
  cases hgb : g
  · unfold wpList
    have hf : Region.wanted o (yielded ops a.tmps) = false := by
      rw [gv_not hgb] at ht
      simp [Region.wanted, hg, yielded, hd, ht, undef]
    rw [hf]
    simpa [hgb, gv] using h
  · rw [gv_of hgb] at ht
    refine gp_f v hg hd ht (fun h1 _ => hyes hgb h1 (fun _ => gv_of hgb) (fun _ => gv_of (by rw [hgb, h1]; rfl))) ?_
    rintro _ rfl
    simpa [hgb] using h

section
variable {K : Act → World → Prop} {p : Bool} {t x y : Operand}
theorem wp_move_to {v : Value} (ho : o.op = .move x) (hx : a.eval x = v) (h : K (a.put o.dst v) w) : o.wp P a w K Q := by
  subst hx
  unfold Oper.wp execOp; rw [ho]; exact h
theorem wp_pick_and (ho : o.op = .pick t x (.const (.bool false))) (hc : a.eval t = .bool c) (hx : c = true → a.eval x = .bool p)
    (h : K (a.put o.dst (.bool (c && p))) w) : o.wp P a w K Q := by
  unfold Oper.wp execOp
  rw [ho]
  simp only [hc, asBool]
  cases c
  · exact h
  · rw [hx rfl]; exact h
theorem wp_pick_or (ho : o.op = .pick t (.const (.bool true)) y) (hc : a.eval t = .bool c) (hy : c = false → a.eval y = .bool p)
    (h : K (a.put o.dst (.bool (c || p))) w) : o.wp P a w K Q := by
  unfold Oper.wp execOp
  rw [ho]
  simp only [hc, asBool]
  cases c
  · rw [hy rfl]; exact h
  · exact h
theorem pick_and (hg : o.guard = none) (ho : o.op = .pick t x (.const (.bool false))) (hc : a.eval t = .bool c) (hx : c = true → a.eval x = .bool p)
    (h : ∀ a', a' = a.put o.dst (.bool (c && p)) → wpList P ops Q rest a' w) : wpList P ops Q (o :: rest) a w :=
  wpList_plain hg fun _ hK => wp_pick_and ho hc hx (hK _ _ (h _ rfl))
theorem pick_or (hg : o.guard = none) (ho : o.op = .pick t (.const (.bool true)) y) (hc : a.eval t = .bool c) (hy : c = false → a.eval y = .bool p)
    (h : ∀ a', a' = a.put o.dst (.bool (c || p)) → wpList P ops Q rest a' w) : wpList P ops Q (o :: rest) a w :=
  wpList_plain hg fun _ hK => wp_pick_or ho hc hy (hK _ _ (h _ rfl))
end
section
variable {l : List Value} {ol : List Oper} {df : List Deferred} {dd : Tmp}
theorem gl_t (v : Value)
    (hg : o.guard = some (j, true)) (hd : (ol[j]?).bind (·.dst) = some d) (ht : l[d]? = some (.bool c)) (ho : o.dst = some dd)
    (hyes : c = true → (∀ u, gv c u = u) → ∀ K : Act → World → Prop, K ⟨(l.set dd v).toArray, df⟩ w → o.wp P ⟨l.toArray, df⟩ w K Q)
    (h : ∀ l', l' = l.set dd (gv c v) → wpList P ol.toArray Q rest ⟨l'.toArray, df⟩ w) : wpList P ol.toArray Q (o :: rest) ⟨l.toArray, df⟩ w :=
  gp_t v hg (by simpa using hd) (by simpa using ht) (fun h1 h2 K hK => hyes h1 h2 K (by simpa [Act.put, ho] using hK)) fun a' ha => by
    subst ha; simpa [Act.put, ho] using h _ rfl
theorem gl_f (v : Value)
    (hg : o.guard = some (j, false)) (hd : (ol[j]?).bind (·.dst) = some d) (ht : l[d]? = some (.bool c)) (ho : o.dst = some dd)
    (hyes : c = false → (∀ u, gv (!c) u = u) → ∀ K : Act → World → Prop, K ⟨(l.set dd v).toArray, df⟩ w → o.wp P ⟨l.toArray, df⟩ w K Q)
    (h : ∀ l', l' = l.set dd (gv (!c) v) → wpList P ol.toArray Q rest ⟨l'.toArray, df⟩ w) : wpList P ol.toArray Q (o :: rest) ⟨l.toArray, df⟩ w :=
  gp_f v hg (by simpa using hd) (by simpa using ht) (fun h1 h2 K hK => hyes h1 h2 K (by simpa [Act.put, ho] using hK)) fun a' ha => by
    subst ha; simpa [Act.put, ho] using h _ rfl
theorem gl_t2 (v : Value)
    (hg : o.guard = some (j, true)) (hd : (ol[j]?).bind (·.dst) = some d) (ht : l[d]? = some (gv g (.bool c))) (ho : o.dst = some dd)
    (hyes : g = true → c = true → (∀ u, gv g u = u) → (∀ u, gv (g && c) u = u) → ∀ K : Act → World → Prop, K ⟨(l.set dd v).toArray, df⟩ w → o.wp P ⟨l.toArray, df⟩ w K Q)
    (h : ∀ l', l' = l.set dd (gv (g && c) v) → wpList P ol.toArray Q rest ⟨l'.toArray, df⟩ w) : wpList P ol.toArray Q (o :: rest) ⟨l.toArray, df⟩ w :=
  gp_t2 v hg (by simpa using hd) (by simpa using ht) (fun h1 h2 h3 h4 K hK => hyes h1 h2 h3 h4 K (by simpa [Act.put, ho] using hK)) fun a' ha => by
    subst ha; simpa [Act.put, ho] using h _ rfl
theorem gl_f2 (v : Value)
    (hg : o.guard = some (j, false)) (hd : (ol[j]?).bind (·.dst) = some d) (ht : l[d]? = some (gv g (.bool c))) (ho : o.dst = some dd)
    (hyes : g = true → c = false → (∀ u, gv g u = u) → (∀ u, gv (g && !c) u = u) → ∀ K : Act → World → Prop, K ⟨(l.set dd v).toArray, df⟩ w → o.wp P ⟨l.toArray, df⟩ w K Q)
    (h : ∀ l', l' = l.set dd (gv (g && !c) v) → wpList P ol.toArray Q rest ⟨l'.toArray, df⟩ w) : wpList P ol.toArray Q (o :: rest) ⟨l.toArray, df⟩ w :=
  gp_f2 v hg (by simpa using hd) (by simpa using ht) (fun h1 h2 h3 h4 K hK => hyes h1 h2 h3 h4 K (by simpa [Act.put, ho] using hK)) fun a' ha => by
    subst ha; simpa [Act.put, ho] using h _ rfl
variable {p : Bool} {t x y : Tmp} {K : Act → World → Prop}
theorem lpick_and (hg : o.guard = none) (ho : o.op = .pick (.tmp t) (.tmp x) (.const (.bool false))) (hd : o.dst = some dd) (hc : l[t]? = some (.bool c)) (hx : c = true → l[x]? = some (.bool p))
    (h : ∀ l', l' = l.set dd (.bool (c && p)) → wpList P ol.toArray Q rest ⟨l'.toArray, df⟩ w) : wpList P ol.toArray Q (o :: rest) ⟨l.toArray, df⟩ w :=
  pick_and (c := c) (p := p) hg ho (by simp [Act.eval, hc]) (fun h1 => by simp [Act.eval, hx h1]) fun a' ha => by
    subst ha; simpa [Act.put, hd] using h _ rfl
theorem lpick_or (hg : o.guard = none) (ho : o.op = .pick (.tmp t) (.const (.bool true)) (.tmp y)) (hd : o.dst = some dd) (hc : l[t]? = some (.bool c)) (hy : c = false → l[y]? = some (.bool p))
    (h : ∀ l', l' = l.set dd (.bool (c || p)) → wpList P ol.toArray Q rest ⟨l'.toArray, df⟩ w) : wpList P ol.toArray Q (o :: rest) ⟨l.toArray, df⟩ w :=
  pick_or (c := c) (p := p) hg ho (by simp [Act.eval, hc]) (fun h1 => by simp [Act.eval, hy h1]) fun a' ha => by
    subst ha; simpa [Act.put, hd] using h _ rfl
theorem lmove {v : Value} (ho : o.op = .move (.tmp x)) (hd : o.dst = some dd) (hx : l[x]? = some v) (h : K ⟨(l.set dd v).toArray, df⟩ w) : o.wp P ⟨l.toArray, df⟩ w K Q :=
  wp_move_to (v := v) ho (by simp [Act.eval, hx]) (by simpa [Act.put, hd] using h)
theorem lwpick_and (ho : o.op = .pick (.tmp t) (.tmp x) (.const (.bool false))) (hd : o.dst = some dd) (hc : l[t]? = some (.bool c)) (hx : c = true → l[x]? = some (.bool p))
    (h : K ⟨(l.set dd (.bool (c && p))).toArray, df⟩ w) : o.wp P ⟨l.toArray, df⟩ w K Q :=
  wp_pick_and (c := c) (p := p) ho (by simp [Act.eval, hc]) (fun h1 => by simp [Act.eval, hx h1]) (by simpa [Act.put, hd] using h)
theorem lwpick_or (ho : o.op = .pick (.tmp t) (.const (.bool true)) (.tmp y)) (hd : o.dst = some dd) (hc : l[t]? = some (.bool c)) (hy : c = false → l[y]? = some (.bool p))
    (h : K ⟨(l.set dd (.bool (c || p))).toArray, df⟩ w) : o.wp P ⟨l.toArray, df⟩ w K Q :=
  wp_pick_or (c := c) (p := p) ho (by simp [Act.eval, hc]) (fun h1 => by simp [Act.eval, hy h1]) (by simpa [Act.put, hd] using h)
theorem gs {b : Bool} {v : Value} (h : b = true) : some (gv b v) = some v := by rw [gv_of h]
end
end

end Go.Proofs.YtnbpbidflacoiaaDoor
