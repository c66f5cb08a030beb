/- Merged: A region that draws its order, walked by what each operation leaves: each operation once, in whatever order. What the operations of a drawn region leave, in a draw of the reference: shapes that stay while the source alone turns. What the store of a struct of two to seven cells leaves, in a draw of the reference. -/
import Derived.Test.YtnbpbidflacoiaaDoorRows
import Derived.Test.YtnbpbidflacoiaaDoorL0
import Derived.Test.YtnbpbidflacoiaaDoorM0
import Derived.WalkKit
import Derived.ProofKit
import Derived.OpenShut
import Derived.BigQuiet
import Derived.Outline
import Derived.WalkSpells
import Derived.WalkLawsBesides
import Derived.Deep.DeepCutAuto
import Derived.Test.YtnbpbidflacoiaaDoorSA
import Derived.Test.YtnbpbidflacoiaaDoorFA
import Derived.Test.YtnbpbidflacoiaaDoorT0
import Derived.Deep.RegionHeld3
namespace Go.Proofs.YtnbpbidflacoiaaDoor
open Go

section
variable {P : Program} {Q : Exit → Act → World → Prop}

/-- Operation i leaves v. -/
def upd (f : Nat → Value) (i : Nat) (v : Value) : Nat → Value := fun j => if j = i then v else f j
theorem upd_at (f : Nat → Value) (i : Nat) (v : Value) : upd f i v i = v := by simp [upd]
theorem upd_ne (f : Nat → Value) {i j : Nat} (v : Value) (h : j ≠ i) : upd f i v j = f j := by simp [upd, h]
/-- The slots of operations number i and on, filled out of f. -/
def lay (f : Nat → Value) : Array Value → Nat → List Oper → Array Value
  | t, _, [] => t
  | t, i, o :: os => lay f (match o.dst with | some d => t.setIfInBounds d (f i) | none => t) (i + 1) os
/-- No two operations leave their value in one slot; each waits only for earlier ones. -/
def tidy : Nat → List Oper → Bool
  | _, [] => true
  | i, o :: os => (o.after.all fun e => !Region.binds .any e || decide (e.on < i)) && (match o.dst with | some d => os.all fun q => q.dst != some d | none => true) && tidy (i + 1) os

theorem lay_set (f : Nat → Value) (d : Nat) (v : Value) : ∀ (L : List Oper) (i : Nat) (t : Array Value), (L.all fun q => q.dst != some d) = true → (lay f t i L).setIfInBounds d v = lay f (t.setIfInBounds d v) i L := by
  intro L
  induction L with
  | nil => intro i t _; rfl
  | cons o os ih =>
    intro i t h
    simp only [List.all_cons, Bool.and_eq_true, bne_iff_ne, ne_eq] at h
    obtain ⟨h1, h2⟩ := h
    simp only [lay]
    rw [ih _ _ h2]
    congr 1
    cases hd : o.dst with
    | none => rfl
    | some d' =>
      have : d' ≠ d := fun e => h1 (by rw [hd, e])
      simp only
      rw [Array.setIfInBounds_comm _ _ this]
theorem lay_congr {f g : Nat → Value} : ∀ (L : List Oper) (i : Nat) (t : Array Value), (∀ j, i ≤ j → f j = g j) → lay f t i L = lay g t i L := by
  intro L
  induction L with
  | nil => intro i t _; rfl
  | cons o os ih =>
    intro i t h
    simp only [lay]
    rw [ih (i + 1) _ (fun j hj => h j (by omega)), h i (Nat.le_refl _)]
theorem lay_put (f : Nat → Value) (v : Value) : ∀ (L : List Oper) (i k : Nat) (t : Array Value) (o : Oper), tidy i L = true → L[k]? = some o →
    (match o.dst with | some d => (lay f t i L).setIfInBounds d v | none => lay f t i L) = lay (upd f (i + k) v) t i L := by
  intro L
  induction L with
  | nil => intro i k t o _ h; simp at h
  | cons o' os ih =>
    intro i k t o ht hk
    simp only [tidy, Bool.and_eq_true] at ht
    obtain ⟨⟨_, h1⟩, h2⟩ := ht
    cases k with
    | zero =>
      simp only [List.getElem?_cons_zero, Option.some.injEq] at hk
      subst hk
      simp only [lay, Nat.add_zero, upd_at]
      cases hd : o'.dst with
      | none =>
        simp only
        exact lay_congr os _ _ (fun j hj => (upd_ne f v (by omega)).symm)
      | some d =>
        rw [hd] at h1
        simp only at h1 ⊢
        rw [lay_set f d v os _ _ h1]
        rw [show (t.setIfInBounds d (f i)).setIfInBounds d v = t.setIfInBounds d v by
          rcases t with ⟨l⟩
          simp]
        exact lay_congr os _ _ (fun j hj => (upd_ne f v (by omega)).symm)
    | succ k =>
      simp only [List.getElem?_cons_succ] at hk
      simp only [lay]
      have := ih (i + 1) k (match o'.dst with | some d => t.setIfInBounds d (f i) | none => t) o h2 hk
      rw [this, show i + 1 + k = i + (k + 1) by omega, upd_ne f v (show i ≠ i + (k + 1) by omega)]
theorem lay_own (f : Nat → Value) : ∀ (L : List Oper) (i : Nat) (t : Array Value), (∀ k o d, L[k]? = some o → o.dst = some d → f (i + k) = t.getD d undef) → lay f t i L = t := by
  intro L
  induction L with
  | nil => intro i t _; rfl
  | cons o os ih =>
    intro i t h
    have h0 : (match o.dst with | some d => t.setIfInBounds d (f i) | none => t) = t := by
      cases hd : o.dst with
      | none => rfl
      | some d =>
        have := h 0 o d rfl hd
        simp only [Nat.add_zero] at this
        simp only
        rw [this]
        apply Array.ext
        · simp
        · intro j h3 h4
          rw [Array.getElem_setIfInBounds]
          split
          · rename_i e
            subst e
            simp [Array.getD, h4]
          · rfl
    simp only [lay]
    rw [h0]
    exact ih (i + 1) t (fun k o' d hk hd => by rw [show i + 1 + k = i + (k + 1) by omega]; exact h (k + 1) o' d (by simpa using hk) hd)

/-- The act with the operations' slots out of f. -/
def laid (a : Act) (L : List Oper) (f : Nat → Value) : Act := { a with tmps := lay f a.tmps 0 L }
theorem laid_put (a : Act) (L : List Oper) (f : Nat → Value) (v : Value) (i : Nat) (o : Oper) (ht : tidy 0 L = true) (hi : L[i]? = some o) : (laid a L f).put o.dst v = laid a L (upd f i v) := by
  have := lay_put f v L 0 i a.tmps o ht hi
  rw [Nat.zero_add] at this
  unfold laid Act.put
  cases hd : o.dst with
  | none => rw [hd] at this; simp only at this ⊢; rw [this]
  | some d => rw [hd] at this; simp only at this ⊢; rw [this]

theorem tidy_spec : ∀ (L : List Oper) (i k : Nat) (o : Oper), tidy i L = true → L[k]? = some o → ∀ e ∈ o.after, Region.binds .any e = true → e.on < i + k := by
  intro L
  induction L with
  | nil => intro i k o _ h; simp at h
  | cons o' os ih =>
    intro i k o ht hk e he hb
    simp only [tidy, Bool.and_eq_true] at ht
    obtain ⟨⟨h1, _⟩, h2⟩ := ht
    cases k with
    | zero =>
      simp only [List.getElem?_cons_zero, Option.some.injEq] at hk
      subst hk
      have := Array.all_eq_true_iff_forall_mem.1 h1 e he
      simpa [hb] using this
    | succ k =>
      have := ih (i + 1) k o h2 (by simpa using hk) e he hb
      omega
theorem all_listed {L : List Oper} {l : Array Bool} (ht : tidy 0 L = true) (hr : Region.ready .any L.toArray l = []) : ∀ j, j < L.length → l.getD j true = true := by
  intro j
  induction j using Nat.strongRecOn with
  | _ j ih =>
    intro hj
    cases hl : l.getD j true with
    | true => rfl
    | false =>
      exfalso
      have hm : j ∈ Region.ready .any L.toArray l := by
        rw [mem_ready]
        refine ⟨hl, L[j], by simp [hj], fun e he hb => ?_⟩
        have h1 := tidy_spec L 0 j L[j] ht (by simp [hj]) e he hb
        have h2 := ih e.on (by omega) (by omega)
        have h3 : e.on < l.size := by
          have hjs : j < l.size := by
            apply Decidable.byContradiction; intro hh
            rw [Array.getD, dif_neg hh] at hl; cases hl
          omega
        simpa [Array.getD, h3] using h2
      rw [hr] at hm
      cases hm

/-- Operation o waits for number j. -/
def waits (o : Oper) (j : Nat) : Bool := o.after.toList.any fun e => Region.binds .any e && e.on == j
/-- Every operation but the last is waited for. -/
def fed : Nat → List Oper → Bool
  | _, [] => true
  | _, [_] => true
  | i, _ :: os => os.any (fun q => waits q i) && fed (i + 1) os
theorem fed_spec : ∀ (L : List Oper) (i k : Nat), fed i L = true → k + 1 < L.length → ∃ m q, k < m ∧ L[m]? = some q ∧ waits q (i + k) = true := by
  intro L
  induction L with
  | nil => intro i k _ h; simp at h
  | cons o os ih =>
    intro i k hf hk
    cases os with
    | nil => simp at hk
    | cons o2 os =>
      simp only [fed, Bool.and_eq_true] at hf
      obtain ⟨h1, h2⟩ := hf
      cases k with
      | zero =>
        obtain ⟨q, hq, hw⟩ := List.any_eq_true.1 h1
        obtain ⟨n, hn, he⟩ := List.mem_iff_getElem.1 hq
        exact ⟨n + 1, q, by omega, by simp [← he, hn], by simpa using hw⟩
      | succ k =>
        obtain ⟨m, q, hm, hq, hw⟩ := ih (i + 1) k h2 (by simpa using hk)
        exact ⟨m + 1, q, by omega, by simpa using hq, by rw [show i + (k + 1) = i + 1 + k by omega]; exact hw⟩
/-- What is to be shown of one operation: it leaves a p-value, and the world as S says. -/
def StepS (P : Program) (Q : Exit → Act → World → Prop) (ops : Array Oper) (mk : (Nat → Value) → Act) (S : World → Prop) (R : World → World → Prop) (Ts : List (Value → World → Prop)) (p : Value → World → Prop) (o : Oper) : Prop :=
  ∀ (f : Nat → Value) (w : World), S w → (∀ (j : Nat) (p' : Value → World → Prop), waits o j = true → Ts[j]? = some p' → p' (f j) w) →
    ∀ K : Act → World → Prop, Shut (∀ v w', p v w' → S w' → R w w' → K ((mk f).put o.dst v) w') →
      if Region.wanted o (yielded ops (mk f).tmps) = true then Oper.wp P o (mk f) w K Q else K ((mk f).put o.dst undef) w
/-- What p says stays. -/
def StableS (R : World → World → Prop) (p : Value → World → Prop) : Prop := ∀ w w' v, R w w' → p v w → p v w'
theorem stable_pure {R : World → World → Prop} (p : Value → Prop) : StableS R (fun v _ => p v) := fun _ _ _ _ h => h
def AllStable (R : World → World → Prop) (Ts : List (Value → World → Prop)) : Prop := ∀ p ∈ Ts, StableS R p
theorem AllStable.nil {R : World → World → Prop} : AllStable R [] := fun _ h => by cases h
theorem AllStable.cons {R : World → World → Prop} {p : Value → World → Prop} {Ts : List (Value → World → Prop)} (h : StableS R p) (hs : AllStable R Ts) : AllStable R (p :: Ts) := fun q hq => by
  rcases List.mem_cons.1 hq with rfl | hq
  · exact h
  · exact hs q hq

theorem count_less : ∀ (l : List Bool) (i : Nat), l[i]? = some false → (l.set i true).count false + 1 = l.count false := by
  intro l
  induction l with
  | nil => intro i h; simp at h
  | cons x xs ih =>
    intro i h
    cases i with
    | zero =>
      simp only [List.getElem?_cons_zero, Option.some.injEq] at h
      subst h
      simp
    | succ i =>
      have := ih i (by simpa using h)
      simp only [List.set_cons_succ, List.count_cons]
      omega
theorem all_ready {L : List Oper} {l : Array Bool} (h : ∀ j, l.getD j true = true) : Region.ready .any L.toArray l = [] := by
  cases hr : Region.ready .any L.toArray l with
  | nil => rfl
  | cons x xs =>
    exfalso
    have hm : x ∈ Region.ready .any L.toArray l := by rw [hr]; exact List.mem_cons_self ..
    have h1 := (mem_ready.1 hm).1
    rw [h x] at h1
    cases h1
theorem wpAny_done {L : List Oper} {l : Array Bool} (h : ∀ j, l.getD j true = true) {a : Act} {w : World} (hq : Q .normal a w) : ∀ fuel, wpAny P .any L.toArray Q fuel l a w
  | 0 => ⟨all_ready h, hq⟩
  | _ + 1 => ⟨fun _ => hq, by rw [all_ready h]; simp⟩

theorem wpAny_slots {L : List Oper} {last : Oper} {a : Act} {S : World → Prop} {R : World → World → Prop} {Ts : List (Value → World → Prop)} (ht : tidy 0 (L ++ [last]) = true) (hf : fed 0 (L ++ [last]) = true)
    (hR : AllStable R Ts)
    (step : ∀ (i : Nat) (o : Oper) (p : Value → World → Prop), L[i]? = some o → Ts[i]? = some p → StepS P Q (L ++ [last]).toArray (laid a (L ++ [last])) S R Ts p o) (hlen : Ts.length = L.length)
    (fin : ∀ f w, S w → (∀ (i : Nat) (p : Value → World → Prop), Ts[i]? = some p → p (f i) w) → ∀ K : Act → World → Prop, Shut (∀ a' w', Q .normal a' w' → K a' w') →
      if Region.wanted last (yielded (L ++ [last]).toArray (laid a (L ++ [last]) f).tmps) = true then Oper.wp P last (laid a (L ++ [last]) f) w K Q else K ((laid a (L ++ [last]) f).put last.dst undef) w) :
    ∀ (fuel : Nat) (l : Array Bool) (f : Nat → Value) (w : World), l.size = L.length + 1 → l.toList.count false ≤ fuel → S w → l.getD L.length true = false →
      (∀ (i : Nat) (o : Oper) (j : Nat), L[i]? = some o → l.getD i false = true → waits o j = true → l.getD j false = true) →
      (∀ (j : Nat) (p : Value → World → Prop), l.getD j false = true → Ts[j]? = some p → p (f j) w) →
      wpAny P .any (L ++ [last]).toArray Q fuel l (laid a (L ++ [last]) f) w := by
  intro fuel
  have getD_lt : ∀ (l : Array Bool) i, l.getD i true = false → ∃ h : i < l.size, l[i] = false := by
    intro l i h
    by_cases hx : i < l.size
    · exact ⟨hx, by simpa [Array.getD, hx] using h⟩
    · rw [Array.getD, dif_neg hx] at h; cases h
  induction fuel with
  | zero =>
    intro l f w hsz hc hS hun _ _
    obtain ⟨h1, h2⟩ := getD_lt l _ hun
    have h3 : false ∈ l.toList := by rw [← h2]; simp
    have := List.count_pos_iff.2 h3
    omega
  | succ fuel ih =>
    intro l f w hsz hc hS hun hcl hT
    refine ⟨fun hr => ?_, fun i hi => ?_⟩
    · have := all_listed ht hr L.length (by simp)
      rw [hun] at this; cases this
    · obtain ⟨h1, o, ho, hdeps⟩ := mem_ready.1 hi
      obtain ⟨hx, h2⟩ := getD_lt l _ h1
      have hLi : (L ++ [last])[i]? = some o := by simpa using ho
      have hw : ∀ j, waits o j = true → l.getD j false = true := fun j hj => by
        obtain ⟨e, he, hb⟩ := List.any_eq_true.1 hj
        have he : e ∈ o.after := Array.mem_toList_iff.1 he
        simp only [Bool.and_eq_true, beq_iff_eq] at hb
        rw [← hb.2]
        exact hdeps e he hb.1
      by_cases hlast : i = L.length
      · subst hlast
        obtain rfl : last = o := by simpa using hLi
        have hall : ∀ d j, j + d = L.length → 0 < d → l.getD j false = true := by
          intro d
          induction d using Nat.strongRecOn with
          | _ d ihd =>
            intro j hj hd
            obtain ⟨m, q, hm, hq, hwq⟩ := fed_spec (L ++ [last]) 0 j hf (by simp; omega)
            rw [Nat.zero_add] at hwq
            have hml : m < L.length + 1 := by
              obtain ⟨hmm, _⟩ := List.getElem?_eq_some_iff.1 hq
              simpa using hmm
            by_cases hme : m = L.length
            · subst hme
              obtain rfl : last = q := by simpa using hq
              exact hw j hwq
            · have hq' : L[m]? = some q := by rwa [List.getElem?_append_left (by omega)] at hq
              exact hcl m q j hq' (ihd (L.length - m) (by omega) m (by omega) (by omega)) hwq
        refine wpOp_step ho (fun K' hK => fin f w hS (fun j p hp => ?_) K' ?_)
        · have hj : j < L.length := by
            obtain ⟨hmm, _⟩ := List.getElem?_eq_some_iff.1 hp
            omega
          exact hT j p (hall (L.length - j) j (by omega) (by omega)) hp
        · intro a' w' hq
          refine hK _ _ (wpAny_done (fun j => ?_) hq fuel)
          by_cases hj : j = L.length
          · subst hj
            simp [Array.getD, hx]
          · rw [getD_set_ne true (Ne.symm hj)]
            by_cases hjs : j < L.length
            · have := hall (L.length - j) j (by omega) (by omega)
              have h6 : j < l.size := by omega
              simpa [Array.getD, h6] using this
            · have h6 : ¬ j < l.size := by omega
              simp [Array.getD, h6]
      · have hil : i < L.length := by omega
        have hLi' : L[i]? = some o := by rwa [List.getElem?_append_left hil] at hLi
        obtain ⟨p, hp⟩ : ∃ p, Ts[i]? = some p := ⟨Ts[i]'(by omega), by simp⟩
        refine wpOp_step ho (fun K' hK => step i o p hLi' hp f w hS (fun j p' hj hp' => hT j p' (hw j hj) hp') K' ?_)
        intro v w' hv hS' hRw
        rw [laid_put a _ f v i o ht hLi]
        refine hK _ _ (ih _ _ _ (by simpa using hsz) ?_ hS' ?_ ?_ ?_)
        · have : (l.setIfInBounds i true).toList.count false + 1 = l.toList.count false := by
            simp only [Array.toList_setIfInBounds]
            exact count_less l.toList i (by simp [hx, h2])
          omega
        · rw [getD_set_ne true hlast]; exact hun
        · intro i' o' j ho' hl' hw'
          by_cases hji : j = i
          · subst hji; simp [Array.getD, hx]
          rw [getD_set_ne false (Ne.symm hji)]
          by_cases hii : i' = i
          · subst hii
            rw [hLi'] at ho'
            injection ho' with ho'
            subst ho'
            exact hw j hw'
          · rw [getD_set_ne false (Ne.symm hii)] at hl'
            exact hcl i' o' j ho' hl' hw'
        · intro j p' hj hp'
          by_cases hji : j = i
          · subst hji
            rw [hp] at hp'
            injection hp' with hp'
            subst hp'
            rw [upd_at]; exact hv
          · rw [upd_ne f v hji]
            refine hR p' (List.mem_of_getElem? hp') w w' _ hRw (hT j p' ?_ hp')
            rw [getD_set_ne false (Ne.symm hji)] at hj
            exact hj

/-- Each of a list's operations leaves its own shape. -/
def AllSteps (P : Program) (Q : Exit → Act → World → Prop) (ops : Array Oper) (mk : (Nat → Value) → Act) (S : World → Prop) (R : World → World → Prop) (Ts ps : List (Value → World → Prop)) (L : List Oper) : Prop := ps.length = L.length ∧ ∀ (i : Nat) (o : Oper) (p : Value → World → Prop), L[i]? = some o → ps[i]? = some p → StepS P Q ops mk S R Ts p o
theorem AllSteps.nil {ops : Array Oper} {mk : (Nat → Value) → Act} {S : World → Prop} {R : World → World → Prop} {Ts : List (Value → World → Prop)} : AllSteps P Q ops mk S R Ts [] [] := ⟨rfl, fun k o p h => by simp at h⟩
theorem AllSteps.cons {ops : Array Oper} {mk : (Nat → Value) → Act} {S : World → Prop} {R : World → World → Prop} {Ts ps : List (Value → World → Prop)} {p : Value → World → Prop} {o : Oper} {os : List Oper} (h : StepS P Q ops mk S R Ts p o) (hs : AllSteps P Q ops mk S R Ts ps os) : AllSteps P Q ops mk S R Ts (p :: ps) (o :: os) :=
  ⟨by simp [hs.1], fun k o' p' hk hp => by
    cases k with
    | zero =>
      simp only [List.getElem?_cons_zero, Option.some.injEq] at hk hp
      subst hk hp
      exact h
    | succ k => exact hs.2 k o' p' (by simpa using hk) (by simpa using hp)⟩

/-- The same, up to the last operation. -/
def AllTo (P : Program) (Q : Exit → Act → World → Prop) (ops : Array Oper) (mk : (Nat → Value) → Act) (S : World → Prop) (R : World → World → Prop) (Ts ps : List (Value → World → Prop)) (last : Oper) (Ls : List Oper) : Prop := ∃ L, Ls = L ++ [last] ∧ AllSteps P Q ops mk S R Ts ps L
theorem AllTo.nil {ops : Array Oper} {mk : (Nat → Value) → Act} {S : World → Prop} {R : World → World → Prop} {Ts : List (Value → World → Prop)} {last : Oper} : AllTo P Q ops mk S R Ts [] last [last] := ⟨[], rfl, AllSteps.nil⟩
theorem AllTo.cons {ops : Array Oper} {mk : (Nat → Value) → Act} {S : World → Prop} {R : World → World → Prop} {Ts ps : List (Value → World → Prop)} {p : Value → World → Prop} {last o : Oper} {os : List Oper} (h : StepS P Q ops mk S R Ts p o) (hs : AllTo P Q ops mk S R Ts ps last os) : AllTo P Q ops mk S R Ts (p :: ps) last (o :: os) := by
  obtain ⟨L, rfl, hL⟩ := hs
  exact ⟨o :: L, rfl, AllSteps.cons h hL⟩

/-- **A region that draws its order and ends in one operation that waits for all the others**: each operation is shown once. -/
theorem wp_region_slots {id : Nat} {L0 : List Oper} {a : Act} {w : World} (S : World → Prop) (R : World → World → Prop) (Ts : List (Value → World → Prop)) (hm : P.follows .mixedOrders = true)
    (ht : tidy 0 L0 = true) (hf : fed 0 L0 = true)
    (hS : S w.drew) (hR : AllStable R Ts) (m : (Nat → Value) → Array Value) (last : Oper)
    (hmk : ∀ f, lay f a.tmps 0 L0 = m f)
    (step : AllTo P Q L0.toArray (fun f => ⟨m f, a.defers⟩) S R Ts Ts last L0)
    (fin : ∀ f w, S w → (∀ (i : Nat) (p : Value → World → Prop), Ts[i]? = some p → p (f i) w) → ∀ K : Act → World → Prop, Shut (∀ a' w', Q .normal a' w' → K a' w') →
      if Region.wanted last (yielded L0.toArray (m f)) = true then Oper.wp P last ⟨m f, a.defers⟩ w K Q else K ((⟨m f, a.defers⟩ : Act).put last.dst undef) w) : (Code.region id L0.toArray true).wp P Q a w := by
  obtain ⟨L, rfl, step⟩ := step
  have hmk' : ∀ f, laid a (L ++ [last]) f = ⟨m f, a.defers⟩ := fun f => by unfold laid; rw [hmk]
  have he : (fun f => (⟨m f, a.defers⟩ : Act)) = laid a (L ++ [last]) := funext fun f => (hmk' f).symm
  rw [he] at step
  refine wp_region_any hm ?_
  have h0 : a = laid a (L ++ [last]) (fun i => match (L ++ [last])[i]? with | some o => (match o.dst with | some d => a.tmps.getD d undef | none => undef) | none => undef) := by
    unfold laid
    rw [lay_own _ (L ++ [last]) 0 a.tmps (fun k o d hk hd => by simp only [Nat.zero_add]; rw [hk]; simp only [hd])]
  have hno : ∀ j, (Array.replicate (L ++ [last]).toArray.size false).getD j false = false := by
    intro j
    by_cases h : j < (L ++ [last]).toArray.size <;> simp [Array.getD, h]
  have := wpAny_slots (P := P) (Q := Q) (a := a) ht hf hR step.2 step.1 (fun f w hs hT K hK => by rw [hmk']; exact fin f w hs hT K hK) (L ++ [last]).toArray.size (Array.replicate (L ++ [last]).toArray.size false)
    (fun i => match (L ++ [last])[i]? with | some o => (match o.dst with | some d => a.tmps.getD d undef | none => undef) | none => undef) w.drew (by simp) (by simp) hS (by simp [Array.getD])
    (fun i o j _ h => by rw [hno] at h; cases h) (fun j p h => by rw [hno] at h; cases h)
  rw [← h0] at this
  exact this
end
end Go.Proofs.YtnbpbidflacoiaaDoor

namespace Go.Proofs.YtnbpbidflacoiaaDoor
open Go.ChangeShapes Go.WideShapes Go.ChangeAt Go.RowKit

def isV (u : Value) : Value → World → Prop := fun v _ => v = u
def isInt (lo hi : Int) : Value → World → Prop := fun v _ => ∃ x : Int, v = .int .i64 x ∧ lo ≤ x ∧ x ≤ hi
def isStr (n : Nat) : Value → World → Prop := fun v _ => ∃ s : ByteArray, v = .string s ∧ s.size ≤ n
def isRow (t : TypeId) (N : Nat) (cs : List Value) : Value → World → Prop := fun v w => ∃ b, v = .slice (some ⟨b, 0, none⟩) cs.length cs.length ∧ N ≤ b ∧ Blk w b t cs.toArray
def isAt (t : TypeId) (N : Nat) (cs : List Value) : Value → World → Prop := fun v w => ∃ b k, v = .pointer (some ⟨b, k, none⟩) ∧ k < cs.length ∧ N ≤ b ∧ Blk w b t cs.toArray
def isBox (t : TypeId) (N : Nat) (cs : List Value) : Value → World → Prop := fun v w => ∃ b, v = .pointer (some ⟨b, 0, none⟩) ∧ N ≤ b ∧ Blk w b t cs.toArray
theorem stable_V (g : Nat) (u : Value) : StableS (fun w w' => Only w w' g) (isV u) := fun _ _ _ _ h => h
theorem stable_Int (g : Nat) (lo hi : Int) : StableS (fun w w' => Only w w' g) (isInt lo hi) := fun _ _ _ _ h => h
theorem stable_Str (g : Nat) (n : Nat) : StableS (fun w w' => Only w w' g) (isStr n) := fun _ _ _ _ h => h
theorem stable_Row (g : Nat) {N : Nat} (h : g < N) (t : TypeId) (cs : List Value) : StableS (fun w w' => Only w w' g) (isRow t N cs) := fun _ _ _ ho ⟨b, e, hb, hk⟩ => ⟨b, e, hb, hk.grown ho (by intro e; injection e with e; omega)⟩
theorem stable_At (g : Nat) {N : Nat} (h : g < N) (t : TypeId) (cs : List Value) : StableS (fun w w' => Only w w' g) (isAt t N cs) := fun _ _ _ ho ⟨b, k, e, hk, hb, hB⟩ => ⟨b, k, e, hk, hb, hB.grown ho (by intro e; injection e with e; omega)⟩
theorem stable_Box (g : Nat) {N : Nat} (h : g < N) (t : TypeId) (cs : List Value) : StableS (fun w w' => Only w w' g) (isBox t N cs) := fun _ _ _ ho ⟨b, e, hb, hk⟩ => ⟨b, e, hb, hk.grown ho (by intro e; injection e with e; omega)⟩
theorem strs_at {cs : List Value} {n : Nat} (h : cs.all (fun v => match v with | .string s => decide (s.size ≤ n) | _ => false) = true) {w : World} {b : Nat} {t : TypeId} (hb : Blk w b t cs.toArray) {k : Nat} (hk : k < cs.length) : ∃ s : ByteArray, w.cell? ⟨b, k, none⟩ = some (.string s) ∧ s.size ≤ n := by
  have h1 := List.all_eq_true.1 h cs[k] (List.getElem_mem hk)
  have h2 : w.cell? ⟨b, k, none⟩ = some cs[k] := by rw [hb.cell]; simp [hk]
  revert h1 h2
  generalize cs[k] = v
  intro h1 h2
  cases v <;> first | cases h1 | exact ⟨_, h2, of_decide_eq_true h1⟩
/-- What a step of a draw keeps. -/
def SrcOnly (w0 : World) (B g : Nat) (w : World) : Prop := Src w B g ∧ Only w0 w g
theorem SrcOnly.drew {w0 w : World} {B g : Nat} (h : SrcOnly w0 B g w) : SrcOnly w0 B g w.drew := ⟨h.1.below (Below.refl w.heap.size w).drew, only_drewN h.2 1⟩
theorem SrcOnly.go {w0 w w' : World} {B g : Nat} (h : SrcOnly w0 B g w) (hs : Src w' B g) (ho : Only w w' g) : SrcOnly w0 B g w' := ⟨hs, only_trans h.2 ho⟩
theorem SrcOnly.alloc {w0 w : World} {B g : Nat} (h : SrcOnly w0 B g w) (o : Obj) : SrcOnly w0 B g (w.alloc o) ∧ Only w (w.alloc o) g :=
  ⟨⟨h.1.alloc o, only_trans h.2 (only_of_below ((Below.refl w.heap.size w).alloc (Nat.le_refl _) o))⟩, only_of_below ((Below.refl w.heap.size w).alloc (Nat.le_refl _) o)⟩
end Go.Proofs.YtnbpbidflacoiaaDoor

namespace Go.Proofs.YtnbpbidflacoiaaDoor
open Go.ChangeShapes Go.WideShapes Go.ChangeAt Go.RowKit

theorem only_cell {a w : World} {g : Nat} (h : Only a w g) (r i : Nat) (hr : a.heap.size ≤ r) (u : Value) : Only a (w.setCell ⟨r, i, none⟩ u) g :=
  ⟨h.os, h.tape, h.output, by simpa [World.setCell] using h.size, fun j hj hne => (Below.heap_setCell w ⟨r, i, none⟩ u j (by rintro rfl; exact absurd hj (Nat.not_lt.2 hr))).trans (h.block j hj hne)⟩
theorem src_cell {w : World} {B g : Nat} (h : Src w B g) (r i : Nat) (hr : r ≠ g) (hB : B ≤ r) (u : Value) : Src (w.setCell ⟨r, i, none⟩ u) B g :=
  h.grown (only_set (only_refl w r) i u) (by intro e; injection e with e; exact hr e) (by intro k e; injection e with e; omega)
/-- What a store into block b keeps of a draw. -/
structure Kept (w0 W W' : World) (B g b : Nat) : Prop where
  size : W'.heap.size = W.heap.size
  src : Src W' B g
  only : Only w0 W' g
  blk : ∀ {r t cs}, r ≠ b → Blk W r t cs → Blk W' r t cs
  row : Only W W' b
theorem Kept.refl {w0 W : World} {B g b : Nat} (hs : Src W B g) (ho : Only w0 W g) : Kept w0 W W B g b := ⟨rfl, hs, ho, fun _ h => h, only_refl _ _⟩
theorem Kept.cell {w0 W W' : World} {B g b : Nat} (h : Kept w0 W W' B g b) (hb : w0.heap.size ≤ b) (hg : b ≠ g) (hB : B ≤ b) (i : Nat) (u : Value) : Kept w0 W (W'.setCell ⟨b, i, none⟩ u) B g b :=
  ⟨by simpa [World.setCell] using h.size, src_cell h.src b i hg hB u, only_cell h.only b i hb u, fun hr hk => (h.blk hr hk).far (p := ⟨b, i, none⟩) (by simpa using hr) u, only_set h.row i u⟩
theorem Kept.own {w0 W W' : World} {B g b : Nat} (h : Kept w0 W W' B g b) {base : Nat} {e : TypeId} {size n : Nat} {v : Value} {xs : List Value} (ho : W.ownsRow base e size v n xs) (hb : ∀ k, v.ownBlock = some k → k ≠ b) : W'.ownsRow base e size v n xs := by
  refine ho.kept h.row ?_
  cases hv : v.ownBlock with
  | none => exact .inl rfl
  | some k => exact .inr (by have := hb k hv; intro e; injection e with e; omega)
theorem stored_2 {w0 W : World} {B g b : Nat} {t : TypeId} {z0 z1 : Value} (h : Blk W b t #[z0, z1]) (hs : Src W B g) (ho : Only w0 W g) (hb : w0.heap.size ≤ b) (hg : b ≠ g) (hB : B ≤ b) (v0 v1 : Value) : ∀ W', W' = ((W.setCell ⟨b, 0, none⟩ v0).setCell ⟨b, 1, none⟩ v1) → Blk W' b t #[v0, v1] ∧ Kept w0 W W' B g b := by
  rintro _ rfl
  have h0 : Blk (W.setCell ⟨b, 0, none⟩ v0) b t #[v0, z1] := by simpa using (h).set_ 0 v0
  have h1 : Blk ((W.setCell ⟨b, 0, none⟩ v0).setCell ⟨b, 1, none⟩ v1) b t #[v0, v1] := by simpa using (h0).set_ 1 v1
  exact ⟨h1, (Kept.cell (Kept.cell (Kept.refl hs ho) hb hg hB 0 v0) hb hg hB 1 v1)⟩
theorem cell_2_0 {w0 W : World} {B g b : Nat} {t : TypeId} {z0 z1 : Value} (h : Blk W b t #[z0, z1]) (hs : Src W B g) (ho : Only w0 W g) (hb : w0.heap.size ≤ b) (hg : b ≠ g) (hB : B ≤ b) (u : Value) : ∀ W', W' = W.setCell ⟨b, 0, none⟩ u → Blk W' b t #[u, z1] ∧ Kept w0 W W' B g b := by
  rintro _ rfl
  exact ⟨by simpa using h.set_ 0 u, Kept.cell (Kept.refl hs ho) hb hg hB 0 u⟩
theorem cell_2_1 {w0 W : World} {B g b : Nat} {t : TypeId} {z0 z1 : Value} (h : Blk W b t #[z0, z1]) (hs : Src W B g) (ho : Only w0 W g) (hb : w0.heap.size ≤ b) (hg : b ≠ g) (hB : B ≤ b) (u : Value) : ∀ W', W' = W.setCell ⟨b, 1, none⟩ u → Blk W' b t #[z0, u] ∧ Kept w0 W W' B g b := by
  rintro _ rfl
  exact ⟨by simpa using h.set_ 1 u, Kept.cell (Kept.refl hs ho) hb hg hB 1 u⟩
theorem stored_3 {w0 W : World} {B g b : Nat} {t : TypeId} {z0 z1 z2 : Value} (h : Blk W b t #[z0, z1, z2]) (hs : Src W B g) (ho : Only w0 W g) (hb : w0.heap.size ≤ b) (hg : b ≠ g) (hB : B ≤ b) (v0 v1 v2 : Value) : ∀ W', W' = (((W.setCell ⟨b, 0, none⟩ v0).setCell ⟨b, 1, none⟩ v1).setCell ⟨b, 2, none⟩ v2) → Blk W' b t #[v0, v1, v2] ∧ Kept w0 W W' B g b := by
  rintro _ rfl
  have h0 : Blk (W.setCell ⟨b, 0, none⟩ v0) b t #[v0, z1, z2] := by simpa using (h).set_ 0 v0
  have h1 : Blk ((W.setCell ⟨b, 0, none⟩ v0).setCell ⟨b, 1, none⟩ v1) b t #[v0, v1, z2] := by simpa using (h0).set_ 1 v1
  have h2 : Blk (((W.setCell ⟨b, 0, none⟩ v0).setCell ⟨b, 1, none⟩ v1).setCell ⟨b, 2, none⟩ v2) b t #[v0, v1, v2] := by simpa using (h1).set_ 2 v2
  exact ⟨h2, (Kept.cell (Kept.cell (Kept.cell (Kept.refl hs ho) hb hg hB 0 v0) hb hg hB 1 v1) hb hg hB 2 v2)⟩
theorem cell_3_0 {w0 W : World} {B g b : Nat} {t : TypeId} {z0 z1 z2 : Value} (h : Blk W b t #[z0, z1, z2]) (hs : Src W B g) (ho : Only w0 W g) (hb : w0.heap.size ≤ b) (hg : b ≠ g) (hB : B ≤ b) (u : Value) : ∀ W', W' = W.setCell ⟨b, 0, none⟩ u → Blk W' b t #[u, z1, z2] ∧ Kept w0 W W' B g b := by
  rintro _ rfl
  exact ⟨by simpa using h.set_ 0 u, Kept.cell (Kept.refl hs ho) hb hg hB 0 u⟩
theorem cell_3_1 {w0 W : World} {B g b : Nat} {t : TypeId} {z0 z1 z2 : Value} (h : Blk W b t #[z0, z1, z2]) (hs : Src W B g) (ho : Only w0 W g) (hb : w0.heap.size ≤ b) (hg : b ≠ g) (hB : B ≤ b) (u : Value) : ∀ W', W' = W.setCell ⟨b, 1, none⟩ u → Blk W' b t #[z0, u, z2] ∧ Kept w0 W W' B g b := by
  rintro _ rfl
  exact ⟨by simpa using h.set_ 1 u, Kept.cell (Kept.refl hs ho) hb hg hB 1 u⟩
theorem cell_3_2 {w0 W : World} {B g b : Nat} {t : TypeId} {z0 z1 z2 : Value} (h : Blk W b t #[z0, z1, z2]) (hs : Src W B g) (ho : Only w0 W g) (hb : w0.heap.size ≤ b) (hg : b ≠ g) (hB : B ≤ b) (u : Value) : ∀ W', W' = W.setCell ⟨b, 2, none⟩ u → Blk W' b t #[z0, z1, u] ∧ Kept w0 W W' B g b := by
  rintro _ rfl
  exact ⟨by simpa using h.set_ 2 u, Kept.cell (Kept.refl hs ho) hb hg hB 2 u⟩
theorem stored_4 {w0 W : World} {B g b : Nat} {t : TypeId} {z0 z1 z2 z3 : Value} (h : Blk W b t #[z0, z1, z2, z3]) (hs : Src W B g) (ho : Only w0 W g) (hb : w0.heap.size ≤ b) (hg : b ≠ g) (hB : B ≤ b) (v0 v1 v2 v3 : Value) : ∀ W', W' = ((((W.setCell ⟨b, 0, none⟩ v0).setCell ⟨b, 1, none⟩ v1).setCell ⟨b, 2, none⟩ v2).setCell ⟨b, 3, none⟩ v3) → Blk W' b t #[v0, v1, v2, v3] ∧ Kept w0 W W' B g b := by
  rintro _ rfl
  have h0 : Blk (W.setCell ⟨b, 0, none⟩ v0) b t #[v0, z1, z2, z3] := by simpa using (h).set_ 0 v0
  have h1 : Blk ((W.setCell ⟨b, 0, none⟩ v0).setCell ⟨b, 1, none⟩ v1) b t #[v0, v1, z2, z3] := by simpa using (h0).set_ 1 v1
  have h2 : Blk (((W.setCell ⟨b, 0, none⟩ v0).setCell ⟨b, 1, none⟩ v1).setCell ⟨b, 2, none⟩ v2) b t #[v0, v1, v2, z3] := by simpa using (h1).set_ 2 v2
  have h3 : Blk ((((W.setCell ⟨b, 0, none⟩ v0).setCell ⟨b, 1, none⟩ v1).setCell ⟨b, 2, none⟩ v2).setCell ⟨b, 3, none⟩ v3) b t #[v0, v1, v2, v3] := by simpa using (h2).set_ 3 v3
  exact ⟨h3, (Kept.cell (Kept.cell (Kept.cell (Kept.cell (Kept.refl hs ho) hb hg hB 0 v0) hb hg hB 1 v1) hb hg hB 2 v2) hb hg hB 3 v3)⟩
theorem cell_4_0 {w0 W : World} {B g b : Nat} {t : TypeId} {z0 z1 z2 z3 : Value} (h : Blk W b t #[z0, z1, z2, z3]) (hs : Src W B g) (ho : Only w0 W g) (hb : w0.heap.size ≤ b) (hg : b ≠ g) (hB : B ≤ b) (u : Value) : ∀ W', W' = W.setCell ⟨b, 0, none⟩ u → Blk W' b t #[u, z1, z2, z3] ∧ Kept w0 W W' B g b := by
  rintro _ rfl
  exact ⟨by simpa using h.set_ 0 u, Kept.cell (Kept.refl hs ho) hb hg hB 0 u⟩
theorem cell_4_1 {w0 W : World} {B g b : Nat} {t : TypeId} {z0 z1 z2 z3 : Value} (h : Blk W b t #[z0, z1, z2, z3]) (hs : Src W B g) (ho : Only w0 W g) (hb : w0.heap.size ≤ b) (hg : b ≠ g) (hB : B ≤ b) (u : Value) : ∀ W', W' = W.setCell ⟨b, 1, none⟩ u → Blk W' b t #[z0, u, z2, z3] ∧ Kept w0 W W' B g b := by
  rintro _ rfl
  exact ⟨by simpa using h.set_ 1 u, Kept.cell (Kept.refl hs ho) hb hg hB 1 u⟩
theorem cell_4_2 {w0 W : World} {B g b : Nat} {t : TypeId} {z0 z1 z2 z3 : Value} (h : Blk W b t #[z0, z1, z2, z3]) (hs : Src W B g) (ho : Only w0 W g) (hb : w0.heap.size ≤ b) (hg : b ≠ g) (hB : B ≤ b) (u : Value) : ∀ W', W' = W.setCell ⟨b, 2, none⟩ u → Blk W' b t #[z0, z1, u, z3] ∧ Kept w0 W W' B g b := by
  rintro _ rfl
  exact ⟨by simpa using h.set_ 2 u, Kept.cell (Kept.refl hs ho) hb hg hB 2 u⟩
theorem cell_4_3 {w0 W : World} {B g b : Nat} {t : TypeId} {z0 z1 z2 z3 : Value} (h : Blk W b t #[z0, z1, z2, z3]) (hs : Src W B g) (ho : Only w0 W g) (hb : w0.heap.size ≤ b) (hg : b ≠ g) (hB : B ≤ b) (u : Value) : ∀ W', W' = W.setCell ⟨b, 3, none⟩ u → Blk W' b t #[z0, z1, z2, u] ∧ Kept w0 W W' B g b := by
  rintro _ rfl
  exact ⟨by simpa using h.set_ 3 u, Kept.cell (Kept.refl hs ho) hb hg hB 3 u⟩
theorem stored_5 {w0 W : World} {B g b : Nat} {t : TypeId} {z0 z1 z2 z3 z4 : Value} (h : Blk W b t #[z0, z1, z2, z3, z4]) (hs : Src W B g) (ho : Only w0 W g) (hb : w0.heap.size ≤ b) (hg : b ≠ g) (hB : B ≤ b) (v0 v1 v2 v3 v4 : Value) : ∀ W', W' = (((((W.setCell ⟨b, 0, none⟩ v0).setCell ⟨b, 1, none⟩ v1).setCell ⟨b, 2, none⟩ v2).setCell ⟨b, 3, none⟩ v3).setCell ⟨b, 4, none⟩ v4) → Blk W' b t #[v0, v1, v2, v3, v4] ∧ Kept w0 W W' B g b := by
  rintro _ rfl
  have h0 : Blk (W.setCell ⟨b, 0, none⟩ v0) b t #[v0, z1, z2, z3, z4] := by simpa using (h).set_ 0 v0
  have h1 : Blk ((W.setCell ⟨b, 0, none⟩ v0).setCell ⟨b, 1, none⟩ v1) b t #[v0, v1, z2, z3, z4] := by simpa using (h0).set_ 1 v1
  have h2 : Blk (((W.setCell ⟨b, 0, none⟩ v0).setCell ⟨b, 1, none⟩ v1).setCell ⟨b, 2, none⟩ v2) b t #[v0, v1, v2, z3, z4] := by simpa using (h1).set_ 2 v2
  have h3 : Blk ((((W.setCell ⟨b, 0, none⟩ v0).setCell ⟨b, 1, none⟩ v1).setCell ⟨b, 2, none⟩ v2).setCell ⟨b, 3, none⟩ v3) b t #[v0, v1, v2, v3, z4] := by simpa using (h2).set_ 3 v3
  have h4 : Blk (((((W.setCell ⟨b, 0, none⟩ v0).setCell ⟨b, 1, none⟩ v1).setCell ⟨b, 2, none⟩ v2).setCell ⟨b, 3, none⟩ v3).setCell ⟨b, 4, none⟩ v4) b t #[v0, v1, v2, v3, v4] := by simpa using (h3).set_ 4 v4
  exact ⟨h4, (Kept.cell (Kept.cell (Kept.cell (Kept.cell (Kept.cell (Kept.refl hs ho) hb hg hB 0 v0) hb hg hB 1 v1) hb hg hB 2 v2) hb hg hB 3 v3) hb hg hB 4 v4)⟩
theorem cell_5_0 {w0 W : World} {B g b : Nat} {t : TypeId} {z0 z1 z2 z3 z4 : Value} (h : Blk W b t #[z0, z1, z2, z3, z4]) (hs : Src W B g) (ho : Only w0 W g) (hb : w0.heap.size ≤ b) (hg : b ≠ g) (hB : B ≤ b) (u : Value) : ∀ W', W' = W.setCell ⟨b, 0, none⟩ u → Blk W' b t #[u, z1, z2, z3, z4] ∧ Kept w0 W W' B g b := by
  rintro _ rfl
  exact ⟨by simpa using h.set_ 0 u, Kept.cell (Kept.refl hs ho) hb hg hB 0 u⟩
theorem cell_5_1 {w0 W : World} {B g b : Nat} {t : TypeId} {z0 z1 z2 z3 z4 : Value} (h : Blk W b t #[z0, z1, z2, z3, z4]) (hs : Src W B g) (ho : Only w0 W g) (hb : w0.heap.size ≤ b) (hg : b ≠ g) (hB : B ≤ b) (u : Value) : ∀ W', W' = W.setCell ⟨b, 1, none⟩ u → Blk W' b t #[z0, u, z2, z3, z4] ∧ Kept w0 W W' B g b := by
  rintro _ rfl
  exact ⟨by simpa using h.set_ 1 u, Kept.cell (Kept.refl hs ho) hb hg hB 1 u⟩
theorem cell_5_2 {w0 W : World} {B g b : Nat} {t : TypeId} {z0 z1 z2 z3 z4 : Value} (h : Blk W b t #[z0, z1, z2, z3, z4]) (hs : Src W B g) (ho : Only w0 W g) (hb : w0.heap.size ≤ b) (hg : b ≠ g) (hB : B ≤ b) (u : Value) : ∀ W', W' = W.setCell ⟨b, 2, none⟩ u → Blk W' b t #[z0, z1, u, z3, z4] ∧ Kept w0 W W' B g b := by
  rintro _ rfl
  exact ⟨by simpa using h.set_ 2 u, Kept.cell (Kept.refl hs ho) hb hg hB 2 u⟩
theorem cell_5_3 {w0 W : World} {B g b : Nat} {t : TypeId} {z0 z1 z2 z3 z4 : Value} (h : Blk W b t #[z0, z1, z2, z3, z4]) (hs : Src W B g) (ho : Only w0 W g) (hb : w0.heap.size ≤ b) (hg : b ≠ g) (hB : B ≤ b) (u : Value) : ∀ W', W' = W.setCell ⟨b, 3, none⟩ u → Blk W' b t #[z0, z1, z2, u, z4] ∧ Kept w0 W W' B g b := by
  rintro _ rfl
  exact ⟨by simpa using h.set_ 3 u, Kept.cell (Kept.refl hs ho) hb hg hB 3 u⟩
theorem cell_5_4 {w0 W : World} {B g b : Nat} {t : TypeId} {z0 z1 z2 z3 z4 : Value} (h : Blk W b t #[z0, z1, z2, z3, z4]) (hs : Src W B g) (ho : Only w0 W g) (hb : w0.heap.size ≤ b) (hg : b ≠ g) (hB : B ≤ b) (u : Value) : ∀ W', W' = W.setCell ⟨b, 4, none⟩ u → Blk W' b t #[z0, z1, z2, z3, u] ∧ Kept w0 W W' B g b := by
  rintro _ rfl
  exact ⟨by simpa using h.set_ 4 u, Kept.cell (Kept.refl hs ho) hb hg hB 4 u⟩
theorem stored_6 {w0 W : World} {B g b : Nat} {t : TypeId} {z0 z1 z2 z3 z4 z5 : Value} (h : Blk W b t #[z0, z1, z2, z3, z4, z5]) (hs : Src W B g) (ho : Only w0 W g) (hb : w0.heap.size ≤ b) (hg : b ≠ g) (hB : B ≤ b) (v0 v1 v2 v3 v4 v5 : Value) : ∀ W', W' = ((((((W.setCell ⟨b, 0, none⟩ v0).setCell ⟨b, 1, none⟩ v1).setCell ⟨b, 2, none⟩ v2).setCell ⟨b, 3, none⟩ v3).setCell ⟨b, 4, none⟩ v4).setCell ⟨b, 5, none⟩ v5) → Blk W' b t #[v0, v1, v2, v3, v4, v5] ∧ Kept w0 W W' B g b := by
  rintro _ rfl
  have h0 : Blk (W.setCell ⟨b, 0, none⟩ v0) b t #[v0, z1, z2, z3, z4, z5] := by simpa using (h).set_ 0 v0
  have h1 : Blk ((W.setCell ⟨b, 0, none⟩ v0).setCell ⟨b, 1, none⟩ v1) b t #[v0, v1, z2, z3, z4, z5] := by simpa using (h0).set_ 1 v1
  have h2 : Blk (((W.setCell ⟨b, 0, none⟩ v0).setCell ⟨b, 1, none⟩ v1).setCell ⟨b, 2, none⟩ v2) b t #[v0, v1, v2, z3, z4, z5] := by simpa using (h1).set_ 2 v2
  have h3 : Blk ((((W.setCell ⟨b, 0, none⟩ v0).setCell ⟨b, 1, none⟩ v1).setCell ⟨b, 2, none⟩ v2).setCell ⟨b, 3, none⟩ v3) b t #[v0, v1, v2, v3, z4, z5] := by simpa using (h2).set_ 3 v3
  have h4 : Blk (((((W.setCell ⟨b, 0, none⟩ v0).setCell ⟨b, 1, none⟩ v1).setCell ⟨b, 2, none⟩ v2).setCell ⟨b, 3, none⟩ v3).setCell ⟨b, 4, none⟩ v4) b t #[v0, v1, v2, v3, v4, z5] := by simpa using (h3).set_ 4 v4
  have h5 : Blk ((((((W.setCell ⟨b, 0, none⟩ v0).setCell ⟨b, 1, none⟩ v1).setCell ⟨b, 2, none⟩ v2).setCell ⟨b, 3, none⟩ v3).setCell ⟨b, 4, none⟩ v4).setCell ⟨b, 5, none⟩ v5) b t #[v0, v1, v2, v3, v4, v5] := by simpa using (h4).set_ 5 v5
  exact ⟨h5, (Kept.cell (Kept.cell (Kept.cell (Kept.cell (Kept.cell (Kept.cell (Kept.refl hs ho) hb hg hB 0 v0) hb hg hB 1 v1) hb hg hB 2 v2) hb hg hB 3 v3) hb hg hB 4 v4) hb hg hB 5 v5)⟩
theorem cell_6_0 {w0 W : World} {B g b : Nat} {t : TypeId} {z0 z1 z2 z3 z4 z5 : Value} (h : Blk W b t #[z0, z1, z2, z3, z4, z5]) (hs : Src W B g) (ho : Only w0 W g) (hb : w0.heap.size ≤ b) (hg : b ≠ g) (hB : B ≤ b) (u : Value) : ∀ W', W' = W.setCell ⟨b, 0, none⟩ u → Blk W' b t #[u, z1, z2, z3, z4, z5] ∧ Kept w0 W W' B g b := by
  rintro _ rfl
  exact ⟨by simpa using h.set_ 0 u, Kept.cell (Kept.refl hs ho) hb hg hB 0 u⟩
theorem cell_6_1 {w0 W : World} {B g b : Nat} {t : TypeId} {z0 z1 z2 z3 z4 z5 : Value} (h : Blk W b t #[z0, z1, z2, z3, z4, z5]) (hs : Src W B g) (ho : Only w0 W g) (hb : w0.heap.size ≤ b) (hg : b ≠ g) (hB : B ≤ b) (u : Value) : ∀ W', W' = W.setCell ⟨b, 1, none⟩ u → Blk W' b t #[z0, u, z2, z3, z4, z5] ∧ Kept w0 W W' B g b := by
  rintro _ rfl
  exact ⟨by simpa using h.set_ 1 u, Kept.cell (Kept.refl hs ho) hb hg hB 1 u⟩
theorem cell_6_2 {w0 W : World} {B g b : Nat} {t : TypeId} {z0 z1 z2 z3 z4 z5 : Value} (h : Blk W b t #[z0, z1, z2, z3, z4, z5]) (hs : Src W B g) (ho : Only w0 W g) (hb : w0.heap.size ≤ b) (hg : b ≠ g) (hB : B ≤ b) (u : Value) : ∀ W', W' = W.setCell ⟨b, 2, none⟩ u → Blk W' b t #[z0, z1, u, z3, z4, z5] ∧ Kept w0 W W' B g b := by
  rintro _ rfl
  exact ⟨by simpa using h.set_ 2 u, Kept.cell (Kept.refl hs ho) hb hg hB 2 u⟩
theorem cell_6_3 {w0 W : World} {B g b : Nat} {t : TypeId} {z0 z1 z2 z3 z4 z5 : Value} (h : Blk W b t #[z0, z1, z2, z3, z4, z5]) (hs : Src W B g) (ho : Only w0 W g) (hb : w0.heap.size ≤ b) (hg : b ≠ g) (hB : B ≤ b) (u : Value) : ∀ W', W' = W.setCell ⟨b, 3, none⟩ u → Blk W' b t #[z0, z1, z2, u, z4, z5] ∧ Kept w0 W W' B g b := by
  rintro _ rfl
  exact ⟨by simpa using h.set_ 3 u, Kept.cell (Kept.refl hs ho) hb hg hB 3 u⟩
theorem cell_6_4 {w0 W : World} {B g b : Nat} {t : TypeId} {z0 z1 z2 z3 z4 z5 : Value} (h : Blk W b t #[z0, z1, z2, z3, z4, z5]) (hs : Src W B g) (ho : Only w0 W g) (hb : w0.heap.size ≤ b) (hg : b ≠ g) (hB : B ≤ b) (u : Value) : ∀ W', W' = W.setCell ⟨b, 4, none⟩ u → Blk W' b t #[z0, z1, z2, z3, u, z5] ∧ Kept w0 W W' B g b := by
  rintro _ rfl
  exact ⟨by simpa using h.set_ 4 u, Kept.cell (Kept.refl hs ho) hb hg hB 4 u⟩
theorem cell_6_5 {w0 W : World} {B g b : Nat} {t : TypeId} {z0 z1 z2 z3 z4 z5 : Value} (h : Blk W b t #[z0, z1, z2, z3, z4, z5]) (hs : Src W B g) (ho : Only w0 W g) (hb : w0.heap.size ≤ b) (hg : b ≠ g) (hB : B ≤ b) (u : Value) : ∀ W', W' = W.setCell ⟨b, 5, none⟩ u → Blk W' b t #[z0, z1, z2, z3, z4, u] ∧ Kept w0 W W' B g b := by
  rintro _ rfl
  exact ⟨by simpa using h.set_ 5 u, Kept.cell (Kept.refl hs ho) hb hg hB 5 u⟩
theorem stored_7 {w0 W : World} {B g b : Nat} {t : TypeId} {z0 z1 z2 z3 z4 z5 z6 : Value} (h : Blk W b t #[z0, z1, z2, z3, z4, z5, z6]) (hs : Src W B g) (ho : Only w0 W g) (hb : w0.heap.size ≤ b) (hg : b ≠ g) (hB : B ≤ b) (v0 v1 v2 v3 v4 v5 v6 : Value) : ∀ W', W' = (((((((W.setCell ⟨b, 0, none⟩ v0).setCell ⟨b, 1, none⟩ v1).setCell ⟨b, 2, none⟩ v2).setCell ⟨b, 3, none⟩ v3).setCell ⟨b, 4, none⟩ v4).setCell ⟨b, 5, none⟩ v5).setCell ⟨b, 6, none⟩ v6) → Blk W' b t #[v0, v1, v2, v3, v4, v5, v6] ∧ Kept w0 W W' B g b := by
  rintro _ rfl
  have h0 : Blk (W.setCell ⟨b, 0, none⟩ v0) b t #[v0, z1, z2, z3, z4, z5, z6] := by simpa using (h).set_ 0 v0
  have h1 : Blk ((W.setCell ⟨b, 0, none⟩ v0).setCell ⟨b, 1, none⟩ v1) b t #[v0, v1, z2, z3, z4, z5, z6] := by simpa using (h0).set_ 1 v1
  have h2 : Blk (((W.setCell ⟨b, 0, none⟩ v0).setCell ⟨b, 1, none⟩ v1).setCell ⟨b, 2, none⟩ v2) b t #[v0, v1, v2, z3, z4, z5, z6] := by simpa using (h1).set_ 2 v2
  have h3 : Blk ((((W.setCell ⟨b, 0, none⟩ v0).setCell ⟨b, 1, none⟩ v1).setCell ⟨b, 2, none⟩ v2).setCell ⟨b, 3, none⟩ v3) b t #[v0, v1, v2, v3, z4, z5, z6] := by simpa using (h2).set_ 3 v3
  have h4 : Blk (((((W.setCell ⟨b, 0, none⟩ v0).setCell ⟨b, 1, none⟩ v1).setCell ⟨b, 2, none⟩ v2).setCell ⟨b, 3, none⟩ v3).setCell ⟨b, 4, none⟩ v4) b t #[v0, v1, v2, v3, v4, z5, z6] := by simpa using (h3).set_ 4 v4
  have h5 : Blk ((((((W.setCell ⟨b, 0, none⟩ v0).setCell ⟨b, 1, none⟩ v1).setCell ⟨b, 2, none⟩ v2).setCell ⟨b, 3, none⟩ v3).setCell ⟨b, 4, none⟩ v4).setCell ⟨b, 5, none⟩ v5) b t #[v0, v1, v2, v3, v4, v5, z6] := by simpa using (h4).set_ 5 v5
  have h6 : Blk (((((((W.setCell ⟨b, 0, none⟩ v0).setCell ⟨b, 1, none⟩ v1).setCell ⟨b, 2, none⟩ v2).setCell ⟨b, 3, none⟩ v3).setCell ⟨b, 4, none⟩ v4).setCell ⟨b, 5, none⟩ v5).setCell ⟨b, 6, none⟩ v6) b t #[v0, v1, v2, v3, v4, v5, v6] := by simpa using (h5).set_ 6 v6
  exact ⟨h6, (Kept.cell (Kept.cell (Kept.cell (Kept.cell (Kept.cell (Kept.cell (Kept.cell (Kept.refl hs ho) hb hg hB 0 v0) hb hg hB 1 v1) hb hg hB 2 v2) hb hg hB 3 v3) hb hg hB 4 v4) hb hg hB 5 v5) hb hg hB 6 v6)⟩
theorem cell_7_0 {w0 W : World} {B g b : Nat} {t : TypeId} {z0 z1 z2 z3 z4 z5 z6 : Value} (h : Blk W b t #[z0, z1, z2, z3, z4, z5, z6]) (hs : Src W B g) (ho : Only w0 W g) (hb : w0.heap.size ≤ b) (hg : b ≠ g) (hB : B ≤ b) (u : Value) : ∀ W', W' = W.setCell ⟨b, 0, none⟩ u → Blk W' b t #[u, z1, z2, z3, z4, z5, z6] ∧ Kept w0 W W' B g b := by
  rintro _ rfl
  exact ⟨by simpa using h.set_ 0 u, Kept.cell (Kept.refl hs ho) hb hg hB 0 u⟩
theorem cell_7_1 {w0 W : World} {B g b : Nat} {t : TypeId} {z0 z1 z2 z3 z4 z5 z6 : Value} (h : Blk W b t #[z0, z1, z2, z3, z4, z5, z6]) (hs : Src W B g) (ho : Only w0 W g) (hb : w0.heap.size ≤ b) (hg : b ≠ g) (hB : B ≤ b) (u : Value) : ∀ W', W' = W.setCell ⟨b, 1, none⟩ u → Blk W' b t #[z0, u, z2, z3, z4, z5, z6] ∧ Kept w0 W W' B g b := by
  rintro _ rfl
  exact ⟨by simpa using h.set_ 1 u, Kept.cell (Kept.refl hs ho) hb hg hB 1 u⟩
theorem cell_7_2 {w0 W : World} {B g b : Nat} {t : TypeId} {z0 z1 z2 z3 z4 z5 z6 : Value} (h : Blk W b t #[z0, z1, z2, z3, z4, z5, z6]) (hs : Src W B g) (ho : Only w0 W g) (hb : w0.heap.size ≤ b) (hg : b ≠ g) (hB : B ≤ b) (u : Value) : ∀ W', W' = W.setCell ⟨b, 2, none⟩ u → Blk W' b t #[z0, z1, u, z3, z4, z5, z6] ∧ Kept w0 W W' B g b := by
  rintro _ rfl
  exact ⟨by simpa using h.set_ 2 u, Kept.cell (Kept.refl hs ho) hb hg hB 2 u⟩
theorem cell_7_3 {w0 W : World} {B g b : Nat} {t : TypeId} {z0 z1 z2 z3 z4 z5 z6 : Value} (h : Blk W b t #[z0, z1, z2, z3, z4, z5, z6]) (hs : Src W B g) (ho : Only w0 W g) (hb : w0.heap.size ≤ b) (hg : b ≠ g) (hB : B ≤ b) (u : Value) : ∀ W', W' = W.setCell ⟨b, 3, none⟩ u → Blk W' b t #[z0, z1, z2, u, z4, z5, z6] ∧ Kept w0 W W' B g b := by
  rintro _ rfl
  exact ⟨by simpa using h.set_ 3 u, Kept.cell (Kept.refl hs ho) hb hg hB 3 u⟩
theorem cell_7_4 {w0 W : World} {B g b : Nat} {t : TypeId} {z0 z1 z2 z3 z4 z5 z6 : Value} (h : Blk W b t #[z0, z1, z2, z3, z4, z5, z6]) (hs : Src W B g) (ho : Only w0 W g) (hb : w0.heap.size ≤ b) (hg : b ≠ g) (hB : B ≤ b) (u : Value) : ∀ W', W' = W.setCell ⟨b, 4, none⟩ u → Blk W' b t #[z0, z1, z2, z3, u, z5, z6] ∧ Kept w0 W W' B g b := by
  rintro _ rfl
  exact ⟨by simpa using h.set_ 4 u, Kept.cell (Kept.refl hs ho) hb hg hB 4 u⟩
theorem cell_7_5 {w0 W : World} {B g b : Nat} {t : TypeId} {z0 z1 z2 z3 z4 z5 z6 : Value} (h : Blk W b t #[z0, z1, z2, z3, z4, z5, z6]) (hs : Src W B g) (ho : Only w0 W g) (hb : w0.heap.size ≤ b) (hg : b ≠ g) (hB : B ≤ b) (u : Value) : ∀ W', W' = W.setCell ⟨b, 5, none⟩ u → Blk W' b t #[z0, z1, z2, z3, z4, u, z6] ∧ Kept w0 W W' B g b := by
  rintro _ rfl
  exact ⟨by simpa using h.set_ 5 u, Kept.cell (Kept.refl hs ho) hb hg hB 5 u⟩
theorem cell_7_6 {w0 W : World} {B g b : Nat} {t : TypeId} {z0 z1 z2 z3 z4 z5 z6 : Value} (h : Blk W b t #[z0, z1, z2, z3, z4, z5, z6]) (hs : Src W B g) (ho : Only w0 W g) (hb : w0.heap.size ≤ b) (hg : b ≠ g) (hB : B ≤ b) (u : Value) : ∀ W', W' = W.setCell ⟨b, 6, none⟩ u → Blk W' b t #[z0, z1, z2, z3, z4, z5, u] ∧ Kept w0 W W' B g b := by
  rintro _ rfl
  exact ⟨by simpa using h.set_ 6 u, Kept.cell (Kept.refl hs ho) hb hg hB 6 u⟩
theorem pairf_7_4 {W : World} {b : Nat} {t : TypeId} {z0 z1 z2 z3 z4 z5 z6 : Value} (h : Blk W b t #[z0, z1, z2, z3, z4, z5, z6]) : W.cell? ⟨b, 4, none⟩ = some z4 ∧ W.frozen? ⟨b, 4, none⟩ = false ∧ (∀ v, (W.setCell ⟨b, 4, none⟩ v).cell? ⟨b, 5, none⟩ = some z5) ∧ (∀ v, (W.setCell ⟨b, 4, none⟩ v).frozen? ⟨b, 5, none⟩ = false) := by
  have h1 : ∀ v, Blk (W.setCell ⟨b, 4, none⟩ v) b t #[z0, z1, z2, z3, v, z5, z6] := fun v => by simpa using h.set_ 4 v
  exact ⟨by rw [h.cell]; rfl, h.frozen _, fun v => by rw [(h1 v).cell]; rfl, fun v => (h1 v).frozen _⟩
theorem pair_7_4 {w0 W : World} {B g b : Nat} {t : TypeId} {z0 z1 z2 z3 z4 z5 z6 : Value} (h : Blk W b t #[z0, z1, z2, z3, z4, z5, z6]) (hs : Src W B g) (ho : Only w0 W g) (hb : w0.heap.size ≤ b) (hg : b ≠ g) (hB : B ≤ b) (v u : Value) : ∀ W', W' = (W.setCell ⟨b, 4, none⟩ v).setCell ⟨b, 5, none⟩ u → Blk W' b t #[z0, z1, z2, z3, v, u, z6] ∧ Kept w0 W W' B g b := by
  rintro _ rfl
  have h1 : Blk (W.setCell ⟨b, 4, none⟩ v) b t #[z0, z1, z2, z3, v, z5, z6] := by simpa using h.set_ 4 v
  exact ⟨by simpa using h1.set_ 5 u, Kept.cell (Kept.cell (Kept.refl hs ho) hb hg hB 4 v) hb hg hB 5 u⟩
theorem pairf_4_1 {W : World} {b : Nat} {t : TypeId} {z0 z1 z2 z3 : Value} (h : Blk W b t #[z0, z1, z2, z3]) : W.cell? ⟨b, 1, none⟩ = some z1 ∧ W.frozen? ⟨b, 1, none⟩ = false ∧ (∀ v, (W.setCell ⟨b, 1, none⟩ v).cell? ⟨b, 2, none⟩ = some z2) ∧ (∀ v, (W.setCell ⟨b, 1, none⟩ v).frozen? ⟨b, 2, none⟩ = false) := by
  have h1 : ∀ v, Blk (W.setCell ⟨b, 1, none⟩ v) b t #[z0, v, z2, z3] := fun v => by simpa using h.set_ 1 v
  exact ⟨by rw [h.cell]; rfl, h.frozen _, fun v => by rw [(h1 v).cell]; rfl, fun v => (h1 v).frozen _⟩
theorem pair_4_1 {w0 W : World} {B g b : Nat} {t : TypeId} {z0 z1 z2 z3 : Value} (h : Blk W b t #[z0, z1, z2, z3]) (hs : Src W B g) (ho : Only w0 W g) (hb : w0.heap.size ≤ b) (hg : b ≠ g) (hB : B ≤ b) (v u : Value) : ∀ W', W' = (W.setCell ⟨b, 1, none⟩ v).setCell ⟨b, 2, none⟩ u → Blk W' b t #[z0, v, u, z3] ∧ Kept w0 W W' B g b := by
  rintro _ rfl
  have h1 : Blk (W.setCell ⟨b, 1, none⟩ v) b t #[z0, v, z2, z3] := by simpa using h.set_ 1 v
  exact ⟨by simpa using h1.set_ 2 u, Kept.cell (Kept.cell (Kept.refl hs ho) hb hg hB 1 v) hb hg hB 2 u⟩
end Go.Proofs.YtnbpbidflacoiaaDoor
