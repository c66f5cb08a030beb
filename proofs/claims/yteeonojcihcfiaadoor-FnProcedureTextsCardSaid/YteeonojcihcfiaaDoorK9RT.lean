/- A region that draws its order and ends in a row of operations, each of which waits for the one ahead: those are walked as a list. -/
import Derived.Test.YteeonojcihcfiaaDoorRows
import Derived.Test.YteeonojcihcfiaaDoorK9GA
import Derived.WalkKit
import Derived.ProofKit
import Derived.OpenShut
import Derived.BigQuiet
import Derived.Outline
import Derived.WalkSpells
import Derived.WalkLawsBesides
import Derived.Deep.DeepCutAuto
import Derived.Test.YteeonojcihcfiaaDoorK9GB
namespace Go.Proofs.YteeonojcihcfiaaDoor
open Go

section
variable {P : Program} {Q : Exit → Act → World → Prop}
/-- Each operation waits for the one ahead. -/
def chained : Nat → List Oper → Bool
  | i, _ :: o2 :: os => waits o2 i && chained (i + 1) (o2 :: os)
  | _, _ => true
theorem chained_spec : ∀ (L : List Oper) (i k : Nat) (o : Oper), chained i L = true → L[k + 1]? = some o → waits o (i + k) = true := by
  intro L
  induction L with
  | nil => intro i k o _ h; simp at h
  | cons o1 os ih =>
    intro i k o hc hk
    cases os with
    | nil => simp at hk
    | cons o2 os =>
      rw [chained, Bool.and_eq_true] at hc
      cases k with
      | zero =>
        simp only [Nat.zero_add, List.getElem?_cons_succ, List.getElem?_cons_zero, Option.some.injEq] at hk
        subst hk
        exact hc.1
      | succ k =>
        have := ih (i + 1) k o hc.2 (by simpa using hk)
        rwa [show i + 1 + k = i + (k + 1) by omega] at this
theorem getD_either {l : Array Bool} {j : Nat} (h : j < l.size) (x y : Bool) : l.getD j x = l.getD j y := by simp [Array.getD, h]
theorem waits_dep {l : Array Bool} {o : Oper} {j : Nat} (hw : waits o j = true) (hd : ∀ e ∈ o.after, Region.binds .any e = true → l.getD e.on false = true) : l.getD j false = true := by
  obtain ⟨e, he, hb⟩ := List.any_eq_true.1 hw
  have he : e ∈ o.after := Array.mem_toList_iff.1 he
  simp only [Bool.and_eq_true, beq_iff_eq] at hb
  rw [← hb.2]
  exact hd e he hb.1
theorem wpAny_tail {full : List Oper} (ht : tidy 0 full = true) : ∀ (T : List Oper) (n : Nat), full.drop n = T → n ≤ full.length → (∀ k o, n ≤ k → full[k + 1]? = some o → waits o k = true) →
    ∀ (fuel : Nat) (l : Array Bool) (a : Act) (w : World), l.size = full.length → l.toList.count false ≤ fuel → (∀ j, j < n → l.getD j false = true) → (∀ j, n ≤ j → j < full.length → l.getD j true = false) →
      wpList P full.toArray Q T a w → wpAny P .any full.toArray Q fuel l a w := by
  intro T
  induction T with
  | nil =>
    intro n hd hn _ fuel l a w hsz _ hlo _ hw
    have hnl : full.length ≤ n := by simpa using hd
    refine wpAny_done (fun j => ?_) hw fuel
    by_cases hj : j < n
    · rw [getD_either (by omega) true false]; exact hlo j hj
    · have : ¬ j < l.size := by omega
      simp [Array.getD, this]
  | cons o T ih =>
    intro n hd hn hch fuel l a w hsz hc hlo hhi hw
    have hnl : n < full.length := by
      apply Decidable.byContradiction; intro h
      rw [List.drop_eq_nil_of_le (by omega)] at hd; cases hd
    have hno : full[n]? = some o := by
      have := congrArg (·[0]?) hd
      simpa using this
    have hun := hhi n (Nat.le_refl _) hnl
    have hx : n < l.size := by omega
    have hfn : l[n] = false := by simpa [Array.getD, hx] using hun
    cases fuel with
    | zero =>
      have h3 : false ∈ l.toList := by rw [← hfn]; simp
      have := List.count_pos_iff.2 h3
      omega
    | succ fuel =>
      refine ⟨fun hr => ?_, fun i hi => ?_⟩
      · have := all_listed ht hr n hnl
        rw [hun] at this; cases this
      · obtain ⟨h1, o', ho, hdeps⟩ := mem_ready.1 hi
        have ho' : full[i]? = some o' := by simpa using ho
        have hil : i < full.length := (List.getElem?_eq_some_iff.1 ho').1
        by_cases hin : i < n
        · have := hlo i hin
          rw [getD_either (by omega) false true, h1] at this; cases this
        by_cases he : i = n
        · subst he
          obtain rfl : o = o' := by rw [hno] at ho'; injection ho'
          refine wpOp_mono (fun a' w' hl => ?_) (show wpOp P full.toArray Q i (wpList P full.toArray Q T) a w by unfold wpOp; rw [ho]; exact hw)
          refine ih (i + 1) (by rw [← List.drop_drop, hd]; rfl) (by omega) (fun k o hk => hch k o (by omega)) fuel _ a' w' (by simpa using hsz) ?_ (fun j hj => ?_) (fun j hj hjl => ?_) hl
          · have : (l.setIfInBounds i true).toList.count false + 1 = l.toList.count false := by
              simp only [Array.toList_setIfInBounds]
              exact count_less l.toList i (by simp [hx, hfn])
            omega
          · by_cases e : j = i
            · subst e; simp [Array.getD, hx]
            · rw [getD_set_ne false (Ne.symm e)]; exact hlo j (by omega)
          · rw [getD_set_ne true (by omega)]; exact hhi j (by omega) hjl
        · exfalso
          have hw1 := hch (i - 1) o' (by omega) (by rw [show i - 1 + 1 = i by omega]; exact ho')
          have h2 := waits_dep hw1 hdeps
          have h3 := hhi (i - 1) (by omega) (by omega)
          rw [getD_either (by omega) false true, h3] at h2; cases h2

theorem wpAny_slotsT {L : List Oper} {last : Oper} {T : List Oper} {a : Act} {S : World → Prop} {R : World → World → Prop} {Ts : List (Value → World → Prop)} (ht : tidy 0 (L ++ last :: T) = true) (hf : fed 0 (L ++ [last]) = true) (hch : chained L.length (last :: T) = true)
    (hR : AllStable R Ts)
    (step : ∀ (i : Nat) (o : Oper) (p : Value → World → Prop), L[i]? = some o → Ts[i]? = some p → StepS P Q (L ++ last :: T).toArray (laid a (L ++ last :: T)) S R Ts p o) (hlen : Ts.length = L.length)
    (fin : ∀ f w, S w → (∀ (i : Nat) (p : Value → World → Prop), Ts[i]? = some p → p (f i) w) → wpList P (L ++ last :: T).toArray Q (last :: T) (laid a (L ++ last :: T) f) w) :
    ∀ (fuel : Nat) (l : Array Bool) (f : Nat → Value) (w : World), l.size = (L ++ last :: T).length → l.toList.count false ≤ fuel → S w → (∀ j, L.length ≤ j → j < (L ++ last :: T).length → l.getD j true = false) →
      (∀ (i : Nat) (o : Oper) (j : Nat), L[i]? = some o → l.getD i false = true → waits o j = true → l.getD j false = true) →
      (∀ (j : Nat) (p : Value → World → Prop), l.getD j false = true → Ts[j]? = some p → p (f j) w) →
      wpAny P .any (L ++ last :: T).toArray Q fuel l (laid a (L ++ last :: T) f) w := by
  intro fuel
  have hfl : (L ++ last :: T).length = L.length + 1 + T.length := by simp; omega
  have getD_lt : ∀ (l : Array Bool) i, l.getD i true = false → ∃ h : i < l.size, l[i] = false := by
    intro l i h
    by_cases hx : i < l.size
    · exact ⟨hx, by simpa [Array.getD, hx] using h⟩
    · rw [Array.getD, dif_neg hx] at h; cases h
  have chn : ∀ k o, L.length ≤ k → (L ++ last :: T)[k + 1]? = some o → waits o k = true := by
    intro k o hk ho
    rw [List.getElem?_append_right (by omega)] at ho
    obtain ⟨d, rfl⟩ : ∃ d, k = L.length + d := ⟨k - L.length, by omega⟩
    rw [show L.length + d + 1 - L.length = d + 1 by omega] at ho
    exact chained_spec _ _ d o hch ho
  induction fuel with
  | zero =>
    intro l f w hsz hc hS hun _ _
    obtain ⟨h1, h2⟩ := getD_lt l _ (hun L.length (Nat.le_refl _) (by omega))
    have h3 : false ∈ l.toList := by rw [← h2]; simp
    have := List.count_pos_iff.2 h3
    omega
  | succ fuel ih =>
    intro l f w hsz hc hS hun hcl hT
    have hunl := hun L.length (Nat.le_refl _) (by omega)
    refine ⟨fun hr => ?_, fun i hi => ?_⟩
    · have := all_listed ht hr L.length (by omega)
      rw [hunl] at this; cases this
    · obtain ⟨h1, o, ho, hdeps⟩ := mem_ready.1 hi
      obtain ⟨hx, h2⟩ := getD_lt l _ h1
      have hLi : (L ++ last :: T)[i]? = some o := by simpa using ho
      have hil2 : i < (L ++ last :: T).length := (List.getElem?_eq_some_iff.1 hLi).1
      have hw : ∀ j, waits o j = true → l.getD j false = true := fun j hj => waits_dep hj hdeps
      by_cases hlast : i = L.length
      · subst hlast
        obtain rfl : last = o := by simpa using hLi
        have hall : ∀ d j, j + d = L.length → 0 < d → l.getD j false = true := by
          intro d
          induction d using Nat.strongRecOn with
          | _ d ihd =>
            intro j hj hd
            obtain ⟨m, q, hm, hq, hwq⟩ := fed_spec (L ++ [last]) 0 j hf (by simp; omega)
            rw [Nat.zero_add] at hwq
            have hml : m < L.length + 1 := by
              obtain ⟨hmm, _⟩ := List.getElem?_eq_some_iff.1 hq
              simpa using hmm
            by_cases hme : m = L.length
            · subst hme
              obtain rfl : last = q := by simpa using hq
              exact hw j hwq
            · have hq' : L[m]? = some q := by rwa [List.getElem?_append_left (by omega)] at hq
              exact hcl m q j hq' (ihd (L.length - m) (by omega) m (by omega) (by omega)) hwq
        have hfin := fin f w hS (fun j p hp => by
          have hj : j < L.length := by
            obtain ⟨hmm, _⟩ := List.getElem?_eq_some_iff.1 hp
            omega
          exact hT j p (hall (L.length - j) j (by omega) (by omega)) hp)
        refine wpOp_mono (fun a' w' hl => ?_) (show wpOp P (L ++ last :: T).toArray Q L.length (wpList P (L ++ last :: T).toArray Q T) (laid a (L ++ last :: T) f) w by unfold wpOp; rw [ho]; exact hfin)
        refine wpAny_tail ht T (L.length + 1) (by simp) (by omega) (fun k o hk => chn k o (by omega)) fuel _ a' w' (by simpa using hsz) ?_ (fun j hj => ?_) (fun j hj hjl => ?_) hl
        · have : (l.setIfInBounds L.length true).toList.count false + 1 = l.toList.count false := by
            simp only [Array.toList_setIfInBounds]
            exact count_less l.toList L.length (by simp [hx, h2])
          omega
        · by_cases e : j = L.length
          · subst e; simp [Array.getD, hx]
          · rw [getD_set_ne false (Ne.symm e)]
            exact hall (L.length - j) j (by omega) (by omega)
        · rw [getD_set_ne true (by omega)]; exact hun j (by omega) hjl
      · by_cases hgt : L.length < i
        · exfalso
          have hw1 := chn (i - 1) o (by omega) (by rw [show i - 1 + 1 = i by omega]; exact hLi)
          have h3 := hw _ hw1
          have h4 := hun (i - 1) (by omega) (by omega)
          rw [getD_either (by omega) false true, h4] at h3; cases h3
        · have hil : i < L.length := by omega
          have hLi' : L[i]? = some o := by rwa [List.getElem?_append_left hil] at hLi
          obtain ⟨p, hp⟩ : ∃ p, Ts[i]? = some p := ⟨Ts[i]'(by omega), by simp⟩
          refine wpOp_step ho (fun K' hK => step i o p hLi' hp f w hS (fun j p' hj hp' => hT j p' (hw j hj) hp') K' ?_)
          intro v w' hv hS' hRw
          rw [laid_put a _ f v i o ht hLi]
          refine hK _ _ (ih _ _ _ (by simpa using hsz) ?_ hS' ?_ ?_ ?_)
          · have : (l.setIfInBounds i true).toList.count false + 1 = l.toList.count false := by
              simp only [Array.toList_setIfInBounds]
              exact count_less l.toList i (by simp [hx, h2])
            omega
          · intro j hj hjl
            rw [getD_set_ne true (by omega)]; exact hun j hj hjl
          · intro i' o' j ho' hl' hw'
            by_cases hji : j = i
            · subst hji; simp [Array.getD, hx]
            rw [getD_set_ne false (Ne.symm hji)]
            by_cases hii : i' = i
            · subst hii
              rw [hLi'] at ho'
              injection ho' with ho'
              subst ho'
              exact hw j hw'
            · rw [getD_set_ne false (Ne.symm hii)] at hl'
              exact hcl i' o' j ho' hl' hw'
          · intro j p' hj hp'
            by_cases hji : j = i
            · subst hji
              rw [hp] at hp'
              injection hp' with hp'
              subst hp'
              rw [upd_at]; exact hv
            · rw [upd_ne f v hji]
              refine hR p' (List.mem_of_getElem? hp') w w' _ hRw (hT j p' ?_ hp')
              rw [getD_set_ne false (Ne.symm hji)] at hj
              exact hj

/-- The same, up to a row of last operations. -/
def AllUpto (P : Program) (Q : Exit → Act → World → Prop) (ops : Array Oper) (mk : (Nat → Value) → Act) (S : World → Prop) (R : World → World → Prop) (Ts ps : List (Value → World → Prop)) (last : Oper) (T : List Oper) (Ls : List Oper) : Prop := ∃ L, Ls = L ++ last :: T ∧ AllSteps P Q ops mk S R Ts ps L ∧ fed 0 (L ++ [last]) = true ∧ chained L.length (last :: T) = true
theorem AllUpto.of {ops : Array Oper} {mk : (Nat → Value) → Act} {S : World → Prop} {R : World → World → Prop} {Ts ps : List (Value → World → Prop)} {last : Oper} {T Ls : List Oper} (n : Nat) (hs : AllSteps P Q ops mk S R Ts ps (Ls.take n)) (hd : Ls.drop n = last :: T) (hf : fed 0 (Ls.take (n + 1)) = true) (hc : chained n (Ls.drop n) = true) : AllUpto P Q ops mk S R Ts ps last T Ls := by
  have hn : n < Ls.length := by
    apply Decidable.byContradiction; intro h
    rw [List.drop_eq_nil_of_le (by omega)] at hd; cases hd
  have hl : (Ls.take n).length = n := by rw [List.length_take]; omega
  have h1 : Ls[n]? = some last := by
    have := congrArg (·[0]?) hd
    simpa using this
  have h2 : Ls.take (n + 1) = Ls.take n ++ [last] := by
    rw [List.take_add_one, h1]; rfl
  exact ⟨Ls.take n, by rw [← hd, List.take_append_drop], hs, by rw [← h2]; exact hf, by rw [hl, ← hd]; exact hc⟩

/-- **A region that draws its order and ends in a row of operations**: each operation ahead is shown once; the row is walked. -/
theorem wp_region_tail {id : Nat} {L0 : List Oper} {a : Act} {w : World} (S : World → Prop) (R : World → World → Prop) (Ts : List (Value → World → Prop)) (hm : P.follows .mixedOrders = true)
    (ht : tidy 0 L0 = true)
    (hS : S w.drew) (hR : AllStable R Ts) (m : (Nat → Value) → Array Value) (last : Oper) (T : List Oper)
    (hmk : ∀ f, lay f a.tmps 0 L0 = m f)
    (step : AllUpto P Q L0.toArray (fun f => ⟨m f, a.defers⟩) S R Ts Ts last T L0)
    (fin : ∀ f w, S w → (∀ (i : Nat) (p : Value → World → Prop), Ts[i]? = some p → p (f i) w) → wpList P L0.toArray Q (last :: T) ⟨m f, a.defers⟩ w) : (Code.region id L0.toArray true).wp P Q a w := by
  obtain ⟨L, rfl, step, hf, hch⟩ := step
  have hmk' : ∀ f, laid a (L ++ last :: T) f = ⟨m f, a.defers⟩ := fun f => by unfold laid; rw [hmk]
  have he : (fun f => (⟨m f, a.defers⟩ : Act)) = laid a (L ++ last :: T) := funext fun f => (hmk' f).symm
  rw [he] at step
  refine wp_region_any hm ?_
  have h0 : a = laid a (L ++ last :: T) (fun i => match (L ++ last :: T)[i]? with | some o => (match o.dst with | some d => a.tmps.getD d undef | none => undef) | none => undef) := by
    unfold laid
    rw [lay_own _ (L ++ last :: T) 0 a.tmps (fun k o d hk hd => by simp only [Nat.zero_add]; rw [hk]; simp only [hd])]
  have hno : ∀ j, (Array.replicate (L ++ last :: T).toArray.size false).getD j false = false := by
    intro j
    by_cases h : j < (L ++ last :: T).toArray.size <;> simp [Array.getD, h]
  have := wpAny_slotsT (P := P) (Q := Q) (a := a) ht hf hch hR step.2 step.1 (fun f w hs hT => by rw [hmk']; exact fin f w hs hT) (L ++ last :: T).toArray.size (Array.replicate (L ++ last :: T).toArray.size false)
    (fun i => match (L ++ last :: T)[i]? with | some o => (match o.dst with | some d => a.tmps.getD d undef | none => undef) | none => undef) w.drew (by simp) (by simp) hS (fun j _ hj => by simp at hj; simp [Array.getD, hj])
    (fun i o j _ h => by rw [hno] at h; cases h) (fun j p h => by rw [hno] at h; cases h)
  rw [← h0] at this
  exact this
end
end Go.Proofs.YteeonojcihcfiaaDoor
