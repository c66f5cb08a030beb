/- As XRT's rule, but the slots of the last operations keep what they hold: for regions that read a slot which their last operation assigns. -/
import Derived.Test.YteeonojcihcfiaaDoorRows
import Derived.Test.YteeonojcihcfiaaDoorK9GA
import Derived.WalkKit
import Derived.ProofKit
import Derived.OpenShut
import Derived.BigQuiet
import Derived.Outline
import Derived.WalkSpells
import Derived.WalkLawsBesides
import Derived.Deep.DeepCutAuto
import Derived.Test.YteeonojcihcfiaaDoorK9RT
namespace Go.Proofs.YteeonojcihcfiaaDoor
open Go

theorem tidy_front : ∀ {L R : List Oper} {i : Nat}, tidy i (L ++ R) = true → tidy i L = true := by
  intro L
  induction L with
  | nil => intro R i _; rfl
  | cons o os ih =>
    intro R i h
    simp only [List.cons_append, tidy, Bool.and_eq_true] at h ⊢
    refine ⟨⟨h.1.1, ?_⟩, ih h.2⟩
    have h2 := h.1.2
    cases hd : o.dst with
    | none => rfl
    | some d =>
      rw [hd] at h2
      simp only [List.all_append, Bool.and_eq_true] at h2
      exact h2.1
section
variable {P : Program} {Q : Exit → Act → World → Prop}
theorem wpAny_slotsK {L : List Oper} {last : Oper} {T : List Oper} {a : Act} {S : World → Prop} {R : World → World → Prop} {Ts : List (Value → World → Prop)} (ht : tidy 0 (L ++ last :: T) = true) (hf : fed 0 (L ++ [last]) = true) (hch : chained L.length (last :: T) = true)
    (hR : AllStable R Ts)
    (step : ∀ (i : Nat) (o : Oper) (p : Value → World → Prop), L[i]? = some o → Ts[i]? = some p → StepS P Q (L ++ last :: T).toArray (laid a L) S R Ts p o) (hlen : Ts.length = L.length)
    (fin : ∀ f w, S w → (∀ (i : Nat) (p : Value → World → Prop), Ts[i]? = some p → p (f i) w) → wpList P (L ++ last :: T).toArray Q (last :: T) (laid a L f) w) :
    ∀ (fuel : Nat) (l : Array Bool) (f : Nat → Value) (w : World), l.size = (L ++ last :: T).length → l.toList.count false ≤ fuel → S w → (∀ j, L.length ≤ j → j < (L ++ last :: T).length → l.getD j true = false) →
      (∀ (i : Nat) (o : Oper) (j : Nat), L[i]? = some o → l.getD i false = true → waits o j = true → l.getD j false = true) →
      (∀ (j : Nat) (p : Value → World → Prop), l.getD j false = true → Ts[j]? = some p → p (f j) w) →
      wpAny P .any (L ++ last :: T).toArray Q fuel l (laid a L f) w := by
  intro fuel
  have hfl : (L ++ last :: T).length = L.length + 1 + T.length := by simp; omega
  have getD_lt : ∀ (l : Array Bool) i, l.getD i true = false → ∃ h : i < l.size, l[i] = false := by
    intro l i h
    by_cases hx : i < l.size
    · exact ⟨hx, by simpa [Array.getD, hx] using h⟩
    · rw [Array.getD, dif_neg hx] at h; cases h
  have chn : ∀ k o, L.length ≤ k → (L ++ last :: T)[k + 1]? = some o → waits o k = true := by
    intro k o hk ho
    rw [List.getElem?_append_right (by omega)] at ho
    obtain ⟨d, rfl⟩ : ∃ d, k = L.length + d := ⟨k - L.length, by omega⟩
    rw [show L.length + d + 1 - L.length = d + 1 by omega] at ho
    exact chained_spec _ _ d o hch ho
  induction fuel with
  | zero =>
    intro l f w hsz hc hS hun _ _
    obtain ⟨h1, h2⟩ := getD_lt l _ (hun L.length (Nat.le_refl _) (by omega))
    have h3 : false ∈ l.toList := by rw [← h2]; simp
    have := List.count_pos_iff.2 h3
    omega
  | succ fuel ih =>
    intro l f w hsz hc hS hun hcl hT
    have hunl := hun L.length (Nat.le_refl _) (by omega)
    refine ⟨fun hr => ?_, fun i hi => ?_⟩
    · have := all_listed ht hr L.length (by omega)
      rw [hunl] at this; cases this
    · obtain ⟨h1, o, ho, hdeps⟩ := mem_ready.1 hi
      obtain ⟨hx, h2⟩ := getD_lt l _ h1
      have hLi : (L ++ last :: T)[i]? = some o := by simpa using ho
      have hil2 : i < (L ++ last :: T).length := (List.getElem?_eq_some_iff.1 hLi).1
      have hw : ∀ j, waits o j = true → l.getD j false = true := fun j hj => waits_dep hj hdeps
      by_cases hlast : i = L.length
      · subst hlast
        obtain rfl : last = o := by simpa using hLi
        have hall : ∀ d j, j + d = L.length → 0 < d → l.getD j false = true := by
          intro d
          induction d using Nat.strongRecOn with
          | _ d ihd =>
            intro j hj hd
            obtain ⟨m, q, hm, hq, hwq⟩ := fed_spec (L ++ [last]) 0 j hf (by simp; omega)
            rw [Nat.zero_add] at hwq
            have hml : m < L.length + 1 := by
              obtain ⟨hmm, _⟩ := List.getElem?_eq_some_iff.1 hq
              simpa using hmm
            by_cases hme : m = L.length
            · subst hme
              obtain rfl : last = q := by simpa using hq
              exact hw j hwq
            · have hq' : L[m]? = some q := by rwa [List.getElem?_append_left (by omega)] at hq
              exact hcl m q j hq' (ihd (L.length - m) (by omega) m (by omega) (by omega)) hwq
        have hfin := fin f w hS (fun j p hp => by
          have hj : j < L.length := by
            obtain ⟨hmm, _⟩ := List.getElem?_eq_some_iff.1 hp
            omega
          exact hT j p (hall (L.length - j) j (by omega) (by omega)) hp)
        refine wpOp_mono (fun a' w' hl => ?_) (show wpOp P (L ++ last :: T).toArray Q L.length (wpList P (L ++ last :: T).toArray Q T) (laid a L f) w by unfold wpOp; rw [ho]; exact hfin)
        refine wpAny_tail ht T (L.length + 1) (by simp) (by omega) (fun k o hk => chn k o (by omega)) fuel _ a' w' (by simpa using hsz) ?_ (fun j hj => ?_) (fun j hj hjl => ?_) hl
        · have : (l.setIfInBounds L.length true).toList.count false + 1 = l.toList.count false := by
            simp only [Array.toList_setIfInBounds]
            exact count_less l.toList L.length (by simp [hx, h2])
          omega
        · by_cases e : j = L.length
          · subst e; simp [Array.getD, hx]
          · rw [getD_set_ne false (Ne.symm e)]
            exact hall (L.length - j) j (by omega) (by omega)
        · rw [getD_set_ne true (by omega)]; exact hun j (by omega) hjl
      · by_cases hgt : L.length < i
        · exfalso
          have hw1 := chn (i - 1) o (by omega) (by rw [show i - 1 + 1 = i by omega]; exact hLi)
          have h3 := hw _ hw1
          have h4 := hun (i - 1) (by omega) (by omega)
          rw [getD_either (by omega) false true, h4] at h3; cases h3
        · have hil : i < L.length := by omega
          have hLi' : L[i]? = some o := by rwa [List.getElem?_append_left hil] at hLi
          obtain ⟨p, hp⟩ : ∃ p, Ts[i]? = some p := ⟨Ts[i]'(by omega), by simp⟩
          refine wpOp_step ho (fun K' hK => step i o p hLi' hp f w hS (fun j p' hj hp' => hT j p' (hw j hj) hp') K' ?_)
          intro v w' hv hS' hRw
          rw [laid_put a _ f v i o (tidy_front ht) hLi']
          refine hK _ _ (ih _ _ _ (by simpa using hsz) ?_ hS' ?_ ?_ ?_)
          · have : (l.setIfInBounds i true).toList.count false + 1 = l.toList.count false := by
              simp only [Array.toList_setIfInBounds]
              exact count_less l.toList i (by simp [hx, h2])
            omega
          · intro j hj hjl
            rw [getD_set_ne true (by omega)]; exact hun j hj hjl
          · intro i' o' j ho' hl' hw'
            by_cases hji : j = i
            · subst hji; simp [Array.getD, hx]
            rw [getD_set_ne false (Ne.symm hji)]
            by_cases hii : i' = i
            · subst hii
              rw [hLi'] at ho'
              injection ho' with ho'
              subst ho'
              exact hw j hw'
            · rw [getD_set_ne false (Ne.symm hii)] at hl'
              exact hcl i' o' j ho' hl' hw'
          · intro j p' hj hp'
            by_cases hji : j = i
            · subst hji
              rw [hp] at hp'
              injection hp' with hp'
              subst hp'
              rw [upd_at]; exact hv
            · rw [upd_ne f v hji]
              refine hR p' (List.mem_of_getElem? hp') w w' _ hRw (hT j p' ?_ hp')
              rw [getD_set_ne false (Ne.symm hji)] at hj
              exact hj

/-- **A region that draws its order and ends in a row of operations**: each operation ahead is shown once; the row is walked. -/
theorem wp_region_keep {id : Nat} {L0 : List Oper} {a : Act} {w : World} (S : World → Prop) (R : World → World → Prop) (Ts : List (Value → World → Prop)) (hm : P.follows .mixedOrders = true)
    (ht : tidy 0 L0 = true)
    (hS : S w.drew) (hR : AllStable R Ts) (m : (Nat → Value) → Array Value) (last : Oper) (T : List Oper)
    (hmk : ∀ f, lay f a.tmps 0 (L0.take Ts.length) = m f)
    (step : AllUpto P Q L0.toArray (fun f => ⟨m f, a.defers⟩) S R Ts Ts last T L0)
    (fin : ∀ f w, S w → (∀ (i : Nat) (p : Value → World → Prop), Ts[i]? = some p → p (f i) w) → wpList P L0.toArray Q (last :: T) ⟨m f, a.defers⟩ w) : (Code.region id L0.toArray true).wp P Q a w := by
  obtain ⟨L, rfl, step, hf, hch⟩ := step
  have hLn : Ts.length = L.length := step.1
  rw [hLn, List.take_left] at hmk
  have hmk' : ∀ f, laid a L f = ⟨m f, a.defers⟩ := fun f => by unfold laid; rw [hmk]
  have he : (fun f => (⟨m f, a.defers⟩ : Act)) = laid a L := funext fun f => (hmk' f).symm
  rw [he] at step
  refine wp_region_any hm ?_
  have h0 : a = laid a L (fun i => match L[i]? with | some o => (match o.dst with | some d => a.tmps.getD d undef | none => undef) | none => undef) := by
    unfold laid
    rw [lay_own _ L 0 a.tmps (fun k o d hk hd => by simp only [Nat.zero_add]; rw [hk]; simp only [hd])]
  have hno : ∀ j, (Array.replicate (L ++ last :: T).toArray.size false).getD j false = false := by
    intro j
    by_cases h : j < (L ++ last :: T).toArray.size <;> simp [Array.getD, h]
  have := wpAny_slotsK (P := P) (Q := Q) (a := a) ht hf hch hR step.2 step.1 (fun f w hs hT => by rw [hmk']; exact fin f w hs hT) (L ++ last :: T).toArray.size (Array.replicate (L ++ last :: T).toArray.size false)
    (fun i => match L[i]? with | some o => (match o.dst with | some d => a.tmps.getD d undef | none => undef) | none => undef) w.drew (by simp) (by simp) hS (fun j _ hj => by simp at hj; simp [Array.getD, hj])
    (fun i o j _ h => by rw [hno] at h; cases h) (fun j p h => by rw [hno] at h; cases h)
  rw [← h0] at this
  exact this
end
end Go.Proofs.YteeonojcihcfiaaDoor
