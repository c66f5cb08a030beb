/- Descriptions: the opposite of the opposite, leagues as long as the miles, places replaced: the plain law. -/
import Derived.Test.YtnbpbidflacoiaaDoorRows
import Derived.Test.YtnbpbidflacoiaaDoorL0
import Derived.Test.YtnbpbidflacoiaaDoorM0
import Derived.WalkKit
import Derived.ProofKit
import Derived.OpenShut
import Derived.BigQuiet
import Derived.Outline
import Derived.WalkSpells
import Derived.WalkLawsBesides
import Derived.Deep.DeepCutAuto
import Derived.Test.YtnbpbidflacoiaaDoorQ8
import Derived.Test.YtnbpbidflacoiaaDoorQ9
import Derived.Test.YtnbpbidflacoiaaDoorQG
namespace Go.Proofs.YtnbpbidflacoiaaDoor
open Go.ChangeShapes Go.WideShapes Go.ChangeAt Go.RowKit

theorem opp_isD {d : Dsc} {code : ByteArray} (h : isD d = true) (hc : codeW code = true) (h3 : d.kind ≠ 3) : isD { d with a := code, dir := if d.kind = 2 then (d.dir + 4) % 8 else d.dir } = true := by
  unfold isD at h ⊢
  dsimp only
  rw [hc]
  by_cases hk : d.kind = 2
  · rw [if_pos hk] at h
    rw [if_pos hk]
    simp only [hk, if_true, Bool.true_and, Bool.and_eq_true, decide_eq_true_eq, inB] at h ⊢
    exact ⟨h.2.1, h.2.2.1, by omega, h.2.2.2.2⟩
  · rw [if_neg hk] at h
    rw [if_neg hk]
    by_cases h01 : d.kind = 0 ∨ d.kind = 1
    · rw [if_pos h01] at h ⊢
      simp only [if_neg hk, Bool.true_and, Bool.and_eq_true, decide_eq_true_eq] at h ⊢
      exact ⟨⟨h.2.1.1, h.2.1.2.1, h.2.1.2.2⟩, h.2.2⟩
    · rw [if_neg h01, decide_eq_false h3] at h
      simp at h
theorem opp_ok {d o : Dsc} {code : ByteArray} (h : oppV d code = (o, 0)) : isD d = true ∧ codeW code = true ∧ code ≠ d.a ∧ d.kind ≠ 3 ∧ o = { d with a := code, dir := if d.kind = 2 then (d.dir + 4) % 8 else d.dir } := by
  unfold oppV at h
  split at h
  · rename_i hc
    simp only [Bool.and_eq_true, Bool.not_eq_true', decide_eq_false_iff_not] at hc
    split at h
    · exact absurd (congrArg Prod.snd h) (by dsimp only; decide)
    · rename_i h3
      exact ⟨hc.1, hc.2.1, hc.2.2, h3, (congrArg Prod.fst h).symm⟩
  · exact absurd (congrArg Prod.snd h) (by dsimp only; decide)
theorem isD_code {d : Dsc} (h : isD d = true) : codeW d.a = true := by
  unfold isD at h
  rw [Bool.and_eq_true] at h
  exact h.1
theorem opp_back {d o : Dsc} {code : ByteArray} (h : oppV d code = (o, 0)) : oppV o d.a = (d, 0) ∧ isD o = true := by
  obtain ⟨h1, h2, h3, h4, rfl⟩ := opp_ok h
  have hi := opp_isD h1 h2 h4
  refine ⟨?_, hi⟩
  have hdir : ∀ hk : d.kind = 2, ((d.dir + 4) % 8 + 4) % 8 = d.dir := fun hk => by
    have := (isD_from h1 hk).2.2.1
    omega
  unfold oppV
  rw [hi, isD_code h1]
  dsimp only
  rw [decide_eq_false (fun e => h3 e.symm)]
  simp only [Bool.true_and, Bool.not_false, if_true, if_neg h4]
  obtain ⟨kind, count, unit, dir, a, b⟩ := d
  dsimp only at *
  by_cases hk : kind = 2
  · subst hk
    simp only [if_true, hdir rfl]
  · simp only [if_neg hk]
theorem lg_len {d l : Dsc} (h : lgV d = (l, 0)) : lenV d = lenV l ∧ isD l = true := by
  unfold lgV at h
  split at h
  · rename_i hd
    split at h
    · rename_i hu
      obtain ⟨hu, h3⟩ := hu
      have hk := isD_miles hd hu
      obtain ⟨⟨c1, c2⟩, h2, hdir, hb⟩ := isD_from hd hk
      have ha := isD_code hd
      have e := congrArg Prod.fst h
      dsimp only at e
      subst e
      obtain ⟨kind, count, unit, dir, a, b⟩ := d
      dsimp only at *
      subst hk
      subst hu
      subst hb
      have n1 : count ≠ 1 := by omega
      have hI : isD ⟨2, count / 3, if count / 3 = 1 then ⟨#[108, 101, 97, 103, 117, 101]⟩ else ⟨#[108, 101, 97, 103, 117, 101, 115]⟩, dir, a, ⟨#[]⟩⟩ = true := by
        unfold isD
        dsimp only
        rw [ha, if_pos rfl]
        have hq : 0 < unitD (if count / 3 = 1 then ⟨#[108, 101, 97, 103, 117, 101]⟩ else ⟨#[108, 101, 97, 103, 117, 101, 115]⟩) (count / 3) := by
          by_cases h1 : count / 3 = 1
          · rw [if_pos h1, h1]; decide
          · rw [if_neg h1, unitN h1]; decide
        simp only [Bool.true_and, Bool.and_eq_true, decide_eq_true_eq, inB]
        exact ⟨by omega, hq, by omega, trivial⟩
      refine ⟨?_, hI⟩
      unfold lenV
      rw [if_pos hd, if_pos hI]
      dsimp only
      rw [if_pos rfl, if_pos rfl]
      have e4 : unitD ⟨#[109, 105, 108, 101, 115]⟩ count = 4 := by rw [unitN n1]; decide
      have e12 : unitD (if count / 3 = 1 then ⟨#[108, 101, 97, 103, 117, 101]⟩ else ⟨#[108, 101, 97, 103, 117, 101, 115]⟩) (count / 3) = 12 := by
        by_cases h1 : count / 3 = 1
        · rw [if_pos h1, h1]; decide
        · rw [if_neg h1, unitN h1]; decide
      rw [e4, e12]
      have : count * 4 = count / 3 * 12 := by omega
      rw [this]
    · have e := congrArg Prod.fst h
      dsimp only at e
      subst e
      exact ⟨rfl, hd⟩
  · exact absurd (congrArg Prod.snd h) (by dsimp only; decide)
theorem rep_places {d r : Dsc} {old code : ByteArray} (h : repV d old code = (r, 0)) : isD r = true ∧ code ∈ placesD r ∧ (old ≠ code → old ∉ placesD r) := by
  unfold repV at h
  split at h
  · rename_i hd
    split at h
    · rename_i ho
      split at h
      · rename_i ha
        split at h
        · rename_i hr
          have e := congrArg Prod.fst h
          dsimp only at e
          subst e
          refine ⟨hr, ?_, ?_⟩
          · unfold placesD
            split <;> simp
          · intro hne hm
            unfold placesD at hm
            dsimp only at hm
            have hd' := hd
            unfold isD at hd'
            rw [Bool.and_eq_true] at hd'
            by_cases h3 : d.kind = 3
            · rw [if_pos h3] at hm
              simp only [List.mem_cons, List.not_mem_nil, or_false] at hm
              rcases hm with hm | hm
              · exact hne hm
              · have h4 := hd'.2
                rw [if_neg (by omega), if_neg (by omega), decide_eq_true h3] at h4
                simp only [Bool.true_and, Bool.and_eq_true, Bool.not_eq_true', decide_eq_false_iff_not] at h4
                exact h4.2.2 (ha.trans hm)
            · rw [if_neg h3] at hm
              simp only [List.mem_cons, List.not_mem_nil, or_false] at hm
              exact hne hm
        · exact absurd (congrArg Prod.snd h) (by dsimp only; decide)
      · rename_i ha
        split at h
        · rename_i hr
          have e := congrArg Prod.fst h
          dsimp only at e
          subst e
          have hb : d.b = old := by rcases ho.2 with h1 | h1; exact absurd h1 ha; exact h1
          have h3 : d.kind = 3 := by
            have hd' := hd
            unfold isD at hd'
            rw [Bool.and_eq_true] at hd'
            have h4 := hd'.2
            by_cases h2 : d.kind = 2
            · rw [if_pos h2] at h4
              simp only [Bool.and_eq_true, decide_eq_true_eq] at h4
              exact absurd (hb.symm.trans h4.2.2.2) ho.1
            · rw [if_neg h2] at h4
              by_cases h01 : d.kind = 0 ∨ d.kind = 1
              · rw [if_pos h01] at h4
                simp only [Bool.and_eq_true, decide_eq_true_eq] at h4
                exact absurd (hb.symm.trans h4.2) ho.1
              · rw [if_neg h01] at h4
                simp only [Bool.and_eq_true, decide_eq_true_eq] at h4
                exact h4.2.1
          refine ⟨hr, ?_, ?_⟩
          · unfold placesD
            rw [if_pos h3]
            simp
          · intro hne hm
            unfold placesD at hm
            rw [if_pos h3] at hm
            simp only [List.mem_cons, List.not_mem_nil, or_false] at hm
            rcases hm with hm | hm
            · exact ha hm.symm
            · exact hne hm
        · exact absurd (congrArg Prod.snd h) (by dsimp only; decide)
    · exact absurd (congrArg Prod.snd h) (by dsimp only; decide)
  · exact absurd (congrArg Prod.snd h) (by dsimp only; decide)
end Go.Proofs.YtnbpbidflacoiaaDoor
