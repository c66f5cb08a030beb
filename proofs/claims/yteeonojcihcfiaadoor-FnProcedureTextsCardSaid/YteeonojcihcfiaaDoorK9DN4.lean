/- The text of a procedure and the procedure of a text: the plain law. -/
import Derived.Test.YteeonojcihcfiaaDoorK9DN1
import Derived.Test.YteeonojcihcfiaaDoorK9DN2
import Derived.Test.YteeonojcihcfiaaDoorK9C2
namespace Go.Proofs.YteeonojcihcfiaaDoor
open Go Go.Lib

theorem ba_list {a b : ByteArray} (h : a.data.toList = b.data.toList) : a = b := by
  apply ByteArray.ext
  exact Array.toList_inj.1 h
theorem cutL_not {c : UInt8} : ∀ (l cur : List UInt8), c ∉ cur → ∀ p ∈ cutL c cur l, c ∉ p
  | [], cur, h, p, hp => by
    rw [cutL, List.mem_singleton] at hp
    rw [hp]; exact h
  | x :: r, cur, h, p, hp => by
    rw [cutL] at hp
    split at hp
    · rcases List.mem_cons.1 hp with e | e
      · rw [e]; exact h
      · exact cutL_not r [] (by simp) p e
    · next hx =>
      refine cutL_not r _ ?_ p hp
      intro hm
      rcases List.mem_append.1 hm with e | e
      · exact h e
      · rw [List.mem_singleton] at e; exact hx e.symm
/-- A step as text. -/
def stepT (x : Stp) : ByteArray := decN x.2.toNat ++ ⟨#[64]⟩ ++ decN x.1.toNat
def joinB (L : List ByteArray) : ByteArray := ⟨(joinL 32 (L.map fun p => p.data.toList)).toArray⟩
/-- The text of a procedure. -/
def textP (xs : List Stp) : ByteArray := if xs = [] then ⟨#[45]⟩ else joinB (xs.map stepT)
def fstP (s : ByteArray) : ByteArray := ⟨(s.data.toList.takeWhile (· != 64)).toArray⟩
def sndP (s : ByteArray) : ByteArray := ⟨((s.data.toList.dropWhile (· != 64)).drop 1).toArray⟩
/-- A step that the program reads. -/
def stepP (s : ByteArray) : Option Stp := if (readV (fstP s)).2 = true ∧ (readV (sndP s)).2 = true then some ((readV (sndP s)).1, (readV (fstP s)).1) else none
/-- A step that the reference reads. -/
def stepR (s : ByteArray) : Option Stp := match cutB 64 s with
  | [a, b] => if (valV a).2 = true ∧ (valV b).2 = true then some ((valV b).1, (valV a).1) else none
  | _ => none
def allP (rd : ByteArray → Option Stp) : List ByteArray → Option (List Stp)
  | [] => some []
  | w :: r => (rd w).bind fun x => (allP rd r).map fun L => x :: L
/-- The procedure of a text, and the code. -/
def prV (rd : ByteArray → Option Stp) (s : ByteArray) : List Stp × Int :=
  if s = ⟨#[45]⟩ then ([], 0) else match allP rd (cutB 32 s) with
    | none => ([], 6)
    | some L => if isProc L = true then (L, 0) else ([], 6)
theorem allP_snoc (rd : ByteArray → Option Stp) : ∀ (ws : List ByteArray) (w : ByteArray), allP rd (ws ++ [w]) = (allP rd ws).bind fun L => (rd w).map fun x => L ++ [x]
  | [], w => by
    simp only [List.nil_append, allP, Option.bind_some]
    cases rd w <;> rfl
  | a :: r, w => by
    rw [List.cons_append, allP, allP_snoc rd r w, allP]
    cases rd a with
    | none => rfl
    | some x =>
      cases allP rd r with
      | none => rfl
      | some L => cases rd w <;> rfl
theorem allP_none {rd : ByteArray → Option Stp} : ∀ {ws : List ByteArray} {w : ByteArray}, w ∈ ws → rd w = none → allP rd ws = none
  | a :: r, w, hm, h => by
    rw [allP]
    rcases List.mem_cons.1 hm with e | e
    · subst e; rw [h]; rfl
    · rw [allP_none e h]
      cases rd a <;> rfl
theorem allP_len {rd : ByteArray → Option Stp} : ∀ {ws : List ByteArray} {L : List Stp}, allP rd ws = some L → L.length = ws.length
  | [], L, h => by simp only [allP, Option.some.injEq] at h; subst h; rfl
  | a :: r, L, h => by
    rw [allP] at h
    cases ha : rd a with
    | none => rw [ha] at h; cases h
    | some x =>
      cases hr : allP rd r with
      | none => rw [ha, hr] at h; cases h
      | some M =>
        rw [ha, hr] at h
        simp only [Option.bind_some, Option.map_some, Option.some.injEq] at h
        subst h
        simp [allP_len hr]
theorem allP_turn {rd rd' : ByteArray → Option Stp} : ∀ {ws : List ByteArray} {L : List Stp}, (∀ w ∈ ws, ∀ x ∈ L, rd w = some x → rd' w = some x) → allP rd ws = some L → allP rd' ws = some L
  | [], L, _, h => h
  | a :: r, L, hh, h => by
    rw [allP] at h
    cases ha : rd a with
    | none => rw [ha] at h; cases h
    | some x =>
      cases hr : allP rd r with
      | none => rw [ha, hr] at h; cases h
      | some M =>
        rw [ha, hr] at h
        simp only [Option.bind_some, Option.map_some, Option.some.injEq] at h
        subst h
        rw [allP, hh a (by simp) x (by simp) ha, allP_turn (fun w hw y hy => hh w (by simp [hw]) y (by simp [hy])) hr]
        rfl
theorem dec_not {c : UInt8} (hc : c.toNat < 48 ∨ 57 < c.toNat) (i : Nat) : c ∉ (decN i).data.toList := by
  intro hm
  rw [decN_list] at hm
  have := dec_mem i c hm
  omega
theorem cut_two {s a b : ByteArray} (h : cutB 64 s = [a, b]) : s.data.toList = a.data.toList ++ 64 :: b.data.toList ∧ (64 : UInt8) ∉ a.data.toList ∧ (64 : UInt8) ∉ b.data.toList := by
  rw [cutB_cutL] at h
  have hn := cutL_not (c := 64) s.data.toList [] (by simp)
  have hj := join_cut 64 s.data.toList []
  cases hl : cutL 64 [] s.data.toList with
  | nil => rw [hl] at h; cases h
  | cons p r =>
    cases r with
    | nil => rw [hl] at h; cases h
    | cons q t =>
      cases t with
      | cons _ _ => rw [hl] at h; cases h
      | nil =>
        rw [hl] at h hn hj
        simp only [List.map_cons, List.map_nil, List.cons.injEq, and_true] at h
        obtain ⟨rfl, rfl⟩ := h
        exact ⟨hj.symm, hn p (by simp), hn q (by simp)⟩
theorem take_app {c : UInt8} : ∀ (a b : List UInt8), c ∉ a → (a ++ c :: b).takeWhile (· != c) = a ∧ (a ++ c :: b).dropWhile (· != c) = c :: b
  | [], b, _ => by simp
  | x :: r, b, h => by
    have hx : (x != c) = true := by rw [bne_iff_ne]; intro e; exact h (by simp [e])
    obtain ⟨h1, h2⟩ := take_app (c := c) r b (fun e => h (List.mem_cons_of_mem _ e))
    rw [List.cons_append, List.takeWhile_cons, List.dropWhile_cons, hx]
    exact ⟨by simp only [if_true, h1], by simp only [if_true, h2]⟩
theorem parts_of {s a b : ByteArray} (h : s.data.toList = a.data.toList ++ 64 :: b.data.toList) (ha : (64 : UInt8) ∉ a.data.toList) : fstP s = a ∧ sndP s = b := by
  obtain ⟨h1, h2⟩ := take_app a.data.toList b.data.toList ha
  rw [fstP, sndP, h, h1, h2]
  exact ⟨rfl, rfl⟩
theorem cut_of {s a b : ByteArray} (h : s.data.toList = a.data.toList ++ 64 :: b.data.toList) (ha : (64 : UInt8) ∉ a.data.toList) (hb : (64 : UInt8) ∉ b.data.toList) : cutB 64 s = [a, b] := by
  rw [cutB_cutL, h, cutL_app _ [] _ ha, cutL_one _ [] hb]
  rfl
theorem stepR_P {s : ByteArray} {x : Stp} (h : stepR s = some x) : stepP s = some x := by
  unfold stepR at h
  split at h
  · next a b hc =>
    obtain ⟨h1, h2, _⟩ := cut_two hc
    obtain ⟨e1, e2⟩ := parts_of h1 h2
    split at h
    · next hv =>
      have ra := valV_readV (s := a) (v := (valV a).1) (by rw [← hv.1])
      have rb := valV_readV (s := b) (v := (valV b).1) (by rw [← hv.2])
      unfold stepP
      rw [e1, e2, ra, rb, if_pos ⟨rfl, rfl⟩]
      exact h
    · cases h
  · cases h
/-- A step in reach. -/
def InR (x : Stp) : Prop := 0 ≤ x.1 ∧ x.1 < 10000000000000 ∧ 0 ≤ x.2 ∧ x.2 < 10000000000000
theorem stepP_R {s : ByteArray} {x : Stp} (hx : InR x) (h : stepP s = some x) : stepR s = some x := by
  unfold stepP at h
  split at h
  · next hv =>
    simp only [Option.some.injEq] at h
    subst h
    obtain ⟨x1, x2, x3, x4⟩ := hx
    have ra : readV (fstP s) = ((readV (fstP s)).1, true) := by rw [← hv.1]
    have rb : readV (sndP s) = ((readV (sndP s)).1, true) := by rw [← hv.2]
    have va := readV_valV ra x3 x4
    have vb := readV_valV rb x1 x2
    generalize hA : fstP s = a at *
    generalize hB : sndP s = b at *
    generalize (readV a).1 = m at *
    generalize (readV b).1 = n at *
    obtain ⟨i, rfl, rfl, hi⟩ := valV_some va
    obtain ⟨j, rfl, rfl, hj⟩ := valV_some vb
    have hs : s.data.toList = (decN i).data.toList ++ 64 :: (decN j).data.toList := by
      have h1 := List.takeWhile_append_dropWhile (p := (· != (64 : UInt8))) (l := s.data.toList)
      have e1 : s.data.toList.takeWhile (· != 64) = (decN i).data.toList := by rw [← hA]; rfl
      have e2 : (s.data.toList.dropWhile (· != 64)).drop 1 = (decN j).data.toList := by rw [← hB]; rfl
      cases hd : s.data.toList.dropWhile (· != 64) with
      | nil =>
        rw [hd] at e2
        exact absurd e2.symm (by rw [decN_list]; exact dec_ne j)
      | cons y t =>
        rw [hd] at e2 h1
        have hy : y = 64 := by
          have hh := List.head?_dropWhile_not (· != (64 : UInt8)) s.data.toList
          rw [hd] at hh
          simp only [List.head?_cons] at hh
          simpa using hh
        rw [← h1, e1, hy]
        congr 1
        rw [← e2]
        rfl
    unfold stepR
    rw [cut_of hs (dec_not (by decide) i) (dec_not (by decide) j)]
    dsimp only
    rw [va, vb, if_pos ⟨rfl, rfl⟩]
  · cases h
theorem runS_in : ∀ (xs : List Stp) (s t : St), 0 ≤ s.last → runS s xs = some t → ∀ x ∈ xs, InR x
  | [], _, _, _, _, x, hx => by cases hx
  | y :: r, s, t, hl, h, x, hx => by
    rw [runS] at h
    cases hs : stepS s y with
    | none => rw [hs] at h; cases h
    | some u =>
      rw [hs] at h
      simp only [Option.bind_some] at h
      unfold stepS at hs
      split at hs
      · cases hs
      · next h1 =>
        dsimp only at hs
        split at hs
        · cases hs
        · next h2 =>
          simp only [Option.some.injEq] at hs
          have hul : u.last = y.1 := by rw [← hs]
          rcases List.mem_cons.1 hx with e | e
          · subst e
            have hk : 0 ≤ x.2 ∧ x.2 ≤ 7 := by
              revert h2
              unfold nextB
              repeat' split
              all_goals omega
            exact ⟨by omega, by omega, by omega, by omega⟩
          · exact runS_in r u t (by omega) h x e
theorem isProc_in {xs : List Stp} (h : isProc xs = true) : ∀ x ∈ xs, InR x := by
  simp only [isProc, Bool.and_eq_true, decide_eq_true_eq] at h
  have h1 := h.1
  unfold runR at h1
  cases hr : runS st0 xs with
  | none => rw [hr] at h1; simp at h1
  | some t => exact runS_in xs st0 t (by decide) hr
theorem pr_same (s : ByteArray) : prV stepP s = prV stepR s := by
  unfold prV
  split
  · rfl
  · cases hR : allP stepR (cutB 32 s) with
    | some L => rw [allP_turn (fun w _ x _ h => stepR_P h) hR]
    | none =>
      cases hP : allP stepP (cutB 32 s) with
      | none => rfl
      | some L =>
        dsimp only
        by_cases hp : isProc L = true
        · have := allP_turn (fun w _ x hx h => stepP_R (isProc_in hp x hx) h) hP
          rw [hR] at this; cases this
        · rw [if_neg hp]
theorem stepT_list (x : Stp) : (stepT x).data.toList = (decN x.2.toNat).data.toList ++ 64 :: (decN x.1.toNat).data.toList := by
  simp [stepT, ByteArray.data_append]
theorem stepR_T {x : Stp} (hx : InR x) : stepR (stepT x) = some x := by
  obtain ⟨x1, x2, x3, x4⟩ := hx
  unfold stepR
  rw [cut_of (stepT_list x) (dec_not (by decide) _) (dec_not (by decide) _)]
  dsimp only
  rw [valV_dec (by omega), valV_dec (by omega), if_pos ⟨rfl, rfl⟩]
  congr 1
  exact Prod.ext (by dsimp only; omega) (by dsimp only; omega)
theorem T_stepR {s : ByteArray} {x : Stp} (h : stepR s = some x) : stepT x = s := by
  unfold stepR at h
  split at h
  · next a b hc =>
    obtain ⟨h1, _, _⟩ := cut_two hc
    split at h
    · next hv =>
      simp only [Option.some.injEq] at h
      subst h
      obtain ⟨i, e1, e2, _⟩ := valV_some (s := a) (v := (valV a).1) (by rw [← hv.1])
      obtain ⟨j, e3, e4, _⟩ := valV_some (s := b) (v := (valV b).1) (by rw [← hv.2])
      apply ba_list
      rw [stepT_list, h1]
      dsimp only
      rw [e1, e3, e2, e4]
      rfl
    · cases h
  · cases h
theorem stepT_blank (x : Stp) : (32 : UInt8) ∉ (stepT x).data.toList := by
  rw [stepT_list]
  intro hm
  rcases List.mem_append.1 hm with h | h
  · exact dec_not (by decide) _ h
  · rcases List.mem_cons.1 h with h | h
    · revert h; decide
    · exact dec_not (by decide) _ h
theorem cut_joinB {ws : List ByteArray} (hne : ws ≠ []) (h : ∀ a ∈ ws, (32 : UInt8) ∉ a.data.toList) : cutB 32 (joinB ws) = ws := by
  rw [cutB_cutL]
  show ((cutL 32 [] (joinL 32 (ws.map fun p => p.data.toList))).map fun l => (⟨l.toArray⟩ : ByteArray)) = ws
  rw [cut_join 32 _ (by simpa using hne) (by
    intro a ha
    rw [List.mem_map] at ha
    obtain ⟨p, hp, rfl⟩ := ha
    exact h p hp), List.map_map]
  exact List.map_id _
theorem allP_T : ∀ {xs : List Stp}, (∀ x ∈ xs, InR x) → allP stepR (xs.map stepT) = some xs
  | [], _ => rfl
  | x :: r, h => by
    rw [List.map_cons, allP, stepR_T (h x (by simp)), allP_T (fun y hy => h y (by simp [hy]))]
    rfl
theorem T_allP : ∀ {ws : List ByteArray} {L : List Stp}, allP stepR ws = some L → L.map stepT = ws
  | [], L, h => by simp only [allP, Option.some.injEq] at h; subst h; rfl
  | a :: r, L, h => by
    rw [allP] at h
    cases ha : stepR a with
    | none => rw [ha] at h; cases h
    | some x =>
      cases hr : allP stepR r with
      | none => rw [ha, hr] at h; cases h
      | some M =>
        rw [ha, hr] at h
        simp only [Option.bind_some, Option.map_some, Option.some.injEq] at h
        subst h
        rw [List.map_cons, T_stepR ha, T_allP hr]
theorem cutB_ne (c : UInt8) (s : ByteArray) : cutB c s ≠ [] := by
  rw [cutB_cutL]
  simpa using cutL_ne c s.data.toList []
theorem joinB_cut (s : ByteArray) : joinB (cutB 32 s) = s := by
  apply ba_list
  show joinL 32 ((cutB 32 s).map fun p => p.data.toList) = s.data.toList
  rw [cutB_cutL, List.map_map]
  rw [show ((fun p : ByteArray => p.data.toList) ∘ fun l : List UInt8 => (⟨l.toArray⟩ : ByteArray)) = id from rfl, List.map_id, join_cut]
  rfl
/-- A procedure's text is read as this procedure. -/
theorem pr_back {xs : List Stp} (h : isProc xs = true) : prV stepR (textP xs) = (xs, 0) := by
  by_cases hx : xs = []
  · subst hx
    rw [textP, if_pos rfl, prV, if_pos rfl]
  · have hc : cutB 32 (textP xs) = xs.map stepT := by
      rw [textP, if_neg hx]
      exact cut_joinB (by simpa using hx) (fun a ha => by
        rw [List.mem_map] at ha
        obtain ⟨p, _, rfl⟩ := ha
        exact stepT_blank p)
    have hn : textP xs ≠ ⟨#[45]⟩ := by
      intro e
      rw [e, cutB_cutL] at hc
      have hm : (64 : UInt8) ∈ ((xs.map stepT).map fun p => p.data.toList).flatten := by
        cases xs with
        | nil => exact absurd rfl hx
        | cons x r => rw [List.map_cons, List.map_cons, List.flatten_cons, stepT_list]; simp
      rw [← hc] at hm
      revert hm
      decide +kernel
    rw [prV, if_neg hn, hc, allP_T (isProc_in h)]
    dsimp only
    rw [if_pos h]
/-- The text of what a text is read as is this text. -/
theorem pr_text {s : ByteArray} {L : List Stp} (h : prV stepR s = (L, 0)) : isProc L = true ∧ textP L = s := by
  unfold prV at h
  split at h
  · next hs =>
    have e : L = [] := (congrArg Prod.fst h).symm
    subst e
    exact ⟨by decide +kernel, hs.symm⟩
  · cases ha : allP stepR (cutB 32 s) with
    | none => rw [ha] at h; exact absurd (congrArg Prod.snd h) (by dsimp only; decide)
    | some M =>
      rw [ha] at h
      dsimp only at h
      split at h
      · next hp =>
        have e : M = L := congrArg Prod.fst h
        subst e
        refine ⟨hp, ?_⟩
        have ht := T_allP ha
        have hne : M ≠ [] := by
          intro e; rw [e] at ht; exact cutB_ne 32 s ht.symm
        rw [textP, if_neg hne, ht, joinB_cut]
      · exact absurd (congrArg Prod.snd h) (by dsimp only; decide)
end Go.Proofs.YteeonojcihcfiaaDoor
