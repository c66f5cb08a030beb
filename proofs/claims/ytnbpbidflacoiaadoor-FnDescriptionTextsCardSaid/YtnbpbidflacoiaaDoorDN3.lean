/- The text of a description and the description of a text: the plain law. -/
import Derived.Test.YtnbpbidflacoiaaDoorDN1
import Derived.Test.YtnbpbidflacoiaaDoorDN2
import Derived.Test.YtnbpbidflacoiaaDoorQ6
namespace Go.Proofs.YtnbpbidflacoiaaDoor
open Go Go.Lib

def zeroK (k : Int) : Dsc := ⟨k, 0, ⟨#[]⟩, 0, ⟨#[]⟩, ⟨#[]⟩⟩
def dirW (i : Int) : ByteArray := dirsL.getD i.toNat ⟨#[]⟩
/-- The text of a description. -/
def textD (d : Dsc) : ByteArray :=
  if d.kind = 0 then ⟨#[97, 116, 32]⟩ ++ d.a
  else if d.kind = 1 then ⟨#[110, 101, 97, 114, 32]⟩ ++ d.a
  else if d.kind = 2 then decN d.count.toNat ++ ⟨#[32]⟩ ++ d.unit ++ ⟨#[32]⟩ ++ dirW d.dir ++ ⟨#[32, 111, 102, 32]⟩ ++ d.a
  else ⟨#[98, 101, 116, 119, 101, 101, 110, 32]⟩ ++ d.a ++ ⟨#[32, 97, 110, 100, 32]⟩ ++ d.b
/-- The description of words; rd: what a number is read as. -/
def readP (rd : ByteArray → Int) (k0 : Int) : List ByteArray → Dsc
  | [x, a] => if x = ⟨#[97, 116]⟩ then ⟨0, 0, ⟨#[]⟩, 0, a, ⟨#[]⟩⟩ else if x = ⟨#[110, 101, 97, 114]⟩ then ⟨1, 0, ⟨#[]⟩, 0, a, ⟨#[]⟩⟩ else zeroK k0
  | [x, a, _, b] => if x = ⟨#[98, 101, 116, 119, 101, 101, 110]⟩ then ⟨3, 0, ⟨#[]⟩, 0, a, b⟩ else zeroK k0
  | [n, u, r, _, a] => ⟨2, rd n, u, ixS r dirsL, a, ⟨#[]⟩⟩
  | _ => zeroK k0
def rdV (rd : ByteArray → Int) (k0 : Int) (s : ByteArray) : Dsc × Int :=
  if isD (readP rd k0 (cutB 32 s)) = true ∧ textD (readP rd k0 (cutB 32 s)) = s then (readP rd k0 (cutB 32 s), 0) else (zeroK 0, 6)
theorem word_noblank {s : ByteArray} (h : wordB s = true) : (32 : UInt8) ∉ s.data.toList := by
  intro hm
  simp only [wordB, smalls, Bool.and_eq_true] at h
  have := List.all_eq_true.1 h.1 32 hm
  revert this
  decide
theorem code_word {s : ByteArray} (h : codeW s = true) : wordB s = true := by
  simp only [codeW, Bool.and_eq_true] at h
  exact h.2.1
theorem dec_noblank (i : Nat) : (32 : UInt8) ∉ (decN i).data.toList := by
  intro hm
  rw [decN_list] at hm
  have := dec_mem i 32 hm
  revert this
  decide
theorem unit_noblank {u : ByteArray} {c : Int} (h : 0 < unitD u c) : (32 : UInt8) ∉ u.data.toList := by
  unfold unitD at h
  split at h
  · split at h
    · rename_i h1; subst h1; decide
    · split at h
      · rename_i h1; subst h1; decide
      · omega
  · split at h
    · rename_i h1; subst h1; decide
    · split at h
      · rename_i h1; subst h1; decide
      · omega
theorem dir_cases {i : Int} (h0 : 0 ≤ i) (h7 : i ≤ 7) : ixS (dirW i) dirsL = i ∧ (32 : UInt8) ∉ (dirW i).data.toList := by
  have : i = 0 ∨ i = 1 ∨ i = 2 ∨ i = 3 ∨ i = 4 ∨ i = 5 ∨ i = 6 ∨ i = 7 := by omega
  rcases this with rfl | rfl | rfl | rfl | rfl | rfl | rfl | rfl <;> exact ⟨by decide +kernel, by decide +kernel⟩
theorem cut_text (ws : List ByteArray) (s : ByteArray) (hne : ws ≠ []) (hs : s.data.toList = joinL 32 (ws.map fun p => p.data.toList)) (h : ∀ a ∈ ws, (32 : UInt8) ∉ a.data.toList) : cutB 32 s = ws := by
  rw [cutB_cutL, hs, cut_join 32 _ (by simpa using hne) (by
    intro a ha
    rw [List.mem_map] at ha
    obtain ⟨p, hp, rfl⟩ := ha
    exact h p hp), List.map_map]
  exact List.map_id _
theorem isD_bound {d : Dsc} (h : isD d = true) : d.kind = 0 ∨ d.kind = 1 ∨ d.kind = 2 ∨ d.kind = 3 := by
  unfold isD at h
  rw [Bool.and_eq_true] at h
  by_cases h2 : d.kind = 2
  · omega
  · rw [if_neg h2] at h
    by_cases h01 : d.kind = 0 ∨ d.kind = 1
    · omega
    · rw [if_neg h01] at h
      simp only [Bool.and_eq_true, decide_eq_true_eq] at h
      omega
theorem read_text {rd : ByteArray → Int} {k0 : Int} (hrd : ∀ i : Nat, i < 100 → rd (decN i) = i) {d : Dsc} (h : isD d = true) : readP rd k0 (cutB 32 (textD d)) = d := by
  have hk := isD_bound h
  have ha : codeW d.a = true := by
    unfold isD at h
    rw [Bool.and_eq_true] at h
    exact h.1
  have na := word_noblank (code_word ha)
  have hF := isD_from h
  obtain ⟨kind, count, unit, dir, a, b⟩ := d
  dsimp only at *
  rcases hk with rfl | rfl | rfl | rfl
  · have e : (textD ⟨0, count, unit, dir, a, b⟩).data.toList = joinL 32 (([⟨#[97, 116]⟩, a] : List ByteArray).map fun p => p.data.toList) := by
      simp [textD, joinL, ByteArray.data_append]
    rw [cut_text [⟨#[97, 116]⟩, a] _ (by simp) e (by
      intro x hx
      simp only [List.mem_cons, List.not_mem_nil, or_false] at hx
      rcases hx with rfl | rfl
      · decide
      · exact na), readP, if_pos rfl]
    unfold isD at h
    simp at h
    obtain ⟨_, ⟨h1, h2, h3⟩, h4⟩ := h
    rw [h1, h2, h3, h4]
  · have e : (textD ⟨1, count, unit, dir, a, b⟩).data.toList = joinL 32 (([⟨#[110, 101, 97, 114]⟩, a] : List ByteArray).map fun p => p.data.toList) := by
      simp [textD, joinL, ByteArray.data_append]
    rw [cut_text [⟨#[110, 101, 97, 114]⟩, a] _ (by simp) e (by
      intro x hx
      simp only [List.mem_cons, List.not_mem_nil, or_false] at hx
      rcases hx with rfl | rfl
      · decide
      · exact na), readP, if_neg (by decide), if_pos rfl]
    unfold isD at h
    simp at h
    obtain ⟨_, ⟨h1, h2, h3⟩, h4⟩ := h
    rw [h1, h2, h3, h4]
  · obtain ⟨⟨c1, c2⟩, hu, ⟨d1, d2⟩, hb⟩ := hF rfl
    have e : (textD ⟨2, count, unit, dir, a, b⟩).data.toList = joinL 32 (([decN count.toNat, unit, dirW dir, ⟨#[111, 102]⟩, a] : List ByteArray).map fun p => p.data.toList) := by
      simp [textD, joinL, ByteArray.data_append]
    obtain ⟨w1, w2⟩ := dir_cases d1 d2
    rw [cut_text [decN count.toNat, unit, dirW dir, ⟨#[111, 102]⟩, a] _ (by simp) e (by
      intro x hx
      simp only [List.mem_cons, List.not_mem_nil, or_false] at hx
      rcases hx with rfl | rfl | rfl | rfl | rfl
      · exact dec_noblank _
      · exact unit_noblank hu
      · exact w2
      · decide
      · exact na), readP, hrd _ (by omega), w1, hb, show ((count.toNat : Nat) : Int) = count by omega]
  · have h' := h
    unfold isD at h
    simp at h
    obtain ⟨_, ⟨h1, h2, h3⟩, h4, h5⟩ := h
    have nb := word_noblank (code_word h4)
    have e : (textD ⟨3, count, unit, dir, a, b⟩).data.toList = joinL 32 (([⟨#[98, 101, 116, 119, 101, 101, 110]⟩, a, ⟨#[97, 110, 100]⟩, b] : List ByteArray).map fun p => p.data.toList) := by
      simp [textD, joinL, ByteArray.data_append]
    rw [cut_text [⟨#[98, 101, 116, 119, 101, 101, 110]⟩, a, ⟨#[97, 110, 100]⟩, b] _ (by simp) e (by
      intro x hx
      simp only [List.mem_cons, List.not_mem_nil, or_false] at hx
      rcases hx with rfl | rfl | rfl | rfl
      · decide
      · exact na
      · decide
      · exact nb), readP, if_pos rfl, h1, h2, h3]
theorem rdV_back {rd : ByteArray → Int} {k0 : Int} (hrd : ∀ i : Nat, i < 100 → rd (decN i) = i) {d : Dsc} (h : isD d = true) : rdV rd k0 (textD d) = (d, 0) := by
  rw [rdV, read_text hrd h, if_pos ⟨h, rfl⟩]
theorem rdV_text {rd : ByteArray → Int} {k0 : Int} {s : ByteArray} {d : Dsc} (h : rdV rd k0 s = (d, 0)) : isD d = true ∧ textD d = s := by
  unfold rdV at h
  split at h
  · next hc =>
    have e : readP rd k0 (cutB 32 s) = d := congrArg Prod.fst h
    rw [e] at hc
    exact hc
  · exact absurd (congrArg Prod.snd h) (by dsimp only; decide)
def rdP (s : ByteArray) : Dsc × Int := rdV (fun x => (readV x).1) 0 s
theorem rd_program (i : Nat) (h : i < 100) : (fun x => (readV x).1) (decN i) = (i : Int) := by
  dsimp only
  rw [readV_dec (by omega)]
theorem rd_reference (i : Nat) (h : i < 100) : (fun x => (valV x).1) (decN i) = (i : Int) := by
  dsimp only
  rw [valV_dec (by omega)]
/-- Both sides read the same. -/
theorem rd_same (s : ByteArray) : rdV (fun x => (valV x).1) (-1) s = rdP s := by
  by_cases h1 : isD (readP (fun x => (valV x).1) (-1) (cutB 32 s)) = true ∧ textD (readP (fun x => (valV x).1) (-1) (cutB 32 s)) = s
  · have h2 := rdV_back (rd := fun x => (readV x).1) (k0 := 0) rd_program h1.1
    rw [h1.2] at h2
    rw [rdV, if_pos h1, rdP, h2]
  · by_cases h2 : isD (readP (fun x => (readV x).1) 0 (cutB 32 s)) = true ∧ textD (readP (fun x => (readV x).1) 0 (cutB 32 s)) = s
    · have h3 := rdV_back (rd := fun x => (valV x).1) (k0 := -1) rd_reference h2.1
      rw [h2.2] at h3
      rw [h3, rdP, rdV, if_pos h2]
    · rw [rdV, if_neg h1, rdP, rdV, if_neg h2]
end Go.Proofs.YtnbpbidflacoiaaDoor
