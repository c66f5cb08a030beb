/- The law FnProcedures returns true for every code: the walk of the law. -/
import Derived.Test.YteffnidkkeeaiaaRows
import Derived.Test.YteffnidkkeeaiaaL0
import Derived.Test.YteffnidkkeeaiaaM0
import Derived.WalkKit
import Derived.ProofKit
import Derived.OpenShut
import Derived.BigQuiet
import Derived.Outline
import Derived.WalkSpells
import Derived.WalkLawsBesides
import Derived.Deep.DeepCutAuto
import Derived.Test.YteffnidkkeeaiaaS4
import Derived.Test.YteffnidkkeeaiaaP7
import Derived.Test.YteffnidkkeeaiaaD6
import Derived.Test.YteffnidkkeeaiaaB6
import Derived.Test.YteffnidkkeeaiaaB7
import Derived.Deep.QuietTactic
namespace Go.Proofs.Yteffnidkkeeaiaa
open Go.ChangeShapes Go.WideShapes Go.ChangeAt Go.RowKit

theorem orBad_form (b : Bool) (v c : Int) : orBad b v c = .tuple #[.int .i64 (if b = true then v else 0), .int .i64 (if b = true then c else 1)] := rfl
set_option maxRecDepth 100000 in
set_option maxHeartbeats 8000000 in
theorem lawProc_any (A : Option Addr) (n c : Nat) (w : World) (hn : n ≤ 9223372036854775807) (h : n ≤ 4096 → Code8 w A n) :
    Calls Try.prog 12 #[.slice A n c] w fun e w' => e = .returned (.bool true) ∧ Below w.heap.size w w' := by
  have HC := Lib.hid h; clear h
  by_cases hb : (4096 : Int) < n
  · have hd : decide ((4096 : Int) < n) = true := by simpa using hb
    have HD := Lib.hid hd; clear hd hb
    go_enter Try.func12, Try.ntmps12
    go_wp2_with fail
    refine (big_any A n c hn w).mono ?_; rw [HD.out]; rintro e w' ⟨rfl, rfl⟩
    go_wp2_with fail
    go_ret
    exact ⟨rfl, Below.refl _ _⟩
  · have hd : decide ((4096 : Int) < n) = false := by simpa using hb
    have HD := Lib.hid hd; clear hd
    have hc := HC.out (by omega)
    have C0 := Lib.hid hc; clear hc hb
    have B0 := Lib.hid (Below.refl w.heap.size w)
    go_enter Try.func12, Try.ntmps12
    go_wp2_with fail
    refine (big_any A n c hn w).mono ?_; rw [HD.out]; rintro e w' ⟨rfl, rfl⟩
    go_wp2_with fail
    refine (drawNext_any A n c _ C0.out).mono ?_
    rintro e w1 ⟨xs, Ax, cx, d, rfl, hq, own, b⟩
    have hx13 := hq.1
    clear hq
    have B1 := Lib.hid (B0.out.trans (b.mono B0.out.size))
    have C1 := Lib.hid (C0.out.below b)
    have X1 := Lib.hid own
    clear b own
    clear B0
    clear C0
    have hL8 : (nextR xs d).1.length ≤ 8 := by
      unfold nextR; split
      · exact nextTo_len xs d 8
      · simp
    have hNC := next_code xs d
    have HNH := Lib.hid (fun (hc : codeB xs d = 0) k hk => next_has (xs := xs) hc k hk)
    have IN := Lib.hid (fun w hr => implNext_any xs d Ax cx w hr (by omega))
    have SN := Lib.hid (fun w hr => specNext_any xs d Ax cx w hr (by omega))
    generalize nextR xs d = LC at IN SN hL8 hNC HNH
    obtain ⟨L, bad⟩ := LC
    dsimp only at IN SN hL8 hNC HNH
    have HNC := Lib.hid hNC; clear hNC
    go_wp2_with fail
    refine (IN.out _ (Reads.of_own X1.out)).mono ?_
    rintro e w2 ⟨v, rfl, own, b⟩
    obtain ⟨AN, cN, rfl, _⟩ := own_shape own
    have B2 := Lib.hid (B1.out.trans (b.mono B1.out.size))
    have C2 := Lib.hid (C1.out.below b)
    have X2 := Lib.hid (own_below X1.out b)
    have N2 := Lib.hid own
    clear b own
    clear B1
    clear C1
    clear X1
    go_wp2_with fail
    refine (SN.out _ (Reads.of_own X2.out)).mono ?_
    rintro e w3 ⟨v, rfl, own, b⟩
    obtain ⟨AM, cM, rfl, _⟩ := own_shape own
    have B3 := Lib.hid (B2.out.trans (b.mono B2.out.size))
    have C3 := Lib.hid (C2.out.below b)
    have X3 := Lib.hid (own_below X2.out b)
    have N3 := Lib.hid (own_below N2.out b)
    have M3 := Lib.hid own
    clear b own
    clear B2
    clear C2
    clear X2
    clear N2
    clear IN SN
    go_wp2_with fail
    refine (drawTake_any A n c _ C3.out).mono ?_
    rintro e w4 ⟨ys, Ay, cy, dy, ky, rfl, hq, own, b⟩
    have hy13 := hq.1
    clear hq
    have B4 := Lib.hid (B3.out.trans (b.mono B3.out.size))
    have C4 := Lib.hid (C3.out.below b)
    have X4 := Lib.hid (own_below X3.out b)
    have N4 := Lib.hid (own_below N3.out b)
    have M4 := Lib.hid (own_below M3.out b)
    have Y4 := Lib.hid own
    clear b own
    clear B3
    clear C3
    clear X3
    clear N3
    clear M3
    go_upto_region 7 with (fail)
    have b : Below w4.heap.size w4 (w4.alloc (.cells #[.int .i64 dy, .int .i64 ky] 50)) := (Below.refl _ _).alloc (Nat.le_refl _) _
    have S4 := Lib.hid (Blk.new w4 50 #[.int .i64 dy, .int .i64 ky])
    generalize w4.alloc (.cells #[.int .i64 dy, .int .i64 ky] 50) = w5 at b S4 ⊢
    have S5 := S4; clear S4
    have B5 := Lib.hid (B4.out.trans (b.mono B4.out.size))
    have C5 := Lib.hid (C4.out.below b)
    have X5 := Lib.hid (own_below X4.out b)
    have N5 := Lib.hid (own_below N4.out b)
    have M5 := Lib.hid (own_below M4.out b)
    have Y5 := Lib.hid (own_below Y4.out b)
    clear b
    clear B4
    clear C4
    clear X4
    clear N4
    clear M4
    clear Y4
    have hT13 := takeR_len ys (dy, ky)
    have IT := Lib.hid (fun w hr hA => implTake_any ys dy ky Ay cy w hr (by omega) hA)
    have ST := Lib.hid (fun w hr => specTake_any ys dy ky Ay cy w hr (by omega))
    generalize takeR ys (dy, ky) = TC at IT ST hT13
    obtain ⟨T, tc⟩ := TC
    dsimp only at IT ST hT13
    have s0 := S5.out.cell 0
    have s1 := S5.out.cell 1
    simp only [List.getElem?_toArray, List.getElem?_cons_succ, List.getElem?_cons_zero] at s0 s1
    have hAy := Lib.hid (own_none Y5.out)
    go_wp2_with fail
    refine (IT.out _ (Reads.of_own Y5.out) hAy.out).mono ?_
    rintro e w6 ⟨v, rfl, own, b⟩
    obtain ⟨AT, cT, rfl, _⟩ := own_shape own
    clear s0 s1
    have B6 := Lib.hid (B5.out.trans (b.mono B5.out.size))
    have C6 := Lib.hid (C5.out.below b)
    have X6 := Lib.hid (own_below X5.out b)
    have N6 := Lib.hid (own_below N5.out b)
    have M6 := Lib.hid (own_below M5.out b)
    have Y6 := Lib.hid (own_below Y5.out b)
    have S6 := Lib.hid (S5.out.below b S5.out.lt)
    have T6 := Lib.hid own
    clear b own
    clear B5
    clear C5
    clear X5
    clear N5
    clear M5
    clear Y5
    clear S5
    have s0 := S6.out.cell 0
    have s1 := S6.out.cell 1
    simp only [List.getElem?_toArray, List.getElem?_cons_succ, List.getElem?_cons_zero] at s0 s1
    go_wp2_with fail
    refine (ST.out _ (Reads.of_own Y6.out)).mono ?_
    rintro e w7 ⟨v, rfl, own, b⟩
    obtain ⟨AU, cU, rfl, _⟩ := own_shape own
    clear s0 s1
    have B7 := Lib.hid (B6.out.trans (b.mono B6.out.size))
    have C7 := Lib.hid (C6.out.below b)
    have X7 := Lib.hid (own_below X6.out b)
    have N7 := Lib.hid (own_below N6.out b)
    have M7 := Lib.hid (own_below M6.out b)
    have Y7 := Lib.hid (own_below Y6.out b)
    have S7 := Lib.hid (S6.out.below b S6.out.lt)
    have T7 := Lib.hid (own_below T6.out b)
    have U7 := Lib.hid own
    clear b own
    clear B6
    clear C6
    clear X6
    clear N6
    clear M6
    clear Y6
    clear S6
    clear T6
    clear IT ST hAy
    clear S7
    go_wp2_with fail
    refine (drawOut_any A n c _ C7.out).mono ?_
    rintro e w8 ⟨zs, Az, cz, rfl, hq, own, b⟩
    have hz13 := hq.1
    clear hq
    have B8 := Lib.hid (B7.out.trans (b.mono B7.out.size))
    have C8 := Lib.hid (C7.out.below b)
    have X8 := Lib.hid (own_below X7.out b)
    have N8 := Lib.hid (own_below N7.out b)
    have M8 := Lib.hid (own_below M7.out b)
    have Y8 := Lib.hid (own_below Y7.out b)
    have T8 := Lib.hid (own_below T7.out b)
    have U8 := Lib.hid (own_below U7.out b)
    have Z8 := Lib.hid own
    clear b own
    clear B7
    clear C7
    clear X7
    clear N7
    clear M7
    clear Y7
    clear T7
    clear U7
    clear C8
    have HCH := Lib.hid (fun (hp : isProc zs = true) hch h12 k hk => chance_law (zs := zs) hp hch h12 k hk)
    have HOF := Lib.hid (out_final (runR zs))
    obtain ⟨po, hpo⟩ : ∃ po, (if isProc zs = true then outcomeS (runR zs) else 0) = po := ⟨_, rfl⟩
    obtain ⟨ec, hec⟩ : ∃ ec : Int, (if isProc zs = true then 0 else 1) = ec := ⟨_, rfl⟩
    obtain ⟨sg, hsg⟩ : ∃ sg, (if isProc zs = true then (runR zs).stage else 0) = sg := ⟨_, rfl⟩
    obtain ⟨lv, hlv⟩ : ∃ lv, (if isProc zs = true then chanceV (runR zs) else 0) = lv := ⟨_, rfl⟩
    obtain ⟨lc, hlc⟩ : ∃ lc, (if isProc zs = true then chanceE (runR zs) else 1) = lc := ⟨_, rfl⟩
    have K0 := Lib.hid (fun w hr => implOutcome_any zs Az cz w hr (by omega))
    rw [orBad_form, hpo, hec] at K0
    have K1 := Lib.hid (fun w hr => specOutcome_any zs Az cz w hr (by omega))
    rw [orBad_form, hpo, hec] at K1
    have K2 := Lib.hid (fun w hr => implStage_any zs Az cz w hr (by omega))
    rw [orBad_form, hsg, hec] at K2
    have K3 := Lib.hid (fun w hr => specStage_any zs Az cz w hr (by omega))
    rw [orBad_form, hsg, hec] at K3
    have K4 := Lib.hid (fun w hr => implChance_any zs Az cz w hr (by omega))
    rw [orBad_form, hlv, hlc] at K4
    have K5 := Lib.hid (fun w hr => specChance_any zs (fit_any zs) Az cz w hr (by omega))
    rw [orBad_form, hlv, hlc] at K5
    have HF1 := Lib.hid (show ec = 0 → isProc zs = true ∧ (po != 0) = (sg == 5) from fun h => by
      cases hp : isProc zs
      · rw [hp] at hec; simp at hec; omega
      · refine ⟨rfl, ?_⟩
        rw [← hpo, ← hsg, hp]
        exact HOF.out)
    have HF2 := Lib.hid (show lc = 0 → isProc zs = true ∧ chanceE (runR zs) = 0 ∧ lv = chanceV (runR zs) ∧ sg = (runR zs).stage from fun h => by
      cases hp : isProc zs
      · rw [hp] at hlc; simp at hlc; omega
      · rw [hp] at hlc hlv hsg
        exact ⟨rfl, by rw [← h, ← hlc]; rfl, hlv.symm, hsg.symm⟩)
    clear hpo hec hsg hlv hlc HOF
    go_wp2_with fail
    refine (K0.out _ (Reads.of_own Z8.out)).mono ?_
    rintro e w9 ⟨rfl, b⟩
    have B9 := Lib.hid (B8.out.trans (b.mono B8.out.size))
    have X9 := Lib.hid (own_below X8.out b)
    have N9 := Lib.hid (own_below N8.out b)
    have M9 := Lib.hid (own_below M8.out b)
    have Y9 := Lib.hid (own_below Y8.out b)
    have T9 := Lib.hid (own_below T8.out b)
    have U9 := Lib.hid (own_below U8.out b)
    have Z9 := Lib.hid (own_below Z8.out b)
    clear b
    clear B8
    clear X8
    clear N8
    clear M8
    clear Y8
    clear T8
    clear U8
    clear Z8
    clear K0
    go_wp2_with fail
    refine (K1.out _ (Reads.of_own Z9.out)).mono ?_
    rintro e w10 ⟨rfl, b⟩
    have B10 := Lib.hid (B9.out.trans (b.mono B9.out.size))
    have X10 := Lib.hid (own_below X9.out b)
    have N10 := Lib.hid (own_below N9.out b)
    have M10 := Lib.hid (own_below M9.out b)
    have Y10 := Lib.hid (own_below Y9.out b)
    have T10 := Lib.hid (own_below T9.out b)
    have U10 := Lib.hid (own_below U9.out b)
    have Z10 := Lib.hid (own_below Z9.out b)
    clear b
    clear B9
    clear X9
    clear N9
    clear M9
    clear Y9
    clear T9
    clear U9
    clear Z9
    clear K1
    go_wp2_with fail
    refine (K2.out _ (Reads.of_own Z10.out)).mono ?_
    rintro e w11 ⟨rfl, b⟩
    have B11 := Lib.hid (B10.out.trans (b.mono B10.out.size))
    have X11 := Lib.hid (own_below X10.out b)
    have N11 := Lib.hid (own_below N10.out b)
    have M11 := Lib.hid (own_below M10.out b)
    have Y11 := Lib.hid (own_below Y10.out b)
    have T11 := Lib.hid (own_below T10.out b)
    have U11 := Lib.hid (own_below U10.out b)
    have Z11 := Lib.hid (own_below Z10.out b)
    clear b
    clear B10
    clear X10
    clear N10
    clear M10
    clear Y10
    clear T10
    clear U10
    clear Z10
    clear K2
    go_wp2_with fail
    refine (K3.out _ (Reads.of_own Z11.out)).mono ?_
    rintro e w12 ⟨rfl, b⟩
    have B12 := Lib.hid (B11.out.trans (b.mono B11.out.size))
    have X12 := Lib.hid (own_below X11.out b)
    have N12 := Lib.hid (own_below N11.out b)
    have M12 := Lib.hid (own_below M11.out b)
    have Y12 := Lib.hid (own_below Y11.out b)
    have T12 := Lib.hid (own_below T11.out b)
    have U12 := Lib.hid (own_below U11.out b)
    have Z12 := Lib.hid (own_below Z11.out b)
    clear b
    clear B11
    clear X11
    clear N11
    clear M11
    clear Y11
    clear T11
    clear U11
    clear Z11
    clear K3
    go_wp2_with fail
    refine (K4.out _ (Reads.of_own Z12.out)).mono ?_
    rintro e w13 ⟨rfl, b⟩
    have B13 := Lib.hid (B12.out.trans (b.mono B12.out.size))
    have X13 := Lib.hid (own_below X12.out b)
    have N13 := Lib.hid (own_below N12.out b)
    have M13 := Lib.hid (own_below M12.out b)
    have Y13 := Lib.hid (own_below Y12.out b)
    have T13 := Lib.hid (own_below T12.out b)
    have U13 := Lib.hid (own_below U12.out b)
    have Z13 := Lib.hid (own_below Z12.out b)
    clear b
    clear B12
    clear X12
    clear N12
    clear M12
    clear Y12
    clear T12
    clear U12
    clear Z12
    clear K4
    go_wp2_with fail
    refine (K5.out _ (Reads.of_own Z13.out)).mono ?_
    rintro e w14 ⟨rfl, b⟩
    have B14 := Lib.hid (B13.out.trans (b.mono B13.out.size))
    have X14 := Lib.hid (own_below X13.out b)
    have N14 := Lib.hid (own_below N13.out b)
    have M14 := Lib.hid (own_below M13.out b)
    have Y14 := Lib.hid (own_below Y13.out b)
    have T14 := Lib.hid (own_below T13.out b)
    have U14 := Lib.hid (own_below U13.out b)
    have Z14 := Lib.hid (own_below Z13.out b)
    clear b
    clear B13
    clear X13
    clear N13
    clear M13
    clear Y13
    clear T13
    clear U13
    clear Z13
    clear K5
    go_upto_region 16 with (fail)
    go_cut [164] (fun v wx => v = .bool false ∧ Below w14.heap.size w14 wx)
    case first => as_aux_lemma =>
      have hcase : (∃ b, (ec == 0) = true ∧ (po != 0) = b ∧ (sg == 5) = b) ∨ (ec == 0) = false := by
        by_cases h : ec = 0
        · exact .inl ⟨_, by simpa using h, rfl, (HF1.out h).2.symm⟩
        · exact .inr (by simpa using h)
      rcases hcase with ⟨b, hc1, hc2, hc3⟩ | hc1
      all_goals
        go_wp2_with fail
        refine (likeInts_same L L.length rfl AN AM cN cM _ (Reads.of_own N14.out) (Reads.of_own M14.out) (by omega)).mono ?_
        rintro e wa ⟨rfl, ba⟩
        have Ta := Lib.hid (own_below T14.out ba)
        have Ua := Lib.hid (own_below U14.out ba)
        have BA := Lib.hid ba; clear ba
        go_wp2_with fail
        refine (like_same T T.length rfl AT AU cT cU _ (Reads.of_own Ta.out) (Reads.of_own Ua.out) (by omega)).mono ?_
        rintro e wb ⟨rfl, bb⟩
        have BB := Lib.hid (BA.out.trans (bb.mono BA.out.size)); clear bb
        go_wp2_with fail
        go_meet
        exact ⟨by first | rfl | (cases b <;> rfl), BB.out⟩
    case rest => as_aux_lemma =>
      obtain ⟨rfl, b⟩ := hcut
      have B15 := Lib.hid (B14.out.trans (b.mono B14.out.size))
      have X15 := Lib.hid (own_below X14.out b)
      have N15 := Lib.hid (own_below N14.out b)
      have Z15 := Lib.hid (own_below Z14.out b)
      clear b HF1
      go_upto_region 18 with (fail)
      go_cut [175] (fun v wx => ∃ bb : Bool, v = .bool bb ∧ (bb = true → lc = 0 ∧ zs.length < 12 ∧ lv < 1000000000000) ∧ Below wc.heap.size wc wx)
      case first => as_aux_lemma =>
        by_cases h1 : lc = 0
        · have e1 : (lc == 0) = true := by simpa using h1
          by_cases h2 : zs.length < 12
          · by_cases h3 : lv < 1000000000000
            · have HH := Lib.hid (show lc = 0 ∧ zs.length < 12 ∧ lv < 1000000000000 from ⟨h1, h2, h3⟩); clear h1
              go_wp2_with fail
              go_meet
              exact ⟨true, rfl, fun _ => HH.out, Below.refl _ _⟩
            · clear h1
              go_wp2_with fail
              go_meet
              exact ⟨false, rfl, (fun h => by cases h), Below.refl _ _⟩
          · clear h1
            go_wp2_with fail
            go_meet
            exact ⟨false, rfl, (fun h => by cases h), Below.refl _ _⟩
        · have e1 : (lc == 0) = false := by simpa using h1
          clear h1
          go_wp2_with fail
          go_meet
          exact ⟨false, rfl, (fun h => by cases h), Below.refl _ _⟩
      case rest => as_aux_lemma =>
        obtain ⟨bb, rfl, hbb, b⟩ := hcut
        have HBB := Lib.hid hbb; clear hbb
        have B16 := Lib.hid (B15.out.trans (b.mono B15.out.size))
        have X16 := Lib.hid (own_below X15.out b)
        have N16 := Lib.hid (own_below N15.out b)
        have Z16 := Lib.hid (own_below Z15.out b)
        clear b
        go_upto_if 175 with (fail)
        go_cut [] (fun wx => Below wc.heap.size wc wx)
        case first => as_aux_lemma =>
          cases bb
          · go_wp2_with fail
            go_meet
            exact Below.refl _ _
          · obtain ⟨hlc, h12, hlt⟩ := HBB.out rfl
            obtain ⟨hp, hch, hlv, hsg⟩ := HF2.out hlc
            obtain ⟨k, hk⟩ : ∃ k : Nat, k = if (runR zs).stage = 3 then 4 else 1 := ⟨_, rfl⟩
            obtain ⟨hpos, hlaw1, hlaw2⟩ := HCH.out hp hch h12 k hk
            have hlv0 := chance_nonneg zs
            rw [← hlv] at hlaw1 hlaw2 hlv0
            rw [← hsg] at hk
            have HK := Lib.hid hk; clear hk hsg hlv hch hp hlc
            have hnc1 := next_code zs lv
            have hnc2 := next_code zs (lv + 1)
            rw [← hnc1] at hlaw1
            rw [← hnc2] at hlaw2
            have h8a : (nextR zs lv).1.length ≤ 8 := by
              unfold nextR; split
              · exact nextTo_len zs lv 8
              · simp
            have h8b : (nextR zs (lv + 1)).1.length ≤ 8 := by
              unfold nextR; split
              · exact nextTo_len zs _ 8
              · simp
            have I1 := Lib.hid (fun w hr => implNext_any zs lv Az cz w hr (by omega))
            have I2 := Lib.hid (fun w hr => implNext_any zs (lv + 1) Az cz w hr (by omega))
            clear hnc1 hnc2
            generalize nextR zs lv = P1 at hlaw1 I1 h8a
            generalize nextR zs (lv + 1) = P2 at hlaw2 I2 h8b
            obtain ⟨L1, c1⟩ := P1
            obtain ⟨L2, c2⟩ := P2
            dsimp only at hlaw1 hlaw2 I1 I2 h8a h8b
            obtain ⟨kk, hkk⟩ : ∃ kk : Int, (k : Int) = kk := ⟨_, rfl⟩
            rw [hkk] at hlaw1 hlaw2
            have HKK := Lib.hid hkk; clear hkk
            have HLW1 := Lib.hid hlaw1; have HLW2 := Lib.hid (hlaw2 hlt); clear hlaw1 hlaw2
            go_wp2_with fail
            refine (I1.out _ (Reads.of_own Z16.out)).mono ?_
            rintro e we ⟨v, rfl, own, b⟩
            obtain ⟨A1, e1, rfl, _⟩ := own_shape own
            have ZE := Lib.hid (own_below Z16.out b)
            have M1 := Lib.hid own
            have BE := Lib.hid b; clear b own I1
            go_wp2_with fail
            refine (I2.out _ (Reads.of_own ZE.out)).mono ?_
            rintro e wf ⟨v, rfl, own, b⟩
            obtain ⟨A2, e2, rfl, _⟩ := own_shape own
            have ZF := Lib.hid (own_below ZE.out b)
            have M1F := Lib.hid (own_below M1.out b)
            have M2 := Lib.hid own
            have BF := Lib.hid (BE.out.trans (b.mono BE.out.size)); clear b own I2
            have hr := Reads.of_own ZF.out
            obtain ⟨ab, ao, rfl, hadb, hcell⟩ := hr.2 hpos
            have p0 := hcell _ _ (stC_get zs (zs.length - 1) (by omega)).1
            rw [lastD_get hpos] at p0
            have hi : ((zs.length : Int) - 1) = ((zs.length - 1 : Nat) : Int) := by omega
            clear hcell hr
            obtain ⟨ld, hld⟩ : ∃ ld, ((zs.getLast?).getD (0, 0)).1 = ld := ⟨_, rfl⟩
            have HLD := Lib.hid (show lastD zs = ld from hld)
            rw [hld] at p0; clear hld
            have hk3 : ((sg == 3) = true ∧ kk = 4) ∨ ((sg == 3) = false ∧ kk = 1) := by
              by_cases h : sg = 3
              · exact .inl ⟨by simpa using h, by rw [← HKK.out, HK.out, if_pos h]; rfl⟩
              · exact .inr ⟨by simpa using h, by rw [← HKK.out, HK.out, if_neg h]; rfl⟩
            have hA : ((c1 == 0) = true ∧ ld ≤ lv ∧ decide (kk ∈ L1) = true) ∨ ((c1 == 0) = true ∧ ¬ ld ≤ lv) ∨ (c1 == 0) = false := by
              by_cases h : c1 = 0
              · by_cases h' : ld ≤ lv
                · exact .inl ⟨by simpa using h, h', decide_eq_true (HLW1.out h (by rw [HLD.out]; exact h'))⟩
                · exact .inr (.inl ⟨by simpa using h, h'⟩)
              · exact .inr (.inr (by simpa using h))
            have hB : ((c2 == 0) = true ∧ decide (kk ∈ L2) = false) ∨ (c2 == 0) = false := by
              by_cases h : c2 = 0
              · exact .inl ⟨by simpa using h, decide_eq_false (HLW2.out h)⟩
              · exact .inr (by simpa using h)
            clear HLW1 HLW2
            have H1 := Lib.hid (fun x w hr => hasInt_any L1 L1.length rfl x A1 e1 w hr (by omega))
            have H2 := Lib.hid (fun x w hr => hasInt_any L2 L2.length rfl x A2 e2 w hr (by omega))
            clear HK HKK
            rcases hk3 with ⟨hs, rfl⟩ | ⟨hs, rfl⟩
            all_goals
              rcases hA with ⟨a1, a2, a3⟩ | ⟨a1, a2⟩ | a1
              all_goals
                (try have HA3 := Lib.hid a3); (try clear a3)
                rcases hB with ⟨b1, b2⟩ | b1
                all_goals
                  (try have HB2 := Lib.hid b2); (try clear b2)
                  as_aux_lemma =>
                  go_wp2_with (go_at_call 49; first | ((with_reducible refine (H1.out _ _ (Reads.of_own M1F.out)).mono ?_); rw [HA3.out]; rintro e w' ⟨rfl, rfl⟩) | ((with_reducible refine (H2.out _ _ (Reads.of_own M2.out)).mono ?_); rw [HB2.out]; rintro e w' ⟨rfl, rfl⟩))
                  go_meet
                  exact BF.out
        case rest => as_aux_lemma =>
          have b := hcut
          have B17 := Lib.hid (B16.out.trans (b.mono B16.out.size))
          have X17 := Lib.hid (own_below X16.out b)
          have N17 := Lib.hid (own_below N16.out b)
          clear b
          by_cases hbad : bad = 0
          · have hc : codeB xs d = 0 := by rw [← HNC.out]; exact hbad
            have HX := Lib.hid (fun k hk => HNH.out hc k hk)
            have HTC := Lib.hid (fun k => take_code (xs := xs) (d := d) (k := k) hc)
            clear HNH HNC hc
            subst hbad
            go_wp2_with fail
            go_loopw [33] (fun v33 wr => ∃ k : Nat, k ≤ 8 ∧ v33 = .int .i64 k ∧ Hid (Below wc.heap.size wc wr)) (fun i _ => 8 - (intOf i).toNat)
            case atStart => exact ⟨0, by omega, rfl, Below.refl _ _⟩
            case round => as_aux_lemma =>
              obtain ⟨k, hk, rfl, BW⟩ := hrel
              have XW := Lib.hid (own_below X17.out BW.out)
              have NW := Lib.hid (own_below N17.out BW.out)
              by_cases hlt : k < 8
              · have IT := Lib.hid (fun w hr hA => implTake_any xs d k Ax cx w hr (by omega) hA)
                have hAx := Lib.hid (own_none XW.out)
                have HT := Lib.hid ((HTC.out (k : Int)).trans (HX.out k hlt).symm)
                generalize takeR xs (d, (k : Int)) = TC2 at IT HT
                obtain ⟨T2, tc2⟩ := TC2
                dsimp only at IT HT
                go_wp2_with fail
                refine (IT.out _ (Reads.of_own XW.out) hAx.out).mono ?_
                rintro e wg ⟨v, rfl, _, b⟩
                have NG := Lib.hid (own_below NW.out b)
                have BG := Lib.hid (BW.out.trans (b.mono BW.out.size)); clear b
                obtain ⟨hb, hbe⟩ : ∃ hb, decide ((k : Int) ∈ L) = hb := ⟨_, rfl⟩
                have HBE := Lib.hid hbe
                have htc : (tc2 == 0) = hb := by rw [← hbe]; exact HT.out
                clear hbe
                go_wp2_with fail
                refine (hasInt_any L L.length rfl k AN cN _ (Reads.of_own NG.out) (by omega)).mono ?_; rw [HBE.out]; rintro e w' ⟨rfl, rfl⟩
                cases hb
                all_goals
                  go_wp2_with fail
                  go_roundw
                  case rel => exact ⟨k + 1, by omega, by go_num, BG.out⟩
                  case measure => simp [intOf]; omega
              · obtain rfl : k = 8 := by omega
                go_wp2_with fail
                go_ret
                exact ⟨rfl, B17.out.trans (BW.out.mono B17.out.size)⟩
          · have hne : (bad != 0) = true := by rw [bne_iff_ne]; exact hbad
            clear hbad HNH HNC
            go_wp2_with fail
            go_ret
            exact ⟨rfl, B17.out⟩
end Go.Proofs.Yteffnidkkeeaiaa
