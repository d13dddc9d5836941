/- The law FnWordsOfMeanders, as plain lists tell it: at all bytes the law says yes. -/
import Derived.Test.YtldbkkfkgfacdaaPCyc
import Derived.Test.YtldbkkfkgfacdaaHWordsOfMeanders
import Derived.Test.YtldbkkfkgfacdaaQD0
set_option linter.unusedVariables false
set_option linter.unusedSimpArgs false
namespace Go.Proofs.Ytldbkkfkgfacdaa.Pure
open Go.RowKit Go.Proofs.Ytldbkkfkgfacdaa.P Go.Proofs.YtldbkkfkgfacdaaW.PrintWords Go.Proofs.YtldbkkfkgfacdaaW.PrintLast Go.Proofs.YtldbkkfkgfacdaaW.PrintMore

theorem FnWordsOfMeanders : laws_FnWordsOfMeanders.Pure := by
  intro l0 l1 hl0 _ hw0 hl1 _ hw1
  obtain ⟨k, hk⟩ : ∃ k, k = l0.length + l1.length + 20000 := ⟨_, rfl⟩
  refine ⟨k, ?_⟩
  have hbig := big_ans l0 l1 hl0 hl1
  by_cases hb : l0.length + l1.length ≤ 1048576
  case neg =>
    rw [decide_eq_false hb] at hbig
    exact .m_big hbig
  rw [decide_eq_true hb] at hbig
  have hB0 : Bytes l0 := ⟨by omega, fun x hx => wf_u8' (hw0 x hx)⟩
  have hB1 : Bytes l1 := ⟨by omega, fun x hx => wf_u8' (hw1 x hx)⟩
  obtain ⟨p, q, hp, hq, hdm⟩ := drawMeander_ok hB0 k (by omega)
  obtain ⟨li, hli, hdl⟩ := drawClosed_ok hB1 k (by omega)
  have hdp : spec_DrawPermutationOf.f k l0 = some (p, q) := by unfold spec_DrawPermutationOf.f; rw [hdm]; rfl
  have hds : spec_DrawPositionsOf.f k l1 = some li := by unfold spec_DrawPositionsOf.f; rw [hdl]; rfl
  have ip := perm_ev p q (by omega) (by omega) k (by omega)
  have sp := sperm_ans p q (by omega) (by omega) k (by omega)
  obtain ⟨sP, iP⟩ := isPerm_ans li (by omega) k (by omega)
  have enil : laws_sSame.f k [] [] = some true := sSame_ev [] (by simp) k (by omega)
  have enil2 : laws_sSamePair.f k [] [] [] [] = some true := sSamePair_ev [] [] (by simp) (by simp) k (by omega)
  -- the second half
  have first : closedB li = true → ∃ (tt tb r : List Int), spec_FromPermutation.f k li = some (tt, tb, true) ∧ impl_FromPermutation.f k li = some (tt, tb, true) ∧ laws_sSamePair.f k tt tb tt tb = some true ∧ impl_PermutationOf.f k tt tb = some (li, true) ∧
      spec_PositionsOf.f k li = some (r, true) ∧ impl_PositionsOf.f k li = some (r, true) ∧ laws_sSame.f k li li = some true ∧ laws_sSame.f k r r = some true ∧ (r.length ≤ 1000 ∧ ∀ i : Nat, i < r.length → rd r (i : Int) = (i : Int) % 2) ∧ impl_CrossingOf.f k li = some ([], false) := by
    intro hc
    have hcl := (closed_iff li).1 hc
    have h12 := hcl.len
    obtain ⟨tt, tb, hM, hf⟩ := fromW_yes li hc
    obtain ⟨fs, fi⟩ := hf k (by omega)
    obtain ⟨hm, hword⟩ := closed_meander hcl hM
    have l1 := hM.lp
    have l2 := hM.lq
    obtain ⟨_, _, _, hpar⟩ := meander_closed hm
    rw [hword] at hpar
    have ipp := perm_ev tt tb (by omega) (by omega) k (by omega)
    rw [hm, if_pos rfl, hword] at ipp
    obtain ⟨r, hr1, hr2, hr3⟩ := pos_yes li hc
    obtain ⟨ps, pi⟩ := hr3 k (by omega)
    have hel : (evens r).length = li.length := by simp [evens, hr1]
    obtain ⟨v, hv1, _⟩ := place h12.2 hcl.word
    refine ⟨tt, tb, evens r, fs, fi, sSamePair_ev tt tb (by omega) (by omega) k (by omega), ipp, ps, pi, sSame_ev li (by omega) k (by omega), sSame_ev _ (by omega) k (by omega), ⟨by omega, fun i hi => ?_⟩, crossing_closed li hc k (by omega)⟩
    rw [hel] at hi
    obtain ⟨g1, g2⟩ := hv1 i hi
    have e1 := hr2 (v i) g1
    have e2 := hpar (v i) (by omega)
    rw [g2] at e1 e2
    rw [rd_nat, getD_get _ _ (by omega)]
    unfold evens
    rw [List.getElem_map, ← getD_get r i (by omega), e1, Int.tmod_eq_emod_of_nonneg (by omega)]
    omega
  cases hm : meander p q with
  | false =>
    rw [hm, if_neg (by simp)] at ip sp
    obtain ⟨sc, ic⟩ := cyc_no p q (by omega) (by omega) hm k (by omega)
    cases hc : closedB li with
    | false =>
      obtain ⟨fs, fi⟩ := fromW_no li (by omega) hc k (by omega)
      obtain ⟨ps, pi⟩ := pos_no li (by omega) hc k (by omega)
      rw [hc] at sP iP
      exact .m_false_false ⟨p, q, [], [], li, [], [], _, li, [], false, hbig, hdp, ip, sp, ic, sc, enil, enil, hdl, fi, fs, iP, sP, enil2, hds, pi, ps, enil⟩
    | true =>
      obtain ⟨tt, tb, r, fs, fi, e1, ipp, ps, pi, e2, e3, hpos, hcr⟩ := first hc
      rw [hc] at sP iP
      exact .m_true_false ⟨p, q, [], [], li, tt, tb, _, r, [], li, r, true, hbig, hdp, ip, sp, ic, sc, enil, enil, hdl, fi, fs, iP, sP, e1, ipp, pi, e2, hpos, hcr, hds, pi, ps, e3⟩
  | true =>
    rw [hm, if_pos rfl] at ip sp
    obtain ⟨hwl, hcl, hM, _⟩ := meander_closed hm
    obtain ⟨cy, hc1, hc2, hc3⟩ := cyc_yes p q hm
    obtain ⟨sc, ic⟩ := hc3 k (by omega)
    have h12 := hcl.len
    obtain ⟨r, s, hM2, hrs⟩ := fromW_yes (word p q) ((closed_iff _).2 hcl)
    obtain ⟨e1, e2⟩ := mea_one hcl hM2 hM
    rw [e1, e2] at hrs
    have fw := (hrs k (by omega)).2
    have epq := sSamePair_ev p q (by omega) (by omega) k (by omega)
    generalize word p q = w at *
    have ew := sSame_ev w (by omega) k (by omega)
    have ecy := sSame_ev cy (by omega) k (by omega)
    have hcyc : w.length ≤ 1000 ∧ atf w 0 = 0 ∧ ∀ i : Nat, i < w.length → 0 ≤ rd w (i : Int) ∧ rd w (i : Int) < (cy.length : Int) ∧ rd cy (rd w (i : Int)) = atf w (i + 1) := by
      refine ⟨by omega, ?_, fun i hi => ?_⟩
      · unfold atf; rw [if_pos (by omega), rd_nat]; exact hcl.zero
      · obtain ⟨g1, g2⟩ := wv_val hcl.word i hi
        have g3 := hc2 i hi
        rw [rd_nat, g1, rd_nat, g3]
        refine ⟨by omega, by omega, ?_⟩
        unfold atf
        by_cases c : i + 1 < w.length
        · rw [if_pos c, Nat.mod_eq_of_lt c, rd_nat]
        · rw [if_neg c, show i + 1 = w.length by omega, Nat.mod_self]; exact hcl.zero
    cases hc : closedB li with
    | false =>
      obtain ⟨fs, fi⟩ := fromW_no li (by omega) hc k (by omega)
      obtain ⟨ps, pi⟩ := pos_no li (by omega) hc k (by omega)
      rw [hc] at sP iP
      exact .m_false_true ⟨p, q, w, cy, li, [], [], _, li, [], false, hbig, hdp, ip, sp, ic, sc, ew, ecy, hdl, fi, fs, iP, sP, enil2, hds, pi, ps, enil, fw, hcyc, epq⟩
    | true =>
      obtain ⟨tt, tb, r, fs, fi, e1, ipp, ps, pi, e2, e3, hpos, hcr⟩ := first hc
      rw [hc] at sP iP
      exact .m_true_true ⟨p, q, w, cy, li, tt, tb, _, r, [], li, r, true, hbig, hdp, ip, sp, ic, sc, ew, ecy, hdl, fi, fs, iP, sP, e1, ipp, pi, e2, hpos, hcr, hds, pi, ps, e3, fw, hcyc, epq⟩

end Go.Proofs.Ytldbkkfkgfacdaa.Pure
