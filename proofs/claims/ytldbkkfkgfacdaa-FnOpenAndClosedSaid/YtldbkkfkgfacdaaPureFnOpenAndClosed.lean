/- The law FnOpenAndClosed, as plain lists tell it: at all bytes the law says yes. -/
import Derived.Test.YtldbkkfkgfacdaaPN3
import Derived.Test.YtldbkkfkgfacdaaHOpenAndClosed
import Derived.Test.YtldbkkfkgfacdaaQA3
set_option linter.unusedVariables false
set_option linter.unusedSimpArgs false
namespace Go.Proofs.Ytldbkkfkgfacdaa.Pure
open Go.RowKit Go.Proofs.Ytldbkkfkgfacdaa.P Go.Proofs.YtldbkkfkgfacdaaW.PrintWords Go.Proofs.YtldbkkfkgfacdaaW.PrintLast Go.Proofs.YtldbkkfkgfacdaaW.PrintMore

theorem take_last {R : List Int} {n : Nat} (h : R.length = n + 1) (hl : R.getD n 0 = (n : Int)) : R.take n ++ [(n : Int)] = R := by
 refine List.ext_getElem (by simp; omega) fun i h1 h2 => ?_; rw [List.getElem_append]
 by_cases c : i < n
 ·rw [dif_pos (by rw [List.length_take]; omega), List.getElem_take]
 (have e : i = n := by omega); subst e; rw [dif_neg (by rw [List.length_take]; omega)]; rw [getD_get R i h2] at hl; simp [hl]
theorem FnOpenAndClosed : laws_FnOpenAndClosed.Pure := by
 intro l0 l1 hl0 _ hw0 hl1 _ hw1; obtain ⟨k, hk⟩ : ∃ k, k = l0.length + l1.length + 20000 := ⟨_, rfl⟩; refine ⟨k, ?_⟩; have hbig := big_ans l0 l1 hl0 hl1; by_cases hb : l0.length + l1.length ≤ 1048576
 case neg =>
  rw [decide_eq_false hb] at hbig; exact .t_big hbig
 rw [decide_eq_true hb] at hbig; have hB0 : Bytes l0 := ⟨by omega, fun x hx => wf_u8' (hw0 x hx)⟩; have hB1 : Bytes l1 := ⟨by omega, fun x hx => wf_u8' (hw1 x hx)⟩; obtain ⟨w, hw24, hdw⟩ := drawOpen_ok hB0 k (by omega); obtain ⟨p, q, hp, hq, hdm⟩ := drawMeander_ok hB1 k (by omega); (have hdo : spec_DrawOpenToClosed.f k l0 = some w := by unfold spec_DrawOpenToClosed.f; rw [hdw]; rfl); (have hdc : spec_DrawClosedToOpen.f k l1 = some (p, q) := by unfold spec_DrawClosedToOpen.f; rw [hdm]; rfl); obtain ⟨sc, ic⟩ := cto_ans p q (by omega) (by omega) k (by omega); have epq := sSamePair_ev p q (by omega) (by omega) k (by omega); have ecut : ∀ R : List Int, R.length ≤ 24 → laws_sSame.f k (R.take (R.length - 1)) (R.take (R.length - 1)) = some true := fun R hR => sSame_ev _ (by rw [List.length_take]; omega) k (by omega); have enil : laws_sSame.f k [] [] = some true := sSame_ev [] (by simp) k (by omega)
 -- what is told of the second half
 have back : ctoB p q = true → ∃ op, impl_ClosedToOpen.f k p q = some (op, true) ∧ spec_ClosedToOpen.f k p q = some (op, true) ∧ laws_sSame.f k op op = some true ∧ impl_OpenToClosed.f k op = some (p, q, true) ∧ impl_IsOpenPermutation.f k op = some (true, true) := by
  intro hc; rw [hc, if_pos rfl] at sc ic; unfold ctoB at hc; rw [Bool.and_eq_true, decide_eq_true_eq] at hc; obtain ⟨hm, hlast⟩ := hc; obtain ⟨hwl, hcl, hM, _⟩ := meander_closed hm; have h24 := word_len hm; generalize word p q = R at *; have h2 := hcl.len; obtain ⟨n, hn⟩ : ∃ n, R.length = n + 1 := ⟨R.length - 1, by omega⟩; rw [hn, Nat.add_sub_cancel] at hlast sc ic; have ht := take_last hn hlast; (have htl : (R.take n).length = n := by rw [List.length_take]; omega); (have hcl2 : Closed (R.take n ++ [((R.take n).length : Int)]) := by rw [htl, ht]; exact hcl); obtain ⟨ho1, ho2⟩ := open_of_closed hcl2; obtain ⟨r, s, hM2, hrs⟩ := otc_yes (R.take n) (by omega) ho1; rw [htl, ht] at hM2; obtain ⟨e1, e2⟩ := mea_one hcl hM2 hM; rw [e1, e2] at hrs; have io := isOpen_ans (R.take n) k (by omega); rw [ho2, decide_eq_true (by omega)] at io; exact ⟨R.take n, ic, sc, sSame_ev _ (by omega) k (by omega), (hrs k (by omega)).2, io⟩
 cases ho : otcB w with
 | false =>
  obtain ⟨so, io⟩ := otc_no w (by omega) ho k (by omega); have e0 := sSamePair_ev [] [] (by simp) (by simp) k (by omega)
  cases hc : ctoB p q with
  | false =>
   rw [hc, if_neg (by simp)] at sc ic; exact .t_false_false ⟨w, [], [], p, q, [], hbig, hdo, io, so, e0, hdc, ic, sc, enil⟩
  | true =>
   obtain ⟨op, c1, c2, c3, c4, c5⟩ := back hc; exact .t_false_true ⟨w, [], [], p, q, op, hbig, hdo, io, so, e0, hdc, c1, c2, c3, c4, c5, epq⟩
 | true =>
  have hcl := otc_closed ho; have h12 := hcl.len; obtain ⟨r, s, hM, hrs⟩ := otc_yes w (by omega) ho; obtain ⟨so, io⟩ := (hrs k (by omega)); obtain ⟨hm, hword⟩ := closed_meander hcl hM; (have hlen : (w ++ [(w.length : Int)]).length = w.length + 1 := by simp); rw [hlen] at h12; (have hrl : r.length = w.length + 1 := by rw [hM.lp, hlen]); (have hsl : s.length = w.length + 1 := by rw [hM.lq, hlen]); have ers := sSamePair_ev r s (by omega) (by omega) k (by omega); obtain ⟨sc2, ic2⟩ := cto_ans r s (by omega) (by omega) k (by omega)
  have hcr : ctoB r s = true := by
   unfold ctoB; rw [hm, hword, hlen, Nat.add_sub_cancel]
   have : (w ++ [(w.length : Int)]).getD w.length 0 = (w.length : Int) := by
    rw [List.getD_eq_getElem?_getD, List.getElem?_append_right (Nat.le_refl _)]; simp
   rw [this]; simp
  rw [hcr, if_pos rfl, hword, hlen, Nat.add_sub_cancel, List.take_left' rfl] at ic2; have ip := perm_ev r s (by omega) (by omega) k (by omega); rw [hm, if_pos rfl, hword] at ip; have im := isMeander_yes r s hm k (by omega); have ew := sSame_ev w (by omega) k (by omega)
  have hlast : (w ++ [(w.length : Int)]).length = w.length + 1 ∧ rd (w ++ [(w.length : Int)]) (w.length : Int) = (w.length : Int) ∧ w.length ≤ 1000 := by
   refine ⟨hlen, ?_, by omega⟩; rw [rd_nat, List.getD_eq_getElem?_getD, List.getElem?_append_right (Nat.le_refl _)]; simp
  cases hc : ctoB p q with
  | false =>
   rw [hc, if_neg (by simp)] at sc ic; exact .t_true_false ⟨w, r, s, _, p, q, [], hbig, hdo, io, so, ers, ic2, im, ip, hlast, ew, hdc, ic, sc, enil⟩
  | true =>
   obtain ⟨op, c1, c2, c3, c4, c5⟩ := back hc; exact .t_true_true ⟨w, r, s, _, p, q, op, hbig, hdo, io, so, ers, ic2, im, ip, hlast, ew, hdc, c1, c2, c3, c4, c5, epq⟩

end Go.Proofs.Ytldbkkfkgfacdaa.Pure
