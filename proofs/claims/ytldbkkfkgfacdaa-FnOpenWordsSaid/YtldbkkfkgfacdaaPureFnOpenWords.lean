/- The law FnOpenWords, as plain lists tell it: at all bytes the law says yes. -/
import Derived.Test.YtldbkkfkgfacdaaPOWords
import Derived.Test.YtldbkkfkgfacdaaOWL
import Derived.Test.YtldbkkfkgfacdaaQD0
set_option linter.unusedVariables false
set_option linter.unusedSimpArgs false
namespace Go.Proofs.Ytldbkkfkgfacdaa.Pure
open Go.RowKit Go.Proofs.Ytldbkkfkgfacdaa.P Go.Proofs.YtldbkkfkgfacdaaW.PrintWords Go.Proofs.YtldbkkfkgfacdaaW.PrintLast Go.Proofs.YtldbkkfkgfacdaaW.PrintMore

theorem rd4 (i j : Nat) : rd (four i j) 0 = (i : Int) ∧ rd (four i j) 1 = ((i + 1 : Nat) : Int) ∧ rd (four i j) 2 = (j : Int) ∧ rd (four i j) 3 = ((j + 1 : Nat) : Int) := ⟨rfl, rfl, rfl, rfl⟩
theorem l1_ok (R : List (List Int)) (hR : R.length ≤ 1048576) (h1 : ∀ x ∈ R, x.length ≤ 12 ∧ openB x = true) (h2 : R.Pairwise Lt) (h3 : ∀ x ∈ R, ∀ y ∈ R, x.length = y.length) (d : Nat) : ∀ (k i : Nat), i + d = R.length → d + 4000 ≤ k →
    laws_FnOpenWords.l1 k R R (R.length : Int) (i : Int) = some true := by
  induction d with
  | zero =>
    intro k i hi hk
    obtain ⟨k, rfl⟩ : ∃ m, k = m + 1 := ⟨k - 1, by omega⟩
    rw [laws_FnOpenWords.l1, if_neg (by omega)]
  | succ d ih =>
    intro k i hi hk
    obtain ⟨k, rfl⟩ : ∃ m, k = m + 1 := ⟨k - 1, by omega⟩
    have hlt : i < R.length := by omega
    obtain ⟨a1, a2⟩ := h1 _ (List.getElem_mem hlt)
    have io := isOpen_ans R[i] k (by omega)
    rw [a2, decide_eq_true a1] at io
    rw [laws_FnOpenWords.l1, if_pos (by omega), if_pos (by omega), if_pos (by omega), rdL2_at hlt, io, Option.bind_some, if_pos rfl, if_pos rfl]
    by_cases h0 : i = 0
    · rw [if_neg (by omega), wrap_succ (by omega)]
      exact ih k (i + 1) (by omega) (by omega)
    · obtain ⟨j, rfl⟩ : ∃ j, i = j + 1 := ⟨i - 1, by omega⟩
      have hw : wrap64 (((j + 1 : Nat) : Int) - 1) = (j : Int) := by rw [wrap_id (by omega) (by omega)]; omega
      have hj : j < R.length := by omega
      have lt := List.pairwise_iff_getElem.1 h2 j (j + 1) hj hlt (by omega)
      have e := less_ans lt (h3 _ (List.getElem_mem hj) _ (List.getElem_mem hlt)) (by have := (h1 _ (List.getElem_mem hj)).1; omega) k (by omega)
      rw [if_pos (by omega), hw, if_pos (by omega), if_pos (by omega), rdL2_at hj, e, Option.bind_some, if_pos rfl, wrap_succ (by omega)]
      exact ih k (j + 1 + 1) (by omega) (by omega)
theorem j7_ok {l : List Int} (h : Bytes l) (k : Nat) (hk : 2000000 ≤ k) : laws_FnOpenWords.j7 k l = some true := by
  obtain ⟨k, rfl⟩ : ∃ m, k = m + 2 := ⟨k - 2, by omega⟩
  obtain ⟨n, e⟩ := drawN_ok h
  obtain ⟨h1, h2, h3, h4⟩ := ans_rows n
  have s1 := sRows_ev (openAns n).1 h1 (fun x hx => by have := (h2 x hx).1; omega) (k + 1) (by omega)
  have hl := l1_ok _ h1 h2 h3 h4 (openAns n).1.length k 0 (by omega) (by omega)
  rw [Int.natCast_zero] at hl
  have h8 : laws_FnOpenWords.j8 (k + 1) (openAns n).1 false = some true := by
    rw [laws_FnOpenWords.j8, if_neg (by simp)]; exact hl
  rw [laws_FnOpenWords.j7, e, Option.bind_some, iopen_ev n _ (by omega), Option.bind_some, sopen_ev n _ (by omega), Option.bind_some, count_ans n _ (by omega), Option.bind_some, if_neg (by simp), s1, Option.bind_some, if_pos rfl, if_neg (by simp)]
  by_cases g : (openAns n).2 = true
  · rw [if_pos g, show (((openAns n).1.length : Int) != ((openAns n).1.length : Int)) = false from bne_self_eq_false _]; exact h8
  · rw [if_neg g]; exact h8
theorem j4_ok {l : List Int} (h : Bytes l) (k : Nat) (hk : 3000000 ≤ k) : laws_FnOpenWords.j4 k l = some true := by
  obtain ⟨k, rfl⟩ : ∃ m, k = m + 3 := ⟨k - 3, by omega⟩
  obtain ⟨x, hx, ed⟩ := drawOpen_ok h (k + 2) (by omega)
  have H7 := j7_ok h
  obtain ⟨b1, b2⟩ := back_ans x (by omega) (k + 2) (by omega)
  obtain ⟨m1, m2⟩ := mir_ans x (by omega) (k + 2) (by omega)
  have io := isOpen_ans x (k + 2) (by omega)
  have so := sOpen_ans x (by omega) (k + 2) (by omega)
  have hs : ∀ (q k : Nat) (r : List Int), r.length ≤ 24 → 1100 ≤ k → laws_sSame.f k r r = some true := fun q k r hr hk => sSame_ev r (by omega) k hk
  rw [laws_FnOpenWords.j4, ed, Option.bind_some, io, Option.bind_some, so, Option.bind_some, b2, Option.bind_some, b1, Option.bind_some, m2, Option.bind_some, m1, Option.bind_some]
  cases hp : ptsB x with
  | false =>
    obtain ⟨i1, i2⟩ := inv_no x (by omega) hp (k + 2) (by omega)
    have e0 := sSame_ev [] (by simp) (k + 2) (by omega)
    rw [i2, Option.bind_some, i1, Option.bind_some, if_neg (by simp), if_neg (by simp)]
    simp only [Bool.false_eq_true, if_false, bne_self_eq_false]
    rw [e0]
    simp only [Option.bind_some, if_true, Bool.not_true]
    rw [laws_FnOpenWords.j5, if_neg (by simp), if_neg (by simp)]
    exact H7 _ (by omega)
  | true =>
    obtain ⟨P, hP, hi⟩ := inv_ans x hp
    obtain ⟨i1, i2⟩ := hi (k + 2) (by omega)
    have hpP := hP.pts hp
    obtain ⟨Q, hQ, hj⟩ := inv_ans P hpP
    obtain rfl := hP.back hp hQ
    have hr := ptsB_rev hp
    have hn := ptsB_numb hp
    have l12 := ptsB_len hp
    rw [i2, Option.bind_some, i1, Option.bind_some, if_neg (by simp), if_neg (by simp)]
    have s1 := sSame_ev Q.reverse (by simp; omega) (k + 2) (by omega)
    have s2 := sSame_ev (numb Q) (by rw [numb_len]; omega) (k + 2) (by omega)
    have s3 := sSame_ev P (by rw [hP.len]; omega) (k + 2) (by omega)
    simp only [Bool.false_eq_true, if_false, bne_self_eq_false, if_true]
    rw [s1]
    simp only [Option.bind_some, if_true, Bool.not_true]
    rw [s2]
    simp only [Option.bind_some, if_true, Bool.not_true]
    rw [s3]
    simp only [Option.bind_some, if_true, Bool.not_true]
    obtain ⟨_, t2⟩ := back_ans Q.reverse (by simp; omega) (k + 1) (by omega)
    obtain ⟨_, t4⟩ := mir_ans (numb Q) (by rw [numb_len]; omega) (k + 1) (by omega)
    have t5 := isOpen_ans (numb Q) (k + 1) (by omega)
    have t6 := isOpen_ans Q.reverse (k + 1) (by omega)
    rw [hr, if_pos rfl, List.reverse_reverse] at t2
    rw [hn, if_pos rfl, numb_numb] at t4
    rw [open_numb hp, numb_len, decide_eq_true l12] at t5
    rw [open_rev hp, List.length_reverse, decide_eq_true l12] at t6
    have s4 := sSame_ev Q (by omega) (k + 1) (by omega)
    rw [laws_FnOpenWords.j5, if_neg (by simp), if_pos rfl, (hj (k + 1) (by omega)).2, Option.bind_some, t2, Option.bind_some, t4, Option.bind_some, t5, Option.bind_some, t6, Option.bind_some, if_pos rfl, if_pos rfl, if_pos rfl, if_pos rfl, if_pos rfl, s4, Option.bind_some, if_pos rfl, Option.bind_some, if_pos rfl, Option.bind_some, if_pos rfl, laws_FnOpenWords.j6, if_neg (by simp), if_neg (by simp)]
    exact H7 _ (by omega)
theorem l0_ok {l : List Int} (h : Bytes l) (lo hi c d : Int) (hx : ((decide (lo < c) && decide (c < hi)) != (decide (lo < d) && decide (d < hi))) = true) (k : Nat) (hk : 4000000 ≤ k) :
    laws_FnOpenWords.l0 k l lo hi 0 [c, d] 2 0 = some true := by
  obtain ⟨k, rfl⟩ : ∃ m, k = m + 3 := ⟨k - 3, by omega⟩
  have H4 := j4_ok h k (by omega)
  have r0 : rd [c, d] 0 = c := rfl
  have r1 : rd [c, d] 1 = d := rfl
  have w0 : wrap64 (0 + 1) = 1 := wrap_id (by omega) (by omega)
  have w1 : wrap64 (1 + 1) = 2 := wrap_id (by omega) (by omega)
  have e2 : ∀ (k : Nat), 3000000 ≤ k → laws_FnOpenWords.l0 (k + 1) l lo hi 1 [c, d] 2 2 = some true := by
    intro k hk
    rw [laws_FnOpenWords.l0, if_neg (by omega), if_pos rfl]
    exact j4_ok h k hk
  have q1 : (1 : Int) < (([c, d] : List Int).length : Int) := by simp
  have q0 : (0 : Int) < (([c, d] : List Int).length : Int) := by simp
  rw [laws_FnOpenWords.l0, if_pos (by omega), if_pos (by omega), if_pos q0, r0, w0]
  by_cases a1 : lo < c
  · by_cases a2 : c < hi
    · have f : (decide (lo < d) && decide (d < hi)) = false := by
        rw [decide_eq_true a1, decide_eq_true a2] at hx
        cases hh : (decide (lo < d) && decide (d < hi)) with
        | false => rfl
        | true => rw [hh] at hx; simp at hx
      rw [if_pos (show c > lo from a1), if_pos a2, laws_FnOpenWords.l0, if_pos (by omega), if_pos (by omega), if_pos q1, r1, w1]
      by_cases b1 : lo < d
      · have b2 : ¬ d < hi := by
          intro g; rw [decide_eq_true b1, decide_eq_true g] at f; simp at f
        rw [if_pos (show d > lo from b1), if_neg b2]
        exact e2 k (by omega)
      · rw [if_neg (show ¬ d > lo from b1)]
        exact e2 k (by omega)
    · have f : (decide (lo < d) && decide (d < hi)) = true := by
        rw [decide_eq_false a2, Bool.and_false] at hx
        simpa using hx
      rw [Bool.and_eq_true, decide_eq_true_eq, decide_eq_true_eq] at f
      rw [if_pos (show c > lo from a1), if_neg a2, laws_FnOpenWords.l0, if_pos (by omega), if_pos (by omega), if_pos q1, r1, if_pos (show d > lo from f.1), if_pos f.2, w0, w1]
      exact e2 k (by omega)
  · have f : (decide (lo < d) && decide (d < hi)) = true := by
      rw [decide_eq_false a1, Bool.false_and] at hx
      simpa using hx
    rw [Bool.and_eq_true, decide_eq_true_eq, decide_eq_true_eq] at f
    rw [if_neg (show ¬ c > lo from a1), laws_FnOpenWords.l0, if_pos (by omega), if_pos (by omega), if_pos q1, r1, if_pos (show d > lo from f.1), if_pos f.2, w0, w1]
    exact e2 k (by omega)
theorem j1_ok {l w : List Int} (h : Bytes l) (i j : Nat) (hij : i < j) (hj : j + 1 < w.length) (hc : c4 w i j = true) (k : Nat) (hk : 5000000 ≤ k) : laws_FnOpenWords.j1 k l w (four i j) false = some true := by
  obtain ⟨k, rfl⟩ : ∃ m, k = m + 2 := ⟨k - 2, by omega⟩
  obtain ⟨r0, r1, r2, r3⟩ := rd4 i j
  have hl : ((four i j).length : Int) = 4 := rfl
  have H : ∀ lo hi : Int, lo = min (w.getD i 0) (w.getD (i + 1) 0) → hi = max (w.getD i 0) (w.getD (i + 1) 0) → laws_FnOpenWords.j2 (k + 1) l w (four i j) lo hi = some true := by
    intro lo hi e1 e2
    rw [laws_FnOpenWords.j2, hl, if_pos (by omega), r2, r3, if_pos (by omega), if_pos (by omega), if_pos (by omega), if_pos (by omega), if_pos (by omega), Option.bind_some, rd_nat, rd_nat]
    refine l0_ok h lo hi _ _ ?_ k (by omega)
    rw [e1, e2]
    exact hc
  rw [laws_FnOpenWords.j1, if_neg (by simp), hl, if_pos (by omega), r0, r1, if_pos (by omega), if_pos (by omega), if_pos (by omega), if_pos (by omega), if_pos (by omega), rd_nat, rd_nat]
  by_cases g : w.getD i 0 > w.getD (i + 1) 0
  · rw [if_pos g]
    exact H _ _ (by omega) (by omega)
  · rw [if_neg g]
    exact H _ _ (by omega) (by omega)
theorem FnOpenWords : laws_FnOpenWords.Pure := by
  intro l0 l1 hl0 _ hw0 hl1 _ hw1
  obtain ⟨k, hk⟩ : ∃ k, k = l0.length + l1.length + 6000000 := ⟨_, rfl⟩
  refine ⟨k, ?_⟩
  have hbig := big_ans l0 l1 hl0 hl1
  unfold laws_FnOpenWords.f
  by_cases hb : l0.length + l1.length ≤ 1048576
  case neg =>
    rw [decide_eq_false hb] at hbig
    rw [hbig]; rfl
  rw [decide_eq_true hb] at hbig
  have hB0 : Bytes l0 := ⟨by omega, fun x hx => wf_u8' (hw0 x hx)⟩
  have hB1 : Bytes l1 := ⟨by omega, fun x hx => wf_u8' (hw1 x hx)⟩
  obtain ⟨w, hw24, hd⟩ := drawWord_ok hB0 k (by omega)
  obtain ⟨c1, c2⟩ := cross_ans w (by omega) k (by omega)
  have io := isOpen_ans w k (by omega)
  obtain ⟨k, rfl⟩ : ∃ m, k = m + 1 := ⟨k - 1, by omega⟩
  rw [hbig, Option.bind_some, if_neg (by simp), hd, Option.bind_some, c2, Option.bind_some, c1, Option.bind_some, io, Option.bind_some, if_neg (by simp)]
  cases hp : ptsB w with
  | false =>
    have e0 := sSame_ev [] (by simp) (k + 1) (by omega)
    simp only [Bool.false_eq_true, if_false]
    rw [e0]
    simp only [Option.bind_some, if_true]
    rw [laws_FnOpenWords.j0, if_neg (by simp), if_neg (by simp)]
    exact j4_ok hB1 k (by omega)
  | true =>
    have l12 := ptsB_len hp
    have e0 := sSame_ev (crs w).1 (by have := crs_len w; omega) (k + 1) (by omega)
    simp only [if_true]
    rw [e0]
    simp only [Option.bind_some, if_true]
    by_cases hn : (crs w).1 = []
    · rw [decide_eq_true hn]
      simp only [Bool.not_true, Bool.false_eq_true, if_false]
      rw [laws_FnOpenWords.j0, if_neg (by simp), if_neg (by simp)]
      exact j4_ok hB1 k (by omega)
    · have ho : openB w = false := by unfold openB; rw [hp, decide_eq_false hn]; rfl
      rw [decide_eq_false hn, decide_eq_true l12, ho]
      simp only [Bool.not_false, if_true]
      obtain ⟨i, j, e, hij, hj, hpar, hc⟩ := crs_some hn
      obtain ⟨r0, r1, r2, r3⟩ := rd4 i j
      have hl : ((four i j).length : Int) = 4 := rfl
      rw [e, laws_FnOpenWords.j0, if_neg (by simp), if_pos rfl, hl, if_pos rfl, if_pos (by omega), if_pos (by omega), r0, r1, r2, r3, wrap_succ (by omega), if_pos rfl, if_pos (by omega), if_pos (by omega), wrap_succ (by omega), if_pos rfl, tmod2, tmod2, hpar, if_pos rfl, decide_eq_false (by omega)]
      exact j1_ok hB1 i j hij hj hc k (by omega)

end Go.Proofs.Ytldbkkfkgfacdaa.Pure
