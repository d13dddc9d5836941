/- The law FnFoldingsCounted, as plain lists tell it: at all bytes the law says yes. -/
import Derived.Test.YtjgkcknopnollaaGreatPFCount
import Derived.Test.YtjgkcknopnollaaGreatPFText
import Derived.Test.YtjgkcknopnollaaGreatPTop
import Derived.Test.YtjgkcknopnollaaGreatPCount
import Derived.Test.YtjgkcknopnollaaGreatHFoldingsCounted
import Derived.Test.YtjgkcknopnollaaGreatQA2
set_option linter.unusedVariables false
set_option linter.unusedSimpArgs false
namespace Go.Proofs.YtjgkcknopnollaaGreat.Pure
open Go.RowKit Go.Proofs.YtjgkcknopnollaaGreat.C Go.Proofs.YtjgkcknopnollaaGreatW.PrintWords Go.Proofs.YtjgkcknopnollaaGreatW.PrintLast Go.Proofs.YtjgkcknopnollaaGreatW.PrintMore

theorem iIn_val' (a b c : Int) : impl_in.f a b c = some (decide (b ≤ a ∧ a ≤ c)) := by
  unfold impl_in.f
  by_cases h : b ≤ a <;> simp [h]
theorem sIn_val' (a b c : Int) : spec_l1In.f a b c = some (decide (b ≤ a ∧ a ≤ c)) := by
  unfold spec_l1In.f
  by_cases h : b ≤ a <;> simp [h]
/-- what the two sides say of m stamps -/
structure Tops (m : Int) (R : List (List Int)) (b : Bool) (c : Int) : Prop where
  rows : ∀ x ∈ R, 0 < x.length ∧ rd x 0 = 0 ∧ x.length ≤ 1000
  len : R.length ≤ 1000
  told : ∃ K, ∀ k, K ≤ k → impl_FoldingsOnTop.f k m = some (R, b) ∧ spec_FoldingsOnTop.f k m = some (R, b) ∧ impl_CountOnTop.f k m = some ((R.length : Int), b) ∧ spec_CountOnTop.f k m = some ((R.length : Int), b) ∧ impl_CountFoldings.f k m = some (c, b) ∧ spec_CountFoldings.f k m = some (c, b)
def zeroB (p : List Int) : Bool := decide (0 < p.length) && (rd p 0 == 0)
set_option maxRecDepth 100000 in
theorem topCounts : ∀ a : Fin 8, ((impl_foldings.go 3000 true a.val [[0]]).map fun R => (R.length, R.all zeroB)) = some (tops.getD a.val 0, true) := by decide +kernel
theorem topSmall : ∀ a : Fin 8, tops.getD a.val 0 ≤ 174 := by decide
theorem madeSome : ∀ a : Fin 8, (a.val + 1) * tops.getD a.val 0 ≠ 0 := by decide
theorem gp_len (m : Nat) (h : m ≤ 7) : (GP m).length = (m + 1) * tops.getD m 0 := by
  rw [← lenC_eq 100 (GP m)]
  exact counts ⟨m, by omega⟩
theorem tops_no (m : Int) (h : ¬ (1 ≤ m ∧ m ≤ 8)) : Tops m [] false 0 where
  rows := fun x hx => by cases hx
  len := by simp
  told := ⟨0, fun k _ => by
    unfold impl_FoldingsOnTop.f spec_FoldingsOnTop.f impl_CountOnTop.f spec_CountOnTop.f impl_CountFoldings.f spec_CountFoldings.f spec_spStamps.f
    rw [iIn_val', sIn_val', decide_eq_false h]
    exact ⟨rfl, rfl, rfl, rfl, rfl, rfl⟩⟩
theorem tops_yes (m : Nat) (hm : m ≤ 7) : ∃ R c, Tops ((m : Int) + 1) R true c := by
  obtain ⟨fin, hf, hfl⟩ := Option.map_eq_some_iff.1 (topCounts ⟨m, by omega⟩)
  have hf : impl_foldings.go 3000 true m [[0]] = some fin := hf
  have hfl1 : fin.length = tops.getD m 0 := congrArg Prod.fst hfl
  have hfl2 : fin.all zeroB = true := congrArg Prod.snd hfl
  have hts : tops.getD m 0 ≤ 174 := topSmall ⟨m, by omega⟩
  have h : 1 ≤ (m : Int) + 1 ∧ (m : Int) + 1 ≤ 8 := by omega
  have one : rowsOf 1 [[0]] := by intro x hx; obtain rfl := List.mem_singleton.1 hx; exact ⟨rfl, by decide⟩
  obtain ⟨⟨K, hK⟩, hr, _⟩ := top_l0 3000 (by omega) (m + 1) (by omega) m 1 [[0]] fin (by omega) (by omega) one (by decide) hf
  obtain ⟨fin2, hg, hgl⟩ := go_made 3000 (by omega) (fun q hq => by rw [gp_len q hq]; exact madeSome ⟨q, by omega⟩) m 0 [[0]] (by omega) one (by decide) (List.Perm.refl _)
  rw [Nat.zero_add, gp_len m hm, ← hfl1] at hgl
  have hlt : fin2.length ≤ 8000 := by
    rw [hgl, hfl1]
    exact Nat.le_trans (Nat.mul_le_mul (show m + 1 ≤ 8 by omega) hts) (by decide)
  have hsm : ∀ x ∈ fin, small x ∧ x.length ≤ 1000 := by
    intro x hx
    obtain ⟨h1, h2⟩ := hr x hx
    refine ⟨?_, by omega⟩
    intro y hy
    unfold wordB inR at h2
    rw [Bool.and_eq_true] at h2
    have := of_decide_eq_true (List.all_eq_true.1 h2.1 y hy)
    omega
  have hif : impl_foldings.f 3000 ((m : Int) + 1) true = some (SortL.sortL fin) := by
    unfold impl_foldings.f slices_SortFunc_int_int_at_slices_Compare_int_int.f
    rw [if_pos (by omega), show ((m : Int) + 1).toNat - 1 = m by omega, hf, Option.bind_some, if_pos (by omega)]
  have hi0 : impl_CountFoldings.f 3000 ((m : Int) + 1) = some ((((m + 1) * fin.length : Nat) : Int), true) := by
    unfold impl_CountFoldings.f impl_foldings.f slices_SortFunc_int_int_at_slices_Compare_int_int.f
    rw [iIn_val', decide_eq_true h, Option.bind_some, if_pos rfl, if_pos (by omega), show ((m : Int) + 1).toNat - 1 = m by omega, hg, Option.bind_some, if_pos (by omega), Option.bind_some, SortL.sortL_length, hgl]
  refine ⟨SortL.sortL fin, (((m + 1) * fin.length : Nat) : Int), fun x hx => ?_, ?_, K + 300000, fun k hk => ?_⟩
  · have hx := (SortL.sortL_perm _).mem_iff.1 hx
    have hz := List.all_eq_true.1 hfl2 x hx
    unfold zeroB at hz
    rw [Bool.and_eq_true, beq_iff_eq, decide_eq_true_eq] at hz
    exact ⟨hz.1, hz.2, (hsm x hx).2⟩
  · rw [SortL.sortL_length]; omega
  · obtain ⟨d, hd⟩ : ∃ d, k = 3000 + d := ⟨k - 3000, by omega⟩
    have hi2 : impl_foldings.f k ((m : Int) + 1) true = some (SortL.sortL fin) := by
      rw [hd]
      exact upm (g := fun k => impl_foldings.f k ((m : Int) + 1) true) (fun k => impl_foldings.mono _ _ k) hif d
    have hc2 : impl_CountFoldings.f k ((m : Int) + 1) = some ((((m + 1) * fin.length : Nat) : Int), true) := by
      rw [hd]
      exact upm (g := fun k => impl_CountFoldings.f k ((m : Int) + 1)) (fun k => impl_CountFoldings.mono _ k) hi0 d
    have ht : spec_spTop.f k ((m : Int) + 1) = some fin := by
      unfold spec_spTop.f
      exact hK k (by omega)
    have hst : spec_spStamps.f ((m : Int) + 1) = some true := by
      unfold spec_spStamps.f
      rw [sIn_val', decide_eq_true h, Option.bind_some]
    refine ⟨?_, ?_, ?_, ?_, hc2, ?_⟩
    · unfold impl_FoldingsOnTop.f
      rw [iIn_val', decide_eq_true h, Option.bind_some, if_pos rfl, hi2]; rfl
    · unfold spec_FoldingsOnTop.f
      rw [hst, Option.bind_some, if_pos rfl, ht, Option.bind_some, ← insAll_sort]
      have := puts_l0 fin hsm (by omega) fin.length k 0 [] (by omega) (by simp) (by simp) (by omega)
      rw [List.drop_zero] at this
      exact this
    · unfold impl_CountOnTop.f
      rw [iIn_val', decide_eq_true h, Option.bind_some, if_pos rfl, hi2]; rfl
    · unfold spec_CountOnTop.f
      rw [hst, Option.bind_some, if_pos rfl, ht, Option.bind_some, SortL.sortL_length]
    · unfold spec_CountFoldings.f
      rw [hst, Option.bind_some, if_pos rfl, ht, Option.bind_some]
      have e : ((m : Int) + 1) * (fin.length : Int) = (((m + 1) * fin.length : Nat) : Int) := by
        rw [Int.natCast_mul, Int.natCast_add]; rfl
      rw [hgl] at hlt
      rw [e, wrap_id (by omega) (by omega)]
theorem tops_all (m : Int) : ∃ R b c, Tops m R b c := by
  by_cases h : 1 ≤ m ∧ m ≤ 8
  · obtain ⟨n, rfl⟩ : ∃ n : Nat, m = (n : Int) + 1 := ⟨(m - 1).toNat, by omega⟩
    obtain ⟨R, c, t⟩ := tops_yes n (by omega)
    exact ⟨R, true, c, t⟩
  · exact ⟨[], false, 0, tops_no m h⟩
theorem stack_x {l : List Int} (h : Bytes l) (k : Nat) (hk : 2000 ≤ k) : ∃ x : List Int, x.length ≤ 9 ∧ spec_DrawFoldingText.f k l = some x := by
  obtain ⟨x, hx, e⟩ := drawStack_ans h k (by omega)
  exact ⟨x, hx, by unfold spec_DrawFoldingText.f; rw [e]; rfl⟩
theorem FnFoldingsCounted : laws_FnFoldingsCounted.Pure := by
  intro l0 l1 hl0 _ hw0 hl1 _ hw1
  have hbig : laws_big.f l0 l1 = some (if (l0.length : Int) > 1048576 then true else decide ((l1.length : Int) > 1048576 - (l0.length : Int))) := by
    unfold laws_big.f
    by_cases hb : (l0.length : Int) > 1048576
    · rw [if_pos hb, if_pos hb]
    · rw [if_neg hb, if_neg hb, wrap_id (by omega) (by omega)]
  by_cases hb : (if (l0.length : Int) > 1048576 then true else decide ((l1.length : Int) > 1048576 - (l0.length : Int))) = true
  · rw [hb] at hbig
    exact ⟨0, .c_big hbig⟩
  have hbf := Bool.eq_false_iff.mpr hb
  rw [hbf] at hbig
  have hlen : l0.length ≤ 1048576 ∧ l1.length ≤ 1048576 := by
    by_cases hc : (l0.length : Int) > 1048576
    · rw [if_pos hc] at hb; exact absurd rfl hb
    · rw [if_neg hc] at hb
      have : ¬ (l1.length : Int) > 1048576 - (l0.length : Int) := fun h => hb (decide_eq_true h)
      omega
  have hB0 : Bytes l0 := ⟨hlen.1, fun x hx => wf_u8' (hw0 x hx)⟩
  have hB1 : Bytes l1 := ⟨hlen.2, fun x hx => wf_u8' (hw1 x hx)⟩
  obtain ⟨n, j, s, en, hn, _⟩ := (among_ok hB0 0 0 [1, 2, 3, 4, 5, 6, 7, 0] (by show (0 : Nat) < 8; omega) (by show (8 : Nat) ≤ 100; omega) (by omega) (by omega)).ok
  have ed : spec_DrawAllFoldings.f l0 = some n := by unfold spec_DrawAllFoldings.f; rw [en]; rfl
  obtain ⟨m, _, _, em, _⟩ := (among_ok hB1 0 0 [1, 2, 3, 4, 5, 6, 7, 8, 9, 0] (by show (0 : Nat) < 10; omega) (by show (10 : Nat) ≤ 100; omega) (by omega) (by omega)).ok
  have edm : spec_DrawFoldingsOnTop.f l1 = some m := by unfold spec_DrawFoldingsOnTop.f spec_DrawCountFoldings.f; rw [em]; rfl
  obtain ⟨R, b, c, hr, hl, K, hK⟩ := tops_all m
  obtain ⟨k, hk⟩ : ∃ k, k = 3000 + (K + 10000) := ⟨_, rfl⟩
  obtain ⟨t1, t2, t3, t4, t5, t6⟩ := hK k (by omega)
  have ty := yRows_ev R hl (fun x hx => (hr x hx).2.2) k (by omega)
  have ht : R.length ≤ 2000 ∧ ∀ j : Nat, j < R.length → 0 < (rd_L3 R (j : Int)).length ∧ rd (rd_L3 R (j : Int)) 0 = 0 := ⟨by omega, fun j hj => by
    rw [rdL3_at hj]
    exact ⟨(hr _ (List.getElem_mem hj)).1, (hr _ (List.getElem_mem hj)).2.1⟩⟩
  obtain ⟨x, hx9, ex⟩ := stack_x hB1 k (by omega)
  obtain ⟨x1, x2⟩ := ftext_ev x (by omega) k (by omega)
  obtain ⟨t, ht20, et⟩ := drawParse_ans hB1 k (by omega)
  obtain ⟨p1, p2⟩ := parse_ev t (by omega) k (by omega)
  -- the text part: both ways
  have xs : stackB x = true → impl_ParseFolding.f k (textOf x) = some (x, true) ∧ laws_ySame.f k x x = some true := fun h => by
    have hlx := stackB_len h
    have hp2 := (parse_ev (textOf x) (by rw [textOf_size]; omega) k (by rw [textOf_size]; omega)).2
    rw [textOf_size, nums_text x hlx.2 (stackB_word h) x.length 0 (by omega), List.drop_zero] at hp2
    unfold ansP at hp2
    rw [if_pos h] at hp2
    exact ⟨hp2, ySame_ev x (by omega) k (by omega)⟩
  have ts : stackB (numsOf t t.size 0) = true → impl_FoldingText.f k (numsOf t t.size 0) = some (t, true) ∧ laws_ySame.f k (numsOf t t.size 0) (numsOf t t.size 0) = some true := fun h => by
    have := (ftext_ev (numsOf t t.size 0) (by rw [numsOf_length]; omega) k (by rw [numsOf_length]; omega)).2
    rw [if_pos h, text_nums] at this
    exact ⟨this, ySame_ev _ (by rw [numsOf_length]; omega) k (by omega)⟩
  have te := ySame_ev [] (by simp) k (by omega)
  by_cases h : 1 ≤ n ∧ n ≤ 6
  · have e1 : (((n - 1).toNat : Nat) : Int) + 1 = n := by omega
    have h1 := inside ⟨(n - 1).toNat, by omega⟩
    have h2 := counted ⟨(n - 1).toNat, by omega⟩
    have h3 := folds ⟨(n - 1).toNat, by omega⟩
    have h4 := ascend ⟨(n - 1).toNat, by omega⟩
    simp only [e1] at h1 h2 h3 h4
    obtain ⟨hs, hi, hl, ha⟩ := h1
    obtain ⟨hb, hc, hct, hnt, hsm⟩ := h2
    have hra : ∀ x ∈ (ans n).1, x.length ≤ 1000 := fun x hx => by have := of_decide_eq_true (List.all_eq_true.1 ha x hx); omega
    obtain ⟨S, hS, hS2⟩ := Option.map_eq_some_iff.1 hsm
    have ans2 : ans n = ((ans n).1, true) := by rw [← hb]
    have U1 := upm (g := fun k => impl_AllFoldings.f k n) (fun k => impl_AllFoldings.mono n k) hi (K + 10000)
    have U2 := upm (g := fun k => spec_AllFoldings.f k n) (fun k => spec_AllFoldings.mono n k) hs (K + 10000)
    have U3 := upm (g := fun k => impl_CountFoldings.f k n) (fun k => impl_CountFoldings.mono n k) hc (K + 10000)
    have U4 := upm (g := fun k => impl_CountOnTop.f k n) (fun k => impl_CountOnTop.mono n k) hct (K + 10000)
    have U5 := upm (g := fun k => impl_AllSemis.f k n) (fun k => impl_AllSemis.mono n k) hS (K + 10000)
    have hs1 : (S.1.length : Int) = (top6 n).1 := congrArg Prod.fst hS2
    have hs2 : S.2 = true := congrArg Prod.snd hS2
    have S2 : S = (S.1, true) := by rw [← hs2]
    simp only [← hk] at U1 U2 U3 U4 U5
    rw [ans2] at U1 U2
    rw [S2] at U5
    have ya := yRows_ev (ans n).1 (by omega) hra k (by omega)
    have hall : (ans n).1.length ≤ 2000 ∧ (∀ j : Nat, j < (ans n).1.length → impl_IsFolding.f k (rd_L3 (ans n).1 (j : Int)) = some (true, true)) ∧ ∀ j : Nat, j + 1 < (ans n).1.length → laws_yLess.f k (rd_L3 (ans n).1 (j : Int)) (rd_L3 (ans n).1 ((j + 1 : Nat) : Int)) = some true := by
      refine ⟨by omega, fun j hj => ?_, fun j hj => ?_⟩
      · rw [rdL3_at hj, isfold_ans _ k (by omega)]
        have hx := List.all_eq_true.1 h3 _ (List.getElem_mem hj)
        rw [hx]
        rw [Bool.and_eq_true] at hx
        rw [hx.1]
      · rw [rdL3_at (by omega), rdL3_at hj]
        have hy := upm (g := fun k => laws_yLess.f k ((ans n).1[j]'(by omega)) (ans n).1[j + 1]) (fun k => laws_yLess.mono _ _ k) (ascB_at (ans n).1 j hj h4) (k - 100)
        rw [show 100 + (k - 100) = k by omega] at hy
        exact hy
    cases hp : stackB x with
    | false =>
      rw [hp] at x1 x2
      cases hq : stackB (numsOf t t.size 0) with
      | false =>
        have ap : ansP (numsOf t t.size 0) = ([], false) := by unfold ansP; rw [hq]; rfl
        rw [ap] at p1 p2
        exact ⟨k, .c_true_false_false ⟨n, _, _, _, S.1, m, R, b, _, c, x, _, t, [], hbig, ed, U1, U2, ya, U3, U4, U5, ⟨rfl, hnt, hs1⟩, hall, edm, t1, t2, t3, t4, t5, t6, ty, rfl, ht, ex, x2, x1, et, p2, p1, te⟩⟩
      | true =>
        have ap : ansP (numsOf t t.size 0) = (numsOf t t.size 0, true) := by unfold ansP; rw [hq]; rfl
        rw [ap] at p1 p2
        exact ⟨k, .c_true_false_true ⟨n, _, _, _, S.1, m, R, b, _, c, x, _, t, _, hbig, ed, U1, U2, ya, U3, U4, U5, ⟨rfl, hnt, hs1⟩, hall, edm, t1, t2, t3, t4, t5, t6, ty, rfl, ht, ex, x2, x1, et, p2, p1, (ts hq).2, (ts hq).1⟩⟩
    | true =>
      rw [hp] at x1 x2
      obtain ⟨y1, y2⟩ := xs hp
      cases hq : stackB (numsOf t t.size 0) with
      | false =>
        have ap : ansP (numsOf t t.size 0) = ([], false) := by unfold ansP; rw [hq]; rfl
        rw [ap] at p1 p2
        exact ⟨k, .c_true_true_false ⟨n, _, _, _, S.1, m, R, b, _, c, x, _, t, [], hbig, ed, U1, U2, ya, U3, U4, U5, ⟨rfl, hnt, hs1⟩, hall, edm, t1, t2, t3, t4, t5, t6, ty, rfl, ht, ex, x2, x1, y1, y2, et, p2, p1, te⟩⟩
      | true =>
        have ap : ansP (numsOf t t.size 0) = (numsOf t t.size 0, true) := by unfold ansP; rw [hq]; rfl
        rw [ap] at p1 p2
        exact ⟨k, .c_true_true_true ⟨n, _, _, _, S.1, m, R, b, _, c, x, _, t, _, hbig, ed, U1, U2, ya, U3, U4, U5, ⟨rfl, hnt, hs1⟩, hall, edm, t1, t2, t3, t4, t5, t6, ty, rfl, ht, ex, x2, x1, y1, y2, et, p2, p1, (ts hq).2, (ts hq).1⟩⟩
  · have U1 : impl_AllFoldings.f k n = some ([], false) := by
      unfold impl_AllFoldings.f
      rw [iIn_val', decide_eq_false h]; rfl
    have U2 : spec_AllFoldings.f k n = some ([], false) := by
      unfold spec_AllFoldings.f
      rw [sIn_val', decide_eq_false h]; rfl
    have ya := yRows_ev [] (by simp) (by simp) k (by omega)
    cases hp : stackB x with
    | false =>
      rw [hp] at x1 x2
      cases hq : stackB (numsOf t t.size 0) with
      | false =>
        have ap : ansP (numsOf t t.size 0) = ([], false) := by unfold ansP; rw [hq]; rfl
        rw [ap] at p1 p2
        exact ⟨k, .c_false_false_false ⟨n, _, m, R, b, _, c, x, _, t, [], hbig, ed, U1, U2, ya, edm, t1, t2, t3, t4, t5, t6, ty, rfl, ht, ex, x2, x1, et, p2, p1, te⟩⟩
      | true =>
        have ap : ansP (numsOf t t.size 0) = (numsOf t t.size 0, true) := by unfold ansP; rw [hq]; rfl
        rw [ap] at p1 p2
        exact ⟨k, .c_false_false_true ⟨n, _, m, R, b, _, c, x, _, t, _, hbig, ed, U1, U2, ya, edm, t1, t2, t3, t4, t5, t6, ty, rfl, ht, ex, x2, x1, et, p2, p1, (ts hq).2, (ts hq).1⟩⟩
    | true =>
      rw [hp] at x1 x2
      obtain ⟨y1, y2⟩ := xs hp
      cases hq : stackB (numsOf t t.size 0) with
      | false =>
        have ap : ansP (numsOf t t.size 0) = ([], false) := by unfold ansP; rw [hq]; rfl
        rw [ap] at p1 p2
        exact ⟨k, .c_false_true_false ⟨n, _, m, R, b, _, c, x, _, t, [], hbig, ed, U1, U2, ya, edm, t1, t2, t3, t4, t5, t6, ty, rfl, ht, ex, x2, x1, y1, y2, et, p2, p1, te⟩⟩
      | true =>
        have ap : ansP (numsOf t t.size 0) = (numsOf t t.size 0, true) := by unfold ansP; rw [hq]; rfl
        rw [ap] at p1 p2
        exact ⟨k, .c_false_true_true ⟨n, _, m, R, b, _, c, x, _, t, _, hbig, ed, U1, U2, ya, edm, t1, t2, t3, t4, t5, t6, ty, rfl, ht, ex, x2, x1, y1, y2, et, p2, p1, (ts hq).2, (ts hq).1⟩⟩

end Go.Proofs.YtjgkcknopnollaaGreat.Pure
