/- The program's and the reference's ranks are the rank over the whole numbers. -/
import Derived.Test.YtbphdjnainlbhaaPRed
import Derived.Test.YtbphdjnainlbhaaPRankMax
import Derived.Test.YtbphdjnainlbhaaPTrank
import Derived.Test.YtbphdjnainlbhaaPRowsB
import Derived.Test.YtbphdjnainlbhaaQA2
set_option linter.unusedVariables false
set_option linter.unusedSimpArgs false
namespace Go.Proofs.Ytbphdjnainlbhaa.Pure
open Go.RowKit Go.Proofs.Ytbphdjnainlbhaa.R Go.Proofs.YtbphdjnainlbhaaW.PrintWords Go.Proofs.YtbphdjnainlbhaaW.PrintLast Go.Proofs.YtbphdjnainlbhaaW.PrintMore

theorem rowsB_num {l : List (List Int)} (h : rowsB l = true) : ∀ x ∈ l, ∀ y ∈ x, -(impl_areRows.most l.length) ≤ y ∧ y ≤ impl_areRows.most l.length := by
  intro x hx y hy
  have hl := rowsB_row h x hx
  unfold rowsB at h
  simp only [Bool.and_eq_true] at h
  have h2 : (l.any (impl_areRows.bad l.length)) = false := by simpa using h.2
  rw [List.any_eq_false] at h2
  have h3 := h2 x hx
  rw [bad_not l.length x hl] at h3
  have h4 : (x.all fun x => decide (-(impl_areRows.most l.length) ≤ x ∧ x ≤ impl_areRows.most l.length)) = true := by simpa using h3
  exact of_decide_eq_true (List.all_eq_true.1 h4 y hy)
theorem sq_of {v m : Int} (h : -m ≤ v ∧ v ≤ m) : v * v ≤ m * m := by
  have := Int.mul_nonneg (show 0 ≤ m - v by omega) (show 0 ≤ m + v by omega)
  have e : (m - v) * (m + v) = m * m - v * v := by grind
  omega
theorem bnd_rows {l : List (List Int)} (h : rowsB l = true) : Bnd l.length (l.map fn) := by
  have hl := rowsB_len h
  have hm : 0 ≤ impl_areRows.most l.length := by unfold impl_areRows.most; split <;> omega
  have key : ∀ v ∈ l.map fn, sq l.length v ≤ l.length * (impl_areRows.most l.length * impl_areRows.most l.length) := by
    intro v hv
    obtain ⟨x, hx, rfl⟩ := List.mem_map.1 hv
    refine sq_le _ _ _ fun i hi => sq_of ?_
    have hi2 : i < x.length := by rw [rowsB_row h x hx]; exact hi
    have : fn x i = x[i] := by unfold fn; rw [List.getD_eq_getElem?_getD, List.getElem?_eq_getElem hi2]; rfl
    rw [this]
    exact rowsB_num h x hx _ (List.getElem_mem hi2)
  by_cases h5 : l.length ≤ 5
  · have e : impl_areRows.most l.length = 100 := if_pos h5
    rw [e] at key
    refine ⟨50000, by omega, fun v hv => Int.le_trans (key v hv) (by omega), ?_⟩
    rw [List.length_map]
    exact Int.le_trans (pow_mono 50000 (by omega) _ 5 h5) (by unfold M; decide +kernel)
  · have e : impl_areRows.most l.length = 16 := if_neg h5
    rw [e] at key
    refine ⟨3584, by omega, fun v hv => Int.le_trans (key v hv) (by omega), ?_⟩
    rw [List.length_map]
    exact pow_mono 3584 (by omega) _ 14 hl.2
theorem not_zero_one : ¬ (0 : Int) ∣ 1 := by omega
/-- three ranks -/
theorem irank_ev {n : Nat} (hn : 1 ≤ n ∧ n ≤ 14) {l : List (List Int)} (h1 : 1 ≤ l.length ∧ l.length ≤ 14) (hl : ∀ x ∈ l, x.length = n) (hB : Bnd n (l.map fn)) {ρ : Nat} (hρ : IsRank 0 n (l.map fn) ρ) (k : Nat) (hk : 60 ≤ k) : impl_rank.f k l = some (ρ : Int) := by
  obtain ⟨k, rfl⟩ : ∃ m, k = m + 4 := ⟨k - 4, by omega⟩
  obtain ⟨a, ea, h2, A⟩ := reduce_ans three_p.p1 (by decide) hn h1 hl (k + 3) (by omega)
  obtain ⟨b, eb, h3, B⟩ := reduce_ans three_p.q1 (by decide) hn h1 hl (k + 2) (by omega)
  obtain ⟨c, ec, h4, C⟩ := reduce_ans three_p.r1 (by decide) hn h1 hl (k + 1) (by omega)
  have hm := rank_max three_p hB A.rank B.rank C.rank hρ
  have g2 : impl_reduce.f (k + 3) l 2147483647 = some ((a : Int), ea) := h2
  have g3 : impl_reduce.f (k + 2) l 2147483629 = some ((b : Int), eb) := h3
  have g4 : impl_reduce.f (k + 1) l 2147483587 = some ((c : Int), ec) := h4
  have w1 : wrap64 (0 + 1) = 1 := wrap_id (x := 0 + 1) (by omega) (by omega)
  have w2 : wrap64 (1 + 1) = 2 := wrap_id (x := 1 + 1) (by omega) (by omega)
  have w3 : wrap64 (2 + 1) = 3 := wrap_id (x := 2 + 1) (by omega) (by omega)
  unfold impl_rank.f impl_primes.f
  rw [Option.bind_some]
  show impl_rank.l0 (k + 4) l 0 [2147483647, 2147483629, 2147483587] 3 0 = _
  rw [impl_rank.l0, if_pos (by decide), if_pos (by decide), if_pos (by decide), show rd [2147483647, 2147483629, 2147483587] 0 = 2147483647 from rfl, g2, Option.bind_some, w1]
  rw [impl_rank.l0, if_pos (by decide), if_pos (by decide), if_pos (by decide), show rd [2147483647, 2147483629, 2147483587] 1 = 2147483629 from rfl, g3, Option.bind_some, w2]
  rw [impl_rank.l0, if_pos (by decide), if_pos (by decide), if_pos (by decide), show rd [2147483647, 2147483629, 2147483587] 2 = 2147483587 from rfl, g4, Option.bind_some, w3]
  rw [impl_rank.l0, if_neg (by decide)]
  simp only [mx]
  congr 1
  omega
theorem srank_ev {n : Nat} (hn : 1 ≤ n ∧ n ≤ 14) {l : List (List Int)} (h1 : 1 ≤ l.length ∧ l.length ≤ 14) (hl : ∀ x ∈ l, x.length = n) (hB : Bnd n (l.map fn)) {ρ : Nat} (hρ : IsRank 0 n (l.map fn) ρ) (k : Nat) (hk : 60 ≤ k) : spec_taRank.f k l = some (ρ : Int) := by
  obtain ⟨k, rfl⟩ : ∃ m, k = m + 4 := ⟨k - 4, by omega⟩
  obtain ⟨a, ea, h2, A⟩ := steps_ans three_q.p1 (by decide) hn h1 hl (k + 3) (by omega)
  obtain ⟨b, eb, h3, B⟩ := steps_ans three_q.q1 (by decide) hn h1 hl (k + 2) (by omega)
  obtain ⟨c, ec, h4, C⟩ := steps_ans three_q.r1 (by decide) hn h1 hl (k + 1) (by omega)
  have hm := rank_max three_q hB A.rank B.rank C.rank hρ
  have g2 : spec_taSteps.f (k + 3) l 1000000007 = some (ea, (a : Int)) := h2
  have g3 : spec_taSteps.f (k + 2) l 998244353 = some (eb, (b : Int)) := h3
  have g4 : spec_taSteps.f (k + 1) l 1000000009 = some (ec, (c : Int)) := h4
  have w1 : wrap64 (0 + 1) = 1 := wrap_id (x := 0 + 1) (by omega) (by omega)
  have w2 : wrap64 (1 + 1) = 2 := wrap_id (x := 1 + 1) (by omega) (by omega)
  have w3 : wrap64 (2 + 1) = 3 := wrap_id (x := 2 + 1) (by omega) (by omega)
  have mo : ∀ x y : Int, spec_l1Most.f x y = some (max x y) := fun x y => by unfold spec_l1Most.f; split <;> congr 1 <;> omega
  unfold spec_taRank.f spec_taPrimes.f
  rw [Option.bind_some]
  show spec_taRank.l0 (k + 4) l 0 [1000000007, 998244353, 1000000009] 3 0 = _
  rw [spec_taRank.l0, if_pos (by decide), if_pos (by decide), if_pos (by decide), show rd [1000000007, 998244353, 1000000009] 0 = 1000000007 from rfl, g2, Option.bind_some, mo, Option.bind_some, w1]
  rw [spec_taRank.l0, if_pos (by decide), if_pos (by decide), if_pos (by decide), show rd [1000000007, 998244353, 1000000009] 1 = 998244353 from rfl, g3, Option.bind_some, mo, Option.bind_some, w2]
  rw [spec_taRank.l0, if_pos (by decide), if_pos (by decide), if_pos (by decide), show rd [1000000007, 998244353, 1000000009] 2 = 1000000009 from rfl, g4, Option.bind_some, mo, Option.bind_some, w3]
  rw [spec_taRank.l0, if_neg (by decide)]
  congr 1
  omega
theorem srank_nil (k : Nat) (hk : 60 ≤ k) : spec_taRank.f k [] = some 0 := by
  obtain ⟨k, rfl⟩ : ∃ m, k = m + 4 := ⟨k - 4, by omega⟩
  have w1 : wrap64 (0 + 1) = 1 := wrap_id (x := 0 + 1) (by omega) (by omega)
  have w2 : wrap64 (1 + 1) = 2 := wrap_id (x := 1 + 1) (by omega) (by omega)
  have w3 : wrap64 (2 + 1) = 3 := wrap_id (x := 2 + 1) (by omega) (by omega)
  have hs : ∀ k p, spec_taSteps.f k [] p = some (1, 0) := fun k p => by unfold spec_taSteps.f; rw [if_pos rfl]
  have mo : spec_l1Most.f 0 0 = some 0 := by decide
  unfold spec_taRank.f spec_taPrimes.f
  rw [Option.bind_some]
  show spec_taRank.l0 (k + 4) [] 0 [1000000007, 998244353, 1000000009] 3 0 = _
  rw [spec_taRank.l0, if_pos (by decide), if_pos (by decide), if_pos (by decide), hs, Option.bind_some, mo, Option.bind_some, w1]
  rw [spec_taRank.l0, if_pos (by decide), if_pos (by decide), if_pos (by decide), hs, Option.bind_some, mo, Option.bind_some, w2]
  rw [spec_taRank.l0, if_pos (by decide), if_pos (by decide), if_pos (by decide), hs, Option.bind_some, mo, Option.bind_some, w3]
  rw [spec_taRank.l0, if_neg (by decide)]
/-- both answers of RankOf -/
theorem rankOf_ans {l : List (List Int)} (h : rowsB l = true) : ∃ ρ : Nat, IsRank 0 l.length (l.map fn) ρ ∧ ∀ k, 200 ≤ k → spec_RankOf.f k l = some ((ρ : Int), true) ∧ impl_RankOf.f k l = some ((ρ : Int), true) := by
  have hl := rowsB_len h
  obtain ⟨ρ, hρ⟩ := rank_exists not_zero_one l.length (l.map fn)
  refine ⟨ρ, hρ, fun k hk => ⟨?_, ?_⟩⟩
  · unfold spec_RankOf.f
    rw [taRows_ev l k (by omega), h, Option.bind_some, if_pos rfl, srank_ev hl hl (rowsB_row h) (bnd_rows h) hρ k (by omega)]; rfl
  · unfold impl_RankOf.f
    rw [areRows_ev, h, Option.bind_some, if_pos rfl, irank_ev hl hl (rowsB_row h) (bnd_rows h) hρ k (by omega)]; rfl
theorem rankOf_no {l : List (List Int)} (h : rowsB l = false) (k : Nat) (hk : 200 ≤ k) : spec_RankOf.f k l = some (0, false) ∧ impl_RankOf.f k l = some (0, false) := by
  unfold spec_RankOf.f impl_RankOf.f
  rw [taRows_ev l k (by omega), areRows_ev, h]
  exact ⟨rfl, rfl⟩

end Go.Proofs.Ytbphdjnainlbhaa.Pure
