/- Rows that can be asked for: both sides' test, one answer (cut out of PRowsArgA). -/
import Derived.Test.YtbphdjnainlbhaaPNum
import Derived.Test.YtbphdjnainlbhaaQA2
set_option linter.unusedVariables false
set_option linter.unusedSimpArgs false
namespace Go.Proofs.Ytbphdjnainlbhaa.Pure
open Go.RowKit Go.Proofs.Ytbphdjnainlbhaa.R Go.Proofs.YtbphdjnainlbhaaW.PrintWords Go.Proofs.YtbphdjnainlbhaaW.PrintLast Go.Proofs.YtbphdjnainlbhaaW.PrintMore

theorem rdL1_at {l : List (List Int)} {i : Nat} (h : i < l.length) : rd_L1 l (i : Int) = l[i] := by
  unfold rd_L1; simp [h]
theorem sIn_val (a b c : Int) : spec_l1In.f a b c = some (decide (b ≤ a ∧ a ≤ c)) := by
  unfold spec_l1In.f
  by_cases h : b ≤ a <;> simp [h]
theorem all_l0 (l : List Int) (a b : Int) (hl : l.length ≤ 1048576) (d : Nat) : ∀ (k i : Nat), i + d = l.length → d < k →
    spec_l1All.l0 k a b l (l.length : Int) (i : Int) = some ((l.drop i).all fun x => decide (a ≤ x ∧ x ≤ b)) := by
  induction d with
  | zero =>
    intro k i hi hk
    obtain ⟨k, rfl⟩ : ∃ m, k = m + 1 := ⟨k - 1, by omega⟩
    rw [spec_l1All.l0, if_neg (by omega), List.drop_of_length_le (by omega)]
    rfl
  | succ d ih =>
    intro k i hi hk
    obtain ⟨k, rfl⟩ : ∃ m, k = m + 1 := ⟨k - 1, by omega⟩
    have h : i < l.length := by omega
    rw [spec_l1All.l0, if_pos (by omega), if_pos (by omega), if_pos (by omega), wrap_succ (by omega), rd_get h, sIn_val, Option.bind_some, ih k (i + 1) (by omega) (by omega), List.drop_eq_getElem_cons h, List.all_cons]
    by_cases hx : a ≤ l[i] ∧ l[i] ≤ b <;> simp [hx]
theorem all_ev (l : List Int) (a b : Int) (hl : l.length ≤ 1048576) (k : Nat) (hk : l.length < k) : spec_l1All.f k l a b = some (l.all fun x => decide (a ≤ x ∧ x ≤ b)) := by
  unfold spec_l1All.f
  have := all_l0 l a b hl l.length k 0 (by omega) hk
  simpa using this
/-- can these rows be asked for -/
def rowsB (l : List (List Int)) : Bool := decide (1 ≤ (l.length : Int)) && decide ((l.length : Int) ≤ 14) && !(l.any (impl_areRows.bad l.length))
theorem areRows_ev (l : List (List Int)) : impl_areRows.f l = some (rowsB l) := rfl
theorem bad_not (n : Nat) (row : List Int) (hn : row.length = n) : impl_areRows.bad n row = !(row.all fun x => decide (-(impl_areRows.most n) ≤ x ∧ x ≤ impl_areRows.most n)) := by
  unfold impl_areRows.bad
  rw [hn]
  have e : ((n : Int) == (n : Int)) = true := by simp
  rw [e, Bool.not_true, Bool.false_or, List.any_eq_not_all_not]
  congr 2
  funext x
  simp
theorem taRows_l0 (l : List (List Int)) (hl : l.length ≤ 14) (m : Int) (hm : m = impl_areRows.most l.length) (d : Nat) : ∀ (k i : Nat), i + d = l.length → d + 20 ≤ k →
    spec_taRows.l0 k l m l (l.length : Int) (i : Int) = some (!(l.drop i).any (impl_areRows.bad l.length)) := by
  have hmm : 0 ≤ m ∧ m ≤ 100 := by rw [hm]; unfold impl_areRows.most; split <;> omega
  induction d with
  | zero =>
    intro k i hi hk
    obtain ⟨k, rfl⟩ : ∃ m, k = m + 1 := ⟨k - 1, by omega⟩
    rw [spec_taRows.l0, if_neg (by omega), List.drop_of_length_le (by omega)]
    rfl
  | succ d ih =>
    intro k i hi hk
    obtain ⟨k, rfl⟩ : ∃ m, k = m + 1 := ⟨k - 1, by omega⟩
    have h : i < l.length := by omega
    rw [spec_taRows.l0, if_pos (by omega), if_pos (by omega), if_pos (by omega), rdL1_at h, wrap_id (x := -m) (by omega) (by omega), wrap_succ (by omega), List.drop_eq_getElem_cons h, List.any_cons]
    by_cases hq : l[i].length = l.length
    · rw [if_pos (by omega), all_ev l[i] _ _ (by omega) k (by omega), Option.bind_some, ih k (i + 1) (by omega) (by omega), bad_not l.length l[i] hq, hm]
      cases (l[i].all fun x => decide (-(impl_areRows.most l.length) ≤ x ∧ x ≤ impl_areRows.most l.length)) <;> simp
    · rw [if_neg (by omega)]
      have : impl_areRows.bad l.length l[i] = true := by
        unfold impl_areRows.bad
        have e : ((l[i].length : Int) == (l.length : Int)) = false := by rw [beq_eq_false_iff_ne]; omega
        rw [e]; rfl
      rw [this]; rfl
theorem taRows_ev (l : List (List Int)) (k : Nat) (hk : 100 ≤ k) : spec_taRows.f k l = some (rowsB l) := by
  obtain ⟨k, rfl⟩ : ∃ m, k = m + 1 := ⟨k - 1, by omega⟩
  unfold spec_taRows.f rowsB
  rw [sIn_val, Option.bind_some]
  by_cases h : (1 : Int) ≤ (l.length : Int) ∧ (l.length : Int) ≤ 14
  · rw [if_pos (by simpa using h)]
    have e0 : (decide (1 ≤ (l.length : Int)) && decide ((l.length : Int) ≤ 14)) = true := by simp only [Bool.and_eq_true, decide_eq_true_eq]; exact h
    rw [e0, Bool.true_and]
    have hz := fun m hm => taRows_l0 l (by omega) m hm l.length k 0 (by omega) (by omega)
    rw [Int.natCast_zero, List.drop_zero] at hz
    by_cases h5 : (l.length : Int) > 5
    · rw [if_pos h5, spec_taRows.j0]
      exact hz 16 (by unfold impl_areRows.most; rw [if_neg (by omega)])
    · rw [if_neg h5, spec_taRows.j0]
      exact hz 100 (by unfold impl_areRows.most; rw [if_pos (by omega)])
  · rw [if_neg (by simpa using h)]
    have e0 : (decide (1 ≤ (l.length : Int)) && decide ((l.length : Int) ≤ 14)) = false := by
      by_cases h1 : (1 : Int) ≤ (l.length : Int)
      · rw [decide_eq_false (show ¬ (l.length : Int) ≤ 14 by omega), Bool.and_false]
      · rw [decide_eq_false h1, Bool.false_and]
    rw [e0, Bool.false_and]
theorem rowsB_len {l : List (List Int)} (h : rowsB l = true) : 1 ≤ l.length ∧ l.length ≤ 14 := by
  unfold rowsB at h
  simp only [Bool.and_eq_true, decide_eq_true_eq] at h
  omega
theorem rowsB_row {l : List (List Int)} (h : rowsB l = true) : ∀ x ∈ l, x.length = l.length := by
  intro x hx
  unfold rowsB at h
  simp only [Bool.and_eq_true] at h
  have h2 : (l.any (impl_areRows.bad l.length)) = false := by simpa using h.2
  rw [List.any_eq_false] at h2
  have h3 := h2 x hx
  by_cases hq : x.length = l.length
  · exact hq
  · exfalso; apply h3
    unfold impl_areRows.bad
    have e : ((x.length : Int) == (l.length : Int)) = false := by rw [beq_eq_false_iff_ne]; omega
    rw [e]; rfl

end Go.Proofs.Ytbphdjnainlbhaa.Pure
