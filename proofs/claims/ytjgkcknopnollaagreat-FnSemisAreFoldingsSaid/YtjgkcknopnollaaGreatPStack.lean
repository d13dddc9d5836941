/- The test of stacks of one to eight numbers: the program's and the reference's are one. -/
import Derived.Test.YtjgkcknopnollaaGreatPWord
import Derived.Test.YtjgkcknopnollaaGreatQA2
set_option linter.unusedVariables false
set_option linter.unusedSimpArgs false
namespace Go.Proofs.YtjgkcknopnollaaGreat.Pure
open Go.RowKit Go.Proofs.YtjgkcknopnollaaGreat.D Go.Proofs.YtjgkcknopnollaaGreatW.PrintWords Go.Proofs.YtjgkcknopnollaaGreatW.PrintLast Go.Proofs.YtjgkcknopnollaaGreatW.PrintMore

open Classical in
theorem pe_l0 (l : List Int) (hl : l.length ≤ 12) (d : Nat) : ∀ (k i : Nat), i + d = l.length → d + 30 < k →
    spec_spStack.l0 k l l (l.length : Int) (i : Int) = some (decide (∀ j, i ≤ j → (hj : j < l.length) → l[j] ∉ l.take j)) := by
  induction d with
  | zero =>
    intro k i hi hk
    obtain ⟨k, rfl⟩ : ∃ m, k = m + 1 := ⟨k - 1, by omega⟩
    rw [spec_spStack.l0, if_neg (by omega)]
    congr 1; symm
    rw [decide_eq_true_eq]
    intro j h1 hj; omega
  | succ d ih =>
    intro k i hi hk
    obtain ⟨k, rfl⟩ : ∃ m, k = m + 1 := ⟨k - 1, by omega⟩
    have hlt : i < l.length := by omega
    rw [spec_spStack.l0, if_pos (by omega), if_pos (by omega), if_pos (by omega), if_pos (by omega), Int.toNat_natCast, rd_get hlt, sHas_ev _ _ (by simp; omega) k (by simp; omega), Option.bind_some, wrap_succ (by omega), ih k (i + 1) (by omega) (by omega)]
    by_cases h : l[i] ∈ l.take i
    · rw [if_pos (by simpa using h)]
      congr 1; symm
      rw [decide_eq_false_iff_not, once_step l i hlt]
      exact fun g => g.1 h
    · rw [if_neg (by simpa using h)]
      congr 1
      rw [decide_eq_decide, once_step l i hlt]
      exact ⟨fun g => ⟨h, g⟩, fun g => g.2⟩
def stackB (l : List Int) : Bool := decide (1 ≤ l.length ∧ l.length ≤ 8) && wordB l
theorem iIn_val (a b c : Int) : impl_in.f a b c = some (decide (b ≤ a ∧ a ≤ c)) := by
  unfold impl_in.f
  by_cases h : b ≤ a <;> simp [h]
theorem spStack_ev (l : List Int) (hl : l.length ≤ 1048576) (k : Nat) (hk : l.length + 100 ≤ k) : spec_spStack.f k l = some (stackB l) := by
  obtain ⟨k, rfl⟩ : ∃ m, k = m + 1 := ⟨k - 1, by omega⟩
  unfold spec_spStack.f stackB
  rw [sIn_val, Option.bind_some]
  by_cases h : 1 ≤ l.length ∧ l.length ≤ 8
  · rw [if_pos (by simp; omega), sAll_ev l _ _ hl (k + 1) (by omega), Option.bind_some, spec_spStack.j0, wrap_id (by omega) (by omega)]
    unfold wordB inR
    cases ha : (l.all fun x => decide (0 ≤ x ∧ x ≤ (l.length : Int) - 1)) with
    | false => simp
    | true =>
      have := pe_l0 l (by omega) l.length k 0 (by omega) (by omega)
      rw [if_neg (by simp)]
      rw [Int.natCast_zero] at this
      rw [this]
      simp only [h, and_self, decide_true, Bool.true_and]
      exact congrArg some (decide_eq_decide.2 (once_all l))
  · rw [if_neg (by simp; omega), spec_spStack.j0, if_pos rfl]
    simp [h]
theorem isStack_ev (l : List Int) (k : Nat) (hk : 300 ≤ k) : impl_isStack.f k l = some (stackB l) := by
  unfold impl_isStack.f stackB
  rw [iIn_val, Option.bind_some]
  by_cases h : 1 ≤ l.length ∧ l.length ≤ 8
  · rw [if_pos (by simp; omega), isWord_ev l (by omega) k hk]; simp [h]
  · rw [if_neg (by simp; omega)]; simp [h]
theorem stackB_len {l : List Int} (h : stackB l = true) : 1 ≤ l.length ∧ l.length ≤ 8 := by
  unfold stackB at h; simp only [Bool.and_eq_true, decide_eq_true_eq] at h; exact h.1
theorem stackB_word {l : List Int} (h : stackB l = true) : wordB l = true := by
  unfold stackB at h; simp only [Bool.and_eq_true] at h; exact h.2

end Go.Proofs.YtjgkcknopnollaaGreat.Pure
