/- The law FnExactOpenPermutations, as plain lists tell it: at every number of Go's int the program's OpenPermutations answers what the reference's does, and what it answers is of its own. No condition. -/
import Derived.Test.YteflkoghligofaaPOpen
import Derived.Test.YteflkoghligofaaPLawsSB
import Derived.Test.YteflkoghligofaaHOpenPermutations
import Derived.Test.YteflkoghligofaaV1
set_option linter.unusedVariables false
set_option linter.unusedSimpArgs false
namespace Go.Proofs.Yteflkoghligofaa.Pure
open Go.RowKit Go.Proofs.Yteflkoghligofaa.V Go.Proofs.YteflkoghligofaaW.PrintWords Go.Proofs.YteflkoghligofaaW.PrintLast Go.Proofs.YteflkoghligofaaW.PrintMore

theorem word_lens (n : Nat) (d : Nat) : ∀ l : List Int, ∀ x ∈ words n d l, x.length = l.length + d := by
  induction d with
  | zero => intro l x hx; rw [words] at hx; obtain rfl := List.mem_singleton.1 hx; rfl
  | succ d ih =>
    intro l x hx
    rw [words] at hx
    obtain ⟨y, _, hx⟩ := List.mem_flatMap.1 hx
    split at hx
    · simp at hx
    · have := ih _ x hx
      rw [this, List.length_append, List.length_cons, List.length_nil]; omega
theorem sopen_ev (n : Int) (k : Nat) (hk : 1000 ≤ k) : spec_OpenPermutations.f k n = some (openAns n) := by
  unfold spec_OpenPermutations.f spec_peListed.f openAns
  rw [sIn_val, Option.bind_some]
  by_cases h : 0 ≤ n ∧ n ≤ 7
  · obtain ⟨m, rfl⟩ : ∃ m : Nat, n = m := ⟨n.toNat, by omega⟩
    have := (both_words m (by omega) m [] k (by simp) (by omega)).1
    rw [decide_eq_true h, if_pos h]
    simp only [Option.bind_some, if_true]
    rw [this]; rfl
  · rw [decide_eq_false h, if_neg h]; rfl
theorem ans_small (n : Int) : (openAns n).1.length ≤ 1048576 ∧ ∀ x ∈ (openAns n).1, x.length ≤ 1048576 := by
  unfold openAns
  by_cases h : 0 ≤ n ∧ n ≤ 7
  · rw [if_pos h]
    constructor
    · have h1 := words_len n.toNat (by omega) n.toNat []
      have h2 : 7 ^ n.toNat ≤ 823543 := Nat.le_trans (Nat.pow_le_pow_right (by omega) (show n.toNat ≤ 7 by omega)) (by decide)
      show (words n.toNat n.toNat []).length ≤ 1048576
      omega
    · intro x hx
      have := word_lens _ _ _ x hx
      rw [this, List.length_nil]; omega
  · rw [if_neg h]
    exact ⟨by simp, by simp⟩
theorem FnExactOpenPermutations : laws_FnExactOpenPermutations.Pure := by
  intro n _
  obtain ⟨h1, h2⟩ := ans_small n
  obtain ⟨k, hk⟩ : ∃ k, k = 3000000 := ⟨_, rfl⟩
  exact ⟨k, ⟨(openAns n).1, (openAns n).2, _, _, sopen_ev n k (by omega), iopen_ev n k (by omega), eqIntSS_ev _ h1 h2 k (by omega), markIntSS_ev _ h1 h2 k (by omega), by omega, heldIntSS_ev _ h1 h2 k (by omega)⟩⟩

end Go.Proofs.Yteflkoghligofaa.Pure
