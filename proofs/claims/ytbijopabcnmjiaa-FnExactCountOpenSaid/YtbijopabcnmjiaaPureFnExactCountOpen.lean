/- The law FnExactCountOpen, as plain lists tell it: at every number the program's CountOpen answers what the reference's does. -/
import Derived.Test.YtbijopabcnmjiaaPOpen
import Derived.Test.YtbijopabcnmjiaaY10
import Derived.Test.YtbijopabcnmjiaaY9
set_option linter.unusedVariables false
set_option linter.unusedSimpArgs false
namespace Go.Proofs.Ytbijopabcnmjiaa.Pure
open Go.RowKit Go.Proofs.Ytbijopabcnmjiaa.Y Go.Proofs.YtbijopabcnmjiaaW.PrintWords Go.Proofs.YtbijopabcnmjiaaW.PrintLast Go.Proofs.YtbijopabcnmjiaaW.PrintMore

theorem FnExactCountOpen : laws_FnExactCountOpen.Pure := by
  intro n _
  refine ⟨1000, ?_⟩
  unfold laws_FnExactCountOpen.f impl_CountOpen.f
  rw [iopen_ev n 1000 (Nat.le_refl _)]
  have hs : spec_CountOpen.f 1000 n = some (((openAns n).1.length : Int), (openAns n).2) := by
    unfold spec_CountOpen.f spec_peListed.f openAns
    rw [sIn_val, Option.bind_some, Option.bind_some]
    by_cases h : 0 ≤ n ∧ n ≤ 7
    · obtain ⟨m, rfl⟩ : ∃ m : Nat, n = m := ⟨n.toNat, by omega⟩
      have := (both_words m (by omega) m [] 1000 (by simp) (by omega)).1
      rw [if_pos (decide_eq_true h), if_pos h, this]; rfl
    · rw [if_neg (by simpa using h), if_neg h]; rfl
  rw [hs]
  simp

end Go.Proofs.Ytbijopabcnmjiaa.Pure
