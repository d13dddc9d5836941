/- The law FnExactSpreadOfWindings, as the numbers tell it: at every number of Go's int the program's SpreadOfWindings answers what the reference's does, and what it answers is of its own. No condition. -/
import Derived.Test.YtoblagangofflaaS1
import Derived.Test.YtoblagangofflaaS3
import Derived.Test.YtoblagangofflaaS6
import Derived.Test.YtoblagangofflaaS7
set_option linter.unusedVariables false
set_option linter.unusedSimpArgs false
namespace Go.Proofs.Ytoblagangofflaa.Pure
open Go.RowKit Go.Proofs.Ytoblagangofflaa.S Go.Proofs.YtoblagangofflaaW.PrintWords Go.Proofs.YtoblagangofflaaW.PrintLast Go.Proofs.YtoblagangofflaaW.PrintMore

theorem sIn_val (a b c : Int) : spec_l1In.f a b c = some (decide (b ≤ a ∧ a ≤ c)) := by
  unfold spec_l1In.f
  by_cases h : b ≤ a <;> simp [h]
theorem iIn_val (a b c : Int) : impl_in.f a b c = some (decide (b ≤ a ∧ a ≤ c)) := by
  unfold impl_in.f
  by_cases h : b ≤ a <;> simp [h]
theorem spread_in : ∀ a : Fin 6, laws_FnExactSpreadOfWindings.f 3000 ((a.val : Int) + 1) = some true := by decide +kernel
theorem FnExactSpreadOfWindings : laws_FnExactSpreadOfWindings.Pure := by
  intro n _
  refine ⟨3000, ?_⟩
  by_cases h : 1 ≤ n ∧ n ≤ 6
  · have h1 := spread_in ⟨(n - 1).toNat, by omega⟩
    have e1 : (((n - 1).toNat : Nat) : Int) + 1 = n := by omega
    simp only [e1] at h1
    exact h1
  · have e1 : ∀ k, spec_SpreadOfWindings.f k n = some ([], false) := fun k => by
      unfold spec_SpreadOfWindings.f
      rw [sIn_val, decide_eq_false h]; rfl
    have e2 : ∀ k, impl_SpreadOfWindings.f k n = some ([], false) := fun k => by
      unfold impl_SpreadOfWindings.f
      rw [iIn_val, decide_eq_false h]; rfl
    have q1 : ∀ k, laws_eqIntS.f (k + 1) [] [] = some true := fun k => by simp [laws_eqIntS.f, laws_eqIntS.l0]
    have q2 : ∀ k, laws_markIntS.f (k + 1) [] 1 = some (1, []) := fun k => by simp [laws_markIntS.f, laws_markIntS.l0]
    have q3 : ∀ k, laws_heldIntS.f (k + 1) [] 1 = some 1 := fun k => by simp [laws_heldIntS.f, laws_heldIntS.l0]
    show laws_FnExactSpreadOfWindings.f (2997 + 1 + 1 + 1) n = some true
    unfold laws_FnExactSpreadOfWindings.f
    rw [e1, e2, Option.bind_some, Option.bind_some, q1, Option.bind_some, if_pos rfl]
    rw [laws_FnExactSpreadOfWindings.j0, if_neg (by decide), q2, Option.bind_some, q3, Option.bind_some, if_neg (by decide), if_pos rfl, e2, Option.bind_some, q1, Option.bind_some, if_pos rfl]
    rw [laws_FnExactSpreadOfWindings.j1, if_neg (by decide), q3, Option.bind_some, if_neg (by decide), if_pos rfl]

end Go.Proofs.Ytoblagangofflaa.Pure
