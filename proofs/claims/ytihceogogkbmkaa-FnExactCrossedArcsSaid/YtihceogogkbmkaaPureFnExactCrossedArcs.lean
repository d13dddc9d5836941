/- The law FnExactCrossedArcs, as plain lists tell it: at every slice of whole numbers the program's CrossedArcs answers what the reference's does, and what it answers is of its own. No condition but the law's own guard. -/
import Derived.Test.YtihceogogkbmkaaPArcs
import Derived.Test.YtihceogogkbmkaaPLawsS
import Derived.Test.YtihceogogkbmkaaHCrossedArcs
import Derived.Test.YtihceogogkbmkaaZ3
import Derived.Test.YtihceogogkbmkaaZ6
set_option linter.unusedVariables false
set_option linter.unusedSimpArgs false
namespace Go.Proofs.Ytihceogogkbmkaa.Pure
open Go.RowKit Go.Proofs.Ytihceogogkbmkaa.Z Go.Proofs.YtihceogogkbmkaaW.PrintWords Go.Proofs.YtihceogogkbmkaaW.PrintLast Go.Proofs.YtihceogogkbmkaaW.PrintMore

theorem both_ev (l : List Int) (h : l.length ≤ 1048576) : ∃ (R : List (List Int)) (b : Bool), R.length ≤ 64 ∧ (∀ x ∈ R, x.length = 2) ∧ ∀ k, l.length + 1000 ≤ k → spec_CrossedArcs.f k l = some (R, b) ∧ impl_CrossedArcs.f k l = some (R, b) := by
  cases hp : stackB l with
  | false =>
    refine ⟨[], false, by simp, by simp, fun k hk => ?_⟩
    unfold spec_CrossedArcs.f impl_CrossedArcs.f
    rw [spStack_ev l h k (by omega), isStack_ev l k (by omega), hp]
    exact ⟨rfl, rfl⟩
  | true =>
    have hl := stackB_len hp
    obtain ⟨R, h1, h2, h3⟩ := crossed_ev l hl (stackB_word hp)
    refine ⟨R, true, h1, h2, fun k hk => ?_⟩
    obtain ⟨h4, h5⟩ := h3 k (by omega)
    unfold spec_CrossedArcs.f impl_CrossedArcs.f
    rw [spStack_ev l h k (by omega), isStack_ev l k (by omega), hp, h4, h5]
    exact ⟨rfl, rfl⟩
theorem FnExactCrossedArcs : laws_FnExactCrossedArcs.Pure := by
  intro l _ _ _
  by_cases h : l.length ≤ 1048576
  · obtain ⟨R, b, h1, h2, hr⟩ := both_ev l h
    obtain ⟨k, hk⟩ : ∃ k, k = l.length + 3000000 := ⟨_, rfl⟩
    have hr2 : ∀ x ∈ R, x.length ≤ 1048576 := fun x hx => by have := h2 x hx; omega
    obtain ⟨e1, e2⟩ := hr k (by omega)
    have m := markIntS_ev l 1 h (by omega) k (by omega)
    rw [Int.natCast_one] at m
    exact ⟨k, .inr ⟨R, b, _, _, _, _, e1, e2, toIntS_ev l h k (by omega), eqIntSS_ev R (by omega) hr2 k (by omega), eqIntS_ev l h k (by omega), m, by omega,
      markIntSS_ev R (by omega) hr2 k (by omega), by omega, heldIntSS_ev R (by omega) hr2 k (by omega)⟩⟩
  · exact ⟨0, .inl (by omega)⟩

end Go.Proofs.Ytihceogogkbmkaa.Pure
