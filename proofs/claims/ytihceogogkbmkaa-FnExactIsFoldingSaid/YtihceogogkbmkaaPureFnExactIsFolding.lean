/- The law FnExactIsFolding, as plain lists tell it: at every slice of whole numbers the program's IsFolding answers what the reference's does. No condition but the law's own guard. -/
import Derived.Test.YtihceogogkbmkaaPArcs
import Derived.Test.YtihceogogkbmkaaPLawsA
import Derived.Test.YtihceogogkbmkaaY2
import Derived.Test.YtihceogogkbmkaaY6
import Derived.Test.YtihceogogkbmkaaY7
set_option linter.unusedVariables false
set_option linter.unusedSimpArgs false
namespace Go.Proofs.Ytihceogogkbmkaa.Pure
open Go.RowKit Go.Proofs.Ytihceogogkbmkaa.Y Go.Proofs.YtihceogogkbmkaaW.PrintWords Go.Proofs.YtihceogogkbmkaaW.PrintLast Go.Proofs.YtihceogogkbmkaaW.PrintMore

theorem both_ev (l : List Int) (h : l.length ≤ 1048576) : ∃ (r1 r2 : Bool), ∀ k, l.length + 1000 ≤ k → spec_IsFolding.f k l = some (r1, r2) ∧ impl_IsFolding.f k l = some (r1, r2) := by
  cases hp : stackB l with
  | false =>
    refine ⟨false, false, fun k hk => ?_⟩
    unfold spec_IsFolding.f impl_IsFolding.f
    rw [spStack_ev l h k (by omega), isStack_ev l k (by omega), hp]
    exact ⟨rfl, rfl⟩
  | true =>
    have hl := stackB_len hp
    obtain ⟨R, _, _, h2⟩ := crossed_ev l hl (stackB_word hp)
    refine ⟨((R.length : Int) == 0), true, fun k hk => ?_⟩
    obtain ⟨h3, h4⟩ := h2 k (by omega)
    unfold spec_IsFolding.f impl_IsFolding.f spec_spIs.f impl_isFolding.f
    rw [spStack_ev l h k (by omega), isStack_ev l k (by omega), hp, h3, h4]
    exact ⟨rfl, rfl⟩

theorem FnExactIsFolding : laws_FnExactIsFolding.Pure := by
  intro l _ _ _
  by_cases h : l.length ≤ 1048576
  · obtain ⟨r1, r2, hr⟩ := both_ev l h
    have hs : ∀ k, l.length + 1000 ≤ k → spec_IsFolding.f k l = some (r1, r2) := fun k hk => (hr k hk).1
    have hi : ∀ k, l.length + 1000 ≤ k → impl_IsFolding.f k l = some (r1, r2) := fun k hk => (hr k hk).2
    have T1 := fun k hk => toIntS_ev l h k hk
    have E1 := fun k hk => eqIntS_ev l h k hk
    obtain ⟨n, hn0⟩ : ∃ n, n = l.length + 2000 := ⟨_, rfl⟩
    refine ⟨n + 4, ?_⟩
    unfold laws_FnExactIsFolding.f
    rw [if_neg (by omega)]
    simp (disch := omega) only [T1, hs, hi, Option.bind_some, if_false, bne_self_eq_false, Bool.false_eq_true]
    rw [laws_FnExactIsFolding.j0]
    simp (disch := omega) only [T1, E1, Option.bind_some, if_true, if_false, Bool.false_eq_true]
  · refine ⟨1, ?_⟩
    unfold laws_FnExactIsFolding.f
    rw [if_pos (by omega)]

end Go.Proofs.Ytihceogogkbmkaa.Pure
