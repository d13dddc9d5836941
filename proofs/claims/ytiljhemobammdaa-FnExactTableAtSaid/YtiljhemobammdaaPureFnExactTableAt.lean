/- The law FnExactTableAt, as plain lists tell it: at every n and x of Go's int the program's TableAt answers what the reference's does, and what it answers is of its own. No condition. -/
import Derived.Test.YtiljhemobammdaaPTab
import Derived.Test.YtiljhemobammdaaPLawsSB
import Derived.Test.YtiljhemobammdaaHTableAt
import Derived.Test.YtiljhemobammdaaY7
set_option linter.unusedVariables false
set_option linter.unusedSimpArgs false
namespace Go.Proofs.Ytiljhemobammdaa.Pure
open Go.RowKit Go.Proofs.Ytiljhemobammdaa.Y Go.Proofs.YtiljhemobammdaaW.PrintWords Go.Proofs.YtiljhemobammdaaW.PrintLast Go.Proofs.YtiljhemobammdaaW.PrintMore

def tabAns (n x : Int) : List (List Int) × Bool := (spec_TableAt.f 3000 n x).getD ([], false)
def tabGood (n x : Int) : Prop := spec_TableAt.f 3000 n x = some (tabAns n x) ∧ impl_TableAt.f 3000 n x = some (tabAns n x) ∧ (tabAns n x).1.length ≤ 14 ∧ ((tabAns n x).1.all fun x => decide (x.length ≤ 14)) = true
instance (n x : Int) : Decidable (tabGood n x) := by unfold tabGood; exact inferInstance
theorem tab_small : ∀ a : Fin 4, ∀ b : Fin 7, tabGood (a.val : Int) ((b.val : Int) - 3) := by decide +kernel
theorem tab_great : ∀ b : Fin 5, tabGood 4 ((b.val : Int) - 2) := by decide +kernel
theorem up {α : Type} {g : Nat → Option α} (hm : ∀ k, LeO (g k) (g (k + 1))) {r : α} {k : Nat} (h : g k = some r) : ∀ d, g (k + d) = some r
  | 0 => h
  | d + 1 => hm _ r (up hm h d)
theorem FnExactTableAt : laws_FnExactTableAt.Pure := by
  intro n x _ _
  cases h : tabB n x with
  | true =>
    obtain ⟨hs, hi, hl, ha⟩ := tab_cases (P := tabGood) tab_small tab_great h
    have hr : ∀ y ∈ (tabAns n x).1, y.length ≤ 1048576 := fun y hx => by have := of_decide_eq_true (List.all_eq_true.1 ha y hx); omega
    exact ⟨3000 + 3000000, ⟨(tabAns n x).1, (tabAns n x).2, _, _, up (g := fun k => spec_TableAt.f k n x) (fun k => spec_TableAt.mono n x k) hs 3000000, up (g := fun k => impl_TableAt.f k n x) (fun k => impl_TableAt.mono n x k) hi 3000000, eqIntSS_ev _ (by omega) hr _ (by omega),
      markIntSS_ev _ (by omega) hr _ (by omega), by omega, heldIntSS_ev _ (by omega) hr _ (by omega)⟩⟩
  | false =>
    refine ⟨3000000, ⟨[], false, _, _, ?_, ?_, eqIntSS_ev _ (by simp) (by simp) _ (by omega), markIntSS_ev _ (by simp) (by simp) _ (by omega), by omega, heldIntSS_ev _ (by simp) (by simp) _ (by omega)⟩⟩
    · unfold spec_TableAt.f
      rw [asked_val, h]; rfl
    · unfold impl_TableAt.f
      rw [isTable_val, h]; rfl

end Go.Proofs.Ytiljhemobammdaa.Pure
