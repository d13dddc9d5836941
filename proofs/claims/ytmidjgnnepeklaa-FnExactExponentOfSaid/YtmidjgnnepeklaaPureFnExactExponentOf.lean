/- The law FnExactExponentOf, as the numbers tell it: at every n and k of Go's int the program's ExponentOf answers what the reference's does. No condition. -/
import Derived.Test.YtmidjgnnepeklaaPFnExactExponentOfx1
namespace Go.Proofs.Ytmidjgnnepeklaa.Pure
open Go.RowKit Go.Proofs.Ytmidjgnnepeklaa.PFnExactExponentOf Go.Proofs.YtmidjgnnepeklaaW.PrintWords Go.Proofs.YtmidjgnnepeklaaW.PrintLast

theorem exponentOf_inside : ∀ a : Fin 5, ∀ b : Fin 5, laws_FnExactExponentOf.f 12 (a.val : Int) (b.val : Int) = some true := by decide +kernel

theorem FnExactExponentOf : laws_FnExactExponentOf.Pure := by
  intro a b _ _
  refine ⟨12, ?_⟩
  by_cases h : (1 ≤ a ∧ a ≤ 4) ∧ (1 ≤ b ∧ b ≤ a)
  · have := exponentOf_inside ⟨a.toNat, by omega⟩ ⟨b.toNat, by omega⟩
    have e1 : ((a.toNat : Nat) : Int) = a := by omega
    have e2 : ((b.toNat : Nat) : Int) = b := by omega
    simp only [e1, e2] at this
    exact this
  · unfold laws_FnExactExponentOf.f spec_ExponentOf.f impl_ExponentOf.f spec_l1In.f impl_in.f
    by_cases h1 : 1 ≤ a <;> by_cases h2 : a ≤ 4 <;> by_cases h3 : 1 ≤ b <;> by_cases h4 : b ≤ a <;>
      first
      | (exfalso; omega)
      | simp [h1, h2, h3, h4]

end Go.Proofs.Ytmidjgnnepeklaa.Pure
