/- The law FnExactValueAt, as the numbers tell it: at every k and x of Go's int the program's ValueAt answers what the reference's does. No condition. -/
import Derived.Test.YtmidjgnnepeklaaPFnExactValueAtx1
namespace Go.Proofs.Ytmidjgnnepeklaa.Pure
open Go.RowKit Go.Proofs.Ytmidjgnnepeklaa.PFnExactValueAt Go.Proofs.YtmidjgnnepeklaaW.PrintWords Go.Proofs.YtmidjgnnepeklaaW.PrintLast

theorem valueAt_inside : ∀ a : Fin 11, ∀ b : Fin 7, laws_FnExactValueAt.f 12 (a.val : Int) ((b.val : Int) - 3) = some true := by decide +kernel

theorem FnExactValueAt : laws_FnExactValueAt.Pure := by
  intro a b _ _
  refine ⟨12, ?_⟩
  by_cases h : (0 ≤ a ∧ a ≤ 10) ∧ (-3 ≤ b ∧ b ≤ 3)
  · have := valueAt_inside ⟨a.toNat, by omega⟩ ⟨(b + 3).toNat, by omega⟩
    have e1 : ((a.toNat : Nat) : Int) = a := by omega
    have e2 : (((b + 3).toNat : Nat) : Int) - 3 = b := by omega
    simp only [e1, e2] at this
    exact this
  · unfold laws_FnExactValueAt.f spec_ValueAt.f impl_ValueAt.f spec_l1In.f impl_in.f
    by_cases h1 : 0 ≤ a <;> by_cases h2 : a ≤ 10 <;> by_cases h3 : -3 ≤ b <;> by_cases h4 : b ≤ 3 <;>
      first
      | (exfalso; omega)
      | simp [h1, h2, h3, h4]

end Go.Proofs.Ytmidjgnnepeklaa.Pure
