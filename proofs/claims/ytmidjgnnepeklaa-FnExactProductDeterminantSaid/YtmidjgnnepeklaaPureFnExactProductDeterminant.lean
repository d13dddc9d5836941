/- The law FnExactProductDeterminant, as the numbers tell it: at every n and x of Go's int the program's ProductDeterminant answers what the reference's does. No condition. -/
import Derived.Test.YtmidjgnnepeklaaPFnExactProductDeterminantx2
namespace Go.Proofs.Ytmidjgnnepeklaa.Pure
open Go.RowKit Go.Proofs.Ytmidjgnnepeklaa.PFnExactProductDeterminant Go.Proofs.YtmidjgnnepeklaaW.PrintWords Go.Proofs.YtmidjgnnepeklaaW.PrintLast

theorem productDeterminant_inside : ∀ a : Fin 5, ∀ b : Fin 7, laws_FnExactProductDeterminant.f 60 (a.val : Int) ((b.val : Int) - 3) = some true := by decide +kernel

theorem FnExactProductDeterminant : laws_FnExactProductDeterminant.Pure := by
  intro a b _ _
  refine ⟨60, ?_⟩
  by_cases h : (0 ≤ a ∧ a ≤ 4) ∧ (-3 ≤ b ∧ b ≤ 3)
  · have := productDeterminant_inside ⟨a.toNat, by omega⟩ ⟨(b + 3).toNat, by omega⟩
    have e1 : ((a.toNat : Nat) : Int) = a := by omega
    have e2 : (((b + 3).toNat : Nat) : Int) - 3 = b := by omega
    simp only [e1, e2] at this
    exact this
  · have h0 : ¬ a = 0 ∨ a = 0 := by omega
    rcases h0 with h0 | h0
    · unfold laws_FnExactProductDeterminant.f spec_ProductDeterminant.f impl_ProductDeterminant.f spec_taAsked.f impl_isTable.f spec_l1In.f impl_in.f
      by_cases h1 : 0 ≤ a <;> by_cases h2 : a ≤ 4 <;> by_cases h3 : -3 ≤ b <;> by_cases h4 : b ≤ 3 <;>
        first
        | (exfalso; omega)
        | (by_cases h5 : a < 1 <;> first | (exfalso; omega) | simp [h0, h1, h2, h3, h4, h5, spec_ProductDeterminant.j0, impl_ProductDeterminant.j0])
    · subst h0
      unfold laws_FnExactProductDeterminant.f spec_ProductDeterminant.f impl_ProductDeterminant.f
      simp [spec_ProductDeterminant.j0, impl_ProductDeterminant.j0]

end Go.Proofs.Ytmidjgnnepeklaa.Pure
