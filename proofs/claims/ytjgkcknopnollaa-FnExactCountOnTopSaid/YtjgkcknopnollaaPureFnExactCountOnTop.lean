/- The law FnExactCountOnTop, as plain lists tell it: at every number of Go's int the program's CountOnTop answers what the reference's does. No condition. -/
import Derived.Test.YtjgkcknopnollaaF1
import Derived.Test.YtjgkcknopnollaaF3
import Derived.Test.YtjgkcknopnollaaF6
set_option linter.unusedVariables false
set_option linter.unusedSimpArgs false
namespace Go.Proofs.Ytjgkcknopnollaa.Pure
open Go.RowKit Go.Proofs.Ytjgkcknopnollaa.F Go.Proofs.YtjgkcknopnollaaW.PrintWords Go.Proofs.YtjgkcknopnollaaW.PrintLast Go.Proofs.YtjgkcknopnollaaW.PrintMore

set_option maxRecDepth 100000 in
theorem inside : ∀ a : Fin 8, laws_FnExactCountOnTop.f 3000 ((a.val : Int) + 1) = some true := by decide +kernel
theorem FnExactCountOnTop : laws_FnExactCountOnTop.Pure := by
  intro n _
  by_cases h : 1 ≤ n ∧ n ≤ 8
  · have h1 := inside ⟨(n - 1).toNat, by omega⟩
    have e1 : (((n - 1).toNat : Nat) : Int) + 1 = n := by omega
    simp only [e1] at h1
    exact ⟨3000, h1⟩
  · refine ⟨1, ?_⟩
    have hd : decide (1 ≤ n ∧ n ≤ 8) = false := decide_eq_false h
    have h1 : spec_l1In.f n 1 8 = some false := by
      rw [← hd]; unfold spec_l1In.f
      by_cases h : 1 ≤ n <;> simp [h]
    have h2 : impl_in.f n 1 8 = some false := by
      rw [← hd]; unfold impl_in.f
      by_cases h : 1 ≤ n <;> simp [h]
    unfold laws_FnExactCountOnTop.f spec_CountOnTop.f impl_CountOnTop.f spec_spStamps.f
    rw [h1, h2]
    rfl

end Go.Proofs.Ytjgkcknopnollaa.Pure
