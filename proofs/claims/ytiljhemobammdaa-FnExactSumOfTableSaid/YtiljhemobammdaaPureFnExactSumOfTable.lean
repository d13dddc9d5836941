/- The law FnExactSumOfTable, as the numbers tell it: at every n and x of Go's int the program's SumOfTable answers what the reference's does. No condition. -/
import Derived.Test.YtiljhemobammdaaPTab
import Derived.Test.YtiljhemobammdaaX3
import Derived.Test.YtiljhemobammdaaX6
set_option linter.unusedVariables false
set_option linter.unusedSimpArgs false
namespace Go.Proofs.Ytiljhemobammdaa.Pure
open Go.RowKit Go.Proofs.Ytiljhemobammdaa.X Go.Proofs.YtiljhemobammdaaW.PrintWords Go.Proofs.YtiljhemobammdaaW.PrintLast Go.Proofs.YtiljhemobammdaaW.PrintMore

theorem sum_small : ∀ a : Fin 4, ∀ b : Fin 7, laws_FnExactSumOfTable.f 3000 (a.val : Int) ((b.val : Int) - 3) = some true := by decide +kernel
theorem sum_great : ∀ b : Fin 5, laws_FnExactSumOfTable.f 3000 4 ((b.val : Int) - 2) = some true := by decide +kernel
theorem FnExactSumOfTable : laws_FnExactSumOfTable.Pure := by
  intro n x _ _
  refine ⟨3000, ?_⟩
  cases h : tabB n x with
  | true => exact tab_cases (P := fun n x => laws_FnExactSumOfTable.f 3000 n x = some true) sum_small sum_great h
  | false =>
    unfold laws_FnExactSumOfTable.f spec_SumOfTable.f impl_SumOfTable.f
    rw [asked_val, isTable_val, h]
    rfl

end Go.Proofs.Ytiljhemobammdaa.Pure
