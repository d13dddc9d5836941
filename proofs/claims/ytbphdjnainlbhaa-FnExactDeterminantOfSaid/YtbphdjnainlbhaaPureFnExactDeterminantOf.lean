/- The law FnExactDeterminantOf, as plain lists tell it: at all rows of whole numbers the program's DeterminantOf answers what the reference's does. No condition but the law's own guard. -/
import Derived.Test.YtbphdjnainlbhaaPDet
import Derived.Test.YtbphdjnainlbhaaPLawsSA
import Derived.Test.YtbphdjnainlbhaaHFnExactDeterminantOf
set_option linter.unusedVariables false
set_option linter.unusedSimpArgs false
namespace Go.Proofs.Ytbphdjnainlbhaa.Pure
open Go.RowKit Go.Proofs.Ytbphdjnainlbhaa.L Go.Proofs.YtbphdjnainlbhaaW.PrintWords Go.Proofs.YtbphdjnainlbhaaW.PrintLast Go.Proofs.YtbphdjnainlbhaaW.PrintMore

theorem FnExactDeterminantOf : laws_FnExactDeterminantOf.Pure := by
  intro l0 hl hx
  have hm : (maxLen : Nat) = 9223372036854775807 := rfl
  have hz := szSS_ev l0 (by omega) (fun x h => by have := (hx x h).1; omega) 3000000 (by omega)
  by_cases hs : l0.length + sumLen l0 ≤ 1048576
  · rw [if_pos hs] at hz
    have hr : ∀ x ∈ l0, x.length ≤ 1048576 := fun x h => by have := sumLen_mem l0 x h; omega
    have hT := toSS_ev l0 (by omega) hr 3000000 (by omega)
    have hE := eqIntSS_ev l0 (by omega) hr 3000000 (by omega)
    cases hb : rowsB l0 with
    | true => exact ⟨3000000, .inr ⟨_, _, _, hz, by omega, sdet_ev hb _ (by omega), idet_ev hb _ (by omega), hT, hE⟩⟩
    | false =>
      obtain ⟨h1, h2⟩ := det_no hb 3000000 (by omega)
      exact ⟨3000000, .inr ⟨_, _, _, hz, by omega, h1, h2, hT, hE⟩⟩
  · rw [if_neg hs] at hz
    exact ⟨3000000, .inl ⟨-1, hz, by omega⟩⟩

end Go.Proofs.Ytbphdjnainlbhaa.Pure
