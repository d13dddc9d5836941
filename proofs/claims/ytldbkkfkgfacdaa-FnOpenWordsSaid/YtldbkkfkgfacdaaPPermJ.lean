/- The word of a meander that the program tells. -/
import Derived.Test.YtldbkkfkgfacdaaPMeaJ
import Derived.Test.YtldbkkfkgfacdaaQD0
set_option linter.unusedVariables false
set_option linter.unusedSimpArgs false
namespace Go.Proofs.Ytldbkkfkgfacdaa.Pure
open Go.RowKit Go.Proofs.Ytldbkkfkgfacdaa.P Go.Proofs.YtldbkkfkgfacdaaW.PrintWords Go.Proofs.YtldbkkfkgfacdaaW.PrintLast Go.Proofs.YtldbkkfkgfacdaaW.PrintMore

theorem word_len {a b : List Int} (h : meander a b = true) : (word a b).length ≤ 24 := by
  obtain ⟨hP, h0, _⟩ := meander_one h
  have := (hP.two.way_length 0 h0).2
  have hn := (good_len hP.gp).1
  unfold word
  rw [ints_length]; omega

end Go.Proofs.Ytldbkkfkgfacdaa.Pure
