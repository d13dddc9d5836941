/- append(v, ys...) for rows of rows that lie apart (form S): the appended whole's rows lie apart from those that were there. -/
import Derived.Test.YtldbkkfkgfacdaaWMore
set_option linter.unusedVariables false
namespace Go.Proofs.Ytldbkkfkgfacdaa.RowsS
open Go.RowKit Go.Proofs.YtldbkkfkgfacdaaW.PrintWords Go.Proofs.YtldbkkfkgfacdaaW.PrintLast Go.Proofs.YtldbkkfkgfacdaaW.PrintMore
open Go.Proofs.YtldbkkfkgfacdaaW.PrintWords.Kd in
open Classical in
theorem drawn_below {w w' : World} (h : Drawn0 w w') : Below w.heap.size w w' := by
  obtain ⟨nd, rfl⟩ := h
  exact pw_below_drewN (Below.refl _ _) nd
end Go.Proofs.Ytldbkkfkgfacdaa.RowsS
