/- Where only new random numbers were drawn, nothing elder was written. -/
import Derived.Test.YtbphdjnainlbhaaWMore
set_option linter.unusedVariables false
namespace Go.Proofs.Ytbphdjnainlbhaa.L
open Go.RowKit Go.Proofs.YtbphdjnainlbhaaW.PrintWords Go.Proofs.YtbphdjnainlbhaaW.PrintLast Go.Proofs.YtbphdjnainlbhaaW.PrintMore
theorem drawn_below {w w' : World} (h : Drawn0 w w') : Below w.heap.size w w' := by
  obtain ⟨nd, rfl⟩ := h
  exact pw_below_drewN (Below.refl _ _) nd
end Go.Proofs.Ytbphdjnainlbhaa.L
