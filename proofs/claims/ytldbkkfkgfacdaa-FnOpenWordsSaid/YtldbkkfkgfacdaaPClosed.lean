/- Words that close: the program's test of a meander's word and the reference's are one. -/
import Derived.Test.YtldbkkfkgfacdaaPCross
import Derived.Test.YtldbkkfkgfacdaaQD0
set_option linter.unusedVariables false
set_option linter.unusedSimpArgs false
namespace Go.Proofs.Ytldbkkfkgfacdaa.Pure
open Go.RowKit Go.Proofs.Ytldbkkfkgfacdaa.P Go.Proofs.YtldbkkfkgfacdaaW.PrintWords Go.Proofs.YtldbkkfkgfacdaaW.PrintLast Go.Proofs.YtldbkkfkgfacdaaW.PrintMore

/-- does the last join, back to 0, cross none below -/
def clF (l : List Int) : Nat → Nat → Bool
  | 0, _ => true
  | d + 1, i => if i + 1 < l.length then (if crB (l.getD i 0) (l.getD (i + 1) 0) (l.getD (l.length - 1) 0) 0 = true then false else clF l d (i + 2)) else true
def clB (l : List Int) : Bool := decide (2 ≤ l.length ∧ l.length % 2 = 0 ∧ l.getD 0 0 = 0) && clF l l.length 1
def closedB (l : List Int) : Bool := openB l && clB l
end Go.Proofs.Ytldbkkfkgfacdaa.Pure
