/- impl.ClosedToOpen by hand: the word of a meander without its last number, cut (w[:n:n]). -/
import Derived.Test.YtldbkkfkgfacdaaQA3
set_option linter.unusedVariables false
namespace Go.Proofs.Ytldbkkfkgfacdaa.P
open Go.RowKit Go.Proofs.YtldbkkfkgfacdaaW.PrintWords Go.Proofs.YtldbkkfkgfacdaaW.PrintLast Go.Proofs.YtldbkkfkgfacdaaW.PrintMore
end Go.Proofs.Ytldbkkfkgfacdaa.P
