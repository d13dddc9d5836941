/- impl.ClosedToOpen: one contract, its answer read as a row. By hand, over our printed contract of impl.PermutationOf. -/
import Derived.Test.YtldbkkfkgfacdaaHOpenCut
import Derived.Test.YtldbkkfkgfacdaaQA3
set_option linter.unusedVariables false
namespace Go.Proofs.Ytldbkkfkgfacdaa.P
open Go.RowKit Go.Proofs.YtldbkkfkgfacdaaW.PrintWords Go.Proofs.YtldbkkfkgfacdaaW.PrintLast Go.Proofs.YtldbkkfkgfacdaaW.PrintMore
end Go.Proofs.Ytldbkkfkgfacdaa.P
