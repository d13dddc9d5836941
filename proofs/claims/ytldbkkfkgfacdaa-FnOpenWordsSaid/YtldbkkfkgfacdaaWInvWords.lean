-- the print's words, as far as this seat's texts reach them: kept by wip/drv/strip.py (our program)
import Derived.Test.YtldbkkfkgfacdaaWInv
import Derived.Test.YtldbkkfkgfacdaaWFootNe
namespace Go.Proofs.YtldbkkfkgfacdaaW.PrintWords
open Go.RowKit
end Go.Proofs.YtldbkkfkgfacdaaW.PrintWords
namespace Go.Proofs.YtldbkkfkgfacdaaW.PrintLast
section
variable {ops : Array Oper} {a : Act} {o og : Oper} {g : Nat} {t : Tmp} {u : Bool}
end
end Go.Proofs.YtldbkkfkgfacdaaW.PrintLast
