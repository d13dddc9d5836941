-- the print's words, as far as this seat's texts reach them: kept by wip/drv/strip.py (our program)
import Derived.Test.YtbphdjnainlbhaaWInv
import Derived.Test.YtbphdjnainlbhaaWFootNe
namespace Go.Proofs.YtbphdjnainlbhaaW.PrintWords
open Go.RowKit
end Go.Proofs.YtbphdjnainlbhaaW.PrintWords
namespace Go.Proofs.YtbphdjnainlbhaaW.PrintLast
section
variable {ops : Array Oper} {a : Act} {o og : Oper} {g : Nat} {t : Tmp} {u : Bool}
end
end Go.Proofs.YtbphdjnainlbhaaW.PrintLast
