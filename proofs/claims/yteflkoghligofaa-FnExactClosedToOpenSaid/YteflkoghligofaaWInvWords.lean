-- the print's words, as far as this seat's texts reach them: kept by wip/drv/strip.py (our program)
import Derived.Test.YteflkoghligofaaWInv
import Derived.Test.YteflkoghligofaaWFootNe
namespace Go.Proofs.YteflkoghligofaaW.PrintWords
open Go.RowKit
end Go.Proofs.YteflkoghligofaaW.PrintWords
namespace Go.Proofs.YteflkoghligofaaW.PrintLast
section
variable {ops : Array Oper} {a : Act} {o og : Oper} {g : Nat} {t : Tmp} {u : Bool}
end
end Go.Proofs.YteflkoghligofaaW.PrintLast
