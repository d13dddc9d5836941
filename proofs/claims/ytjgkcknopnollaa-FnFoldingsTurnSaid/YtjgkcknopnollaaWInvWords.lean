-- the print's words, as far as this seat's texts reach them: kept by wip/drv/strip.py (our program)
import Derived.Test.YtjgkcknopnollaaWInv
import Derived.Test.YtjgkcknopnollaaWFootNe
namespace Go.Proofs.YtjgkcknopnollaaW.PrintWords
open Go.RowKit
end Go.Proofs.YtjgkcknopnollaaW.PrintWords
namespace Go.Proofs.YtjgkcknopnollaaW.PrintLast
section
variable {ops : Array Oper} {a : Act} {o og : Oper} {g : Nat} {t : Tmp} {u : Bool}
end
end Go.Proofs.YtjgkcknopnollaaW.PrintLast
