-- the print's words, as far as this seat's texts reach them: kept by wip/drv/strip.py (our program)
import Derived.Test.YtjgkcknopnollaaGreatWInv
import Derived.Test.YtjgkcknopnollaaGreatWFootNe
namespace Go.Proofs.YtjgkcknopnollaaGreatW.PrintWords
open Go.RowKit
end Go.Proofs.YtjgkcknopnollaaGreatW.PrintWords
namespace Go.Proofs.YtjgkcknopnollaaGreatW.PrintLast
section
variable {ops : Array Oper} {a : Act} {o og : Oper} {g : Nat} {t : Tmp} {u : Bool}
end
end Go.Proofs.YtjgkcknopnollaaGreatW.PrintLast
