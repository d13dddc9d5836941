-- the print's words, as far as this seat's texts reach them: kept by wip/drv/strip.py (our program)
import Derived.Test.YtjgkcknopnollaaGreatWWords
import Derived.Laws.StructEq
namespace Go.Proofs.YtjgkcknopnollaaGreatW.PrintWords
open Go.RowKit
section
variable {P : Program} {d : Nat} {xs ys : Array Value} {f : Field} {fs : List Field} {a b : Value} {r s : Bool} {w : World}
end
end Go.Proofs.YtjgkcknopnollaaGreatW.PrintWords
