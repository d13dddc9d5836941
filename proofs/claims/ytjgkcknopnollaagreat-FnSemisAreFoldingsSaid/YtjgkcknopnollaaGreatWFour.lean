-- the print's words, as far as this seat's texts reach them: kept by wip/drv/strip.py (our program)
import Derived.Test.YtjgkcknopnollaaGreatWTab
namespace Go.Proofs.YtjgkcknopnollaaGreatW.PrintLast
section
variable {P : Program} {ops : Array Oper} {Q : Exit → Act → World → Prop} {md : Region.Mode} {S : World → Prop} {ds : List Nat} {T : Bool × List (List Nat × List Nat)}
end
end Go.Proofs.YtjgkcknopnollaaGreatW.PrintLast
