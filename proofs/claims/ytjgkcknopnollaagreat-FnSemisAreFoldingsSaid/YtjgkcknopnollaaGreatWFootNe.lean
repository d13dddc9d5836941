-- the print's words, as far as this seat's texts reach them: kept by wip/drv/strip.py (our program)
import Derived.Test.YtjgkcknopnollaaGreatWN
namespace Go.Proofs.YtjgkcknopnollaaGreatW.PrintWords
open Go.RowKit
namespace Kd
section
variable {α : Type} {d : Kd α} {W : World} {g n : Nat} {S ok : Nat → Prop} {A : Option Addr} {ad : Addr} {xs : List α}
end
end Kd
end Go.Proofs.YtjgkcknopnollaaGreatW.PrintWords
