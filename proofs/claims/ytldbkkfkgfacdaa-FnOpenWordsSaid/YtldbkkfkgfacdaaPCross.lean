/- Words that close: joins that do not cross. -/
import Derived.Test.YtldbkkfkgfacdaaPPoints
import Derived.Test.YtldbkkfkgfacdaaPCrs
import Derived.Test.YtldbkkfkgfacdaaQD0
set_option linter.unusedVariables false
set_option linter.unusedSimpArgs false
namespace Go.Proofs.Ytldbkkfkgfacdaa.Pure
open Go.RowKit Go.Proofs.Ytldbkkfkgfacdaa.P Go.Proofs.YtldbkkfkgfacdaaW.PrintWords Go.Proofs.YtldbkkfkgfacdaaW.PrintLast Go.Proofs.YtldbkkfkgfacdaaW.PrintMore

def openB (l : List Int) : Bool := ptsB l && decide ((crs l).1 = [])
theorem peOpen_ev (l : List Int) (hl : l.length ≤ 1048576) (k : Nat) (hk : l.length + 500 ≤ k) : spec_peOpen.f k l = some (openB l) := by
  unfold spec_peOpen.f openB
  rw [peWord_ev l hl k (by omega), Option.bind_some]
  cases hp : ptsB l with
  | false => rfl
  | true => rw [if_pos rfl, scrossing_ev l (ptsB_len hp) k (by omega), Option.bind_some, crs_snd]; simp

end Go.Proofs.Ytldbkkfkgfacdaa.Pure
