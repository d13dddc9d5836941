/- Words that close: joins that do not cross. -/
import Derived.Test.YteflkoghligofaaPPoints
import Derived.Test.YteflkoghligofaaPCrs
import Derived.Test.YteflkoghligofaaM2
set_option linter.unusedVariables false
set_option linter.unusedSimpArgs false
namespace Go.Proofs.Yteflkoghligofaa.Pure
open Go.RowKit Go.Proofs.Yteflkoghligofaa.M Go.Proofs.YteflkoghligofaaW.PrintWords Go.Proofs.YteflkoghligofaaW.PrintLast Go.Proofs.YteflkoghligofaaW.PrintMore

def openB (l : List Int) : Bool := ptsB l && decide ((crs l).1 = [])
theorem peOpen_ev (l : List Int) (hl : l.length ≤ 1048576) (k : Nat) (hk : l.length + 500 ≤ k) : spec_peOpen.f k l = some (openB l) := by
  unfold spec_peOpen.f openB
  rw [peWord_ev l hl k (by omega), Option.bind_some]
  cases hp : ptsB l with
  | false => rfl
  | true => rw [if_pos rfl, scrossing_ev l (ptsB_len hp) k (by omega), Option.bind_some, crs_snd]; simp

end Go.Proofs.Yteflkoghligofaa.Pure
