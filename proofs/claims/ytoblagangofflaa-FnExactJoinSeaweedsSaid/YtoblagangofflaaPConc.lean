/- slices.Concat of two rows is their append. -/
import Derived.Test.YtoblagangofflaaPNum
import Derived.Test.YtoblagangofflaaJ0
import Derived.Test.YtoblagangofflaaJ3
set_option linter.unusedVariables false
set_option linter.unusedSimpArgs false
namespace Go.Proofs.Ytoblagangofflaa.Pure
open Go.RowKit Go.Proofs.Ytoblagangofflaa.J Go.Proofs.YtoblagangofflaaW.PrintWords Go.Proofs.YtoblagangofflaaW.PrintLast Go.Proofs.YtoblagangofflaaW.PrintMore

theorem concat2_ev (p q : List Int) (hp : p.length ≤ 1048576) (hq : q.length ≤ 1048576) (k : Nat) : slices_Concat_int_int.f (k + 6) [p, q] = some (p ++ q) := by
  have e0 : rd_L1 [p, q] 0 = p := rfl
  have e1 : rd_L1 [p, q] 1 = q := rfl
  have w0 : wrap64 (0 + (p.length : Int)) = (p.length : Int) := by unfold wrap64; omega
  have w1 : wrap64 ((p.length : Int) + (q.length : Int)) = (p.length : Int) + (q.length : Int) := by unfold wrap64; omega
  have i1 : wrap64 (0 + 1) = 1 := wrap_id (by omega) (by omega)
  have i2 : wrap64 (1 + 1) = 2 := wrap_id (by omega) (by omega)
  have l2 : (([p, q] : List (List Int)).length : Int) = 2 := rfl
  unfold slices_Concat_int_int.f
  rw [l2, slices_Concat_int_int.l0, if_pos (by decide), if_pos (by decide), l2, if_pos (by decide), e0, w0, if_neg (by omega), i1]
  rw [slices_Concat_int_int.l0, if_pos (by decide), if_pos (by decide), l2, if_pos (by decide), e1, w1, if_neg (by omega), i2]
  rw [slices_Concat_int_int.l0, if_neg (by decide)]
  unfold slices_Grow_int_int_at_nil.f
  rw [if_pos (by omega), Option.bind_some, l2]
  rw [slices_Concat_int_int.l1, if_pos (by decide), if_pos (by decide), l2, if_pos (by decide), e0, if_pos (by simp; omega), i1]
  rw [slices_Concat_int_int.l1, if_pos (by decide), if_pos (by decide), l2, if_pos (by decide), e1, if_pos (by simp; omega), i2]
  rw [slices_Concat_int_int.l1, if_neg (by decide)]
  simp

end Go.Proofs.Ytoblagangofflaa.Pure
