/- What the helpers of the exact laws over slices of slices compute: eqIntSS, markIntSS, heldIntSS. -/
import Derived.Test.YtbphdjnainlbhaaPLawsA
import Derived.Test.YtbphdjnainlbhaaL0
import Derived.Test.YtbphdjnainlbhaaL5
set_option linter.unusedVariables false
set_option linter.unusedSimpArgs false
namespace Go.Proofs.Ytbphdjnainlbhaa.Pure
open Go.RowKit Go.Proofs.Ytbphdjnainlbhaa.L Go.Proofs.YtbphdjnainlbhaaW.PrintWords Go.Proofs.YtbphdjnainlbhaaW.PrintLast Go.Proofs.YtbphdjnainlbhaaW.PrintMore

theorem rdL1_get {l : List (List Int)} {i : Nat} (h : i < l.length) : rd_L1 l (i : Int) = l[i] := by
  unfold rd_L1; simp [h]
theorem eqIntSS_l0 (R : List (List Int)) (hR : R.length ≤ 1048576) (hr : ∀ x ∈ R, x.length ≤ 1048576) (d : Nat) : ∀ (k i : Nat), i + d = R.length → d + 1048577 ≤ k →
    laws_eqIntSS.l0 k R R (i : Int) = some true := by
  induction d with
  | zero =>
    intro k i hi hk
    obtain ⟨k, rfl⟩ : ∃ m, k = m + 1 := ⟨k - 1, by omega⟩
    rw [laws_eqIntSS.l0, if_neg (by omega)]
  | succ d ih =>
    intro k i hi hk
    obtain ⟨k, rfl⟩ : ∃ m, k = m + 1 := ⟨k - 1, by omega⟩
    have hlt : i < R.length := by omega
    have hx := hr _ (List.getElem_mem hlt)
    rw [laws_eqIntSS.l0, if_pos (by omega), if_pos (by omega), if_pos (by omega), rdL1_get hlt, eqIntS_ev _ hx k (by omega), Option.bind_some, if_pos rfl, wrap_succ (by omega), ih k (i + 1) (by omega) (by omega)]
theorem eqIntSS_ev (R : List (List Int)) (hR : R.length ≤ 1048576) (hr : ∀ x ∈ R, x.length ≤ 1048576) (k : Nat) (hk : 2097153 ≤ k) : laws_eqIntSS.f k R R = some true := by
  unfold laws_eqIntSS.f
  rw [if_pos rfl]
  exact eqIntSS_l0 R hR hr R.length k 0 (by omega) (by omega)

end Go.Proofs.Ytbphdjnainlbhaa.Pure
