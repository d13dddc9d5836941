/- What the helpers of the exact laws over a pair compute; the tests of a pair and of a single curve. -/
import Derived.Test.YtldbkkfkgfacdaaPCurvesJ
import Derived.Test.YtldbkkfkgfacdaaQD0
set_option linter.unusedVariables false
set_option linter.unusedSimpArgs false
namespace Go.Proofs.Ytldbkkfkgfacdaa.Pure
open Go.RowKit Go.Proofs.Ytldbkkfkgfacdaa.P Go.Proofs.YtldbkkfkgfacdaaW.PrintWords Go.Proofs.YtldbkkfkgfacdaaW.PrintLast Go.Proofs.YtldbkkfkgfacdaaW.PrintMore

/-- is this a pair -/
def pairB (p q : List Int) : Bool := good p && (good q && decide (p.length = q.length))
theorem pairB_pair {p q : List Int} (h : pairB p q = true) : Pair p q := by
  unfold pairB at h
  simp only [Bool.and_eq_true, decide_eq_true_eq] at h
  exact ⟨h.1, h.2.1, h.2.2⟩
theorem len_eq (p q : List Int) : ((p.length : Int) == (q.length : Int)) = decide (p.length = q.length) := by
  by_cases h : p.length = q.length
  · simp [h]
  · have : ¬ (p.length : Int) = (q.length : Int) := by omega
    simp [h, this]
theorem mePair_ev (p q : List Int) (hp : p.length ≤ 1048576) (hq : q.length ≤ 1048576) (k : Nat) (hk : p.length + q.length + 1000 ≤ k) : spec_mePair.f k p q = some (pairB p q) := by
  unfold spec_mePair.f pairB
  rw [ahGood_ev p hp k (by omega), ahGood_ev q hq k (by omega), len_eq]
  cases good p <;> cases good q <;> simp
/-- is this a meander -/
def meander (p q : List Int) : Bool := pairB p q && single p q
theorem peSingle_ev (p q : List Int) (hp : p.length ≤ 1048576) (hq : q.length ≤ 1048576) (k : Nat) (hk : p.length + q.length + 1000 ≤ k) : spec_peSingle.f k p q = some (meander p q) := by
  unfold spec_peSingle.f meander
  rw [mePair_ev p q hp hq k hk]
  cases h : pairB p q with
  | false => simp
  | true =>
    have hP := pairB_pair h
    rw [Option.bind_some, if_pos rfl, count_ev hP k (by omega), Option.bind_some, count_single hP]
    rfl
theorem meander_one {p q : List Int} (h : meander p q = true) : Pair p q ∧ 0 < p.length ∧ ∀ j, j < p.length → j ∈ wayOf (qof p) (qof q) p.length 0 := by
  unfold meander at h
  simp only [Bool.and_eq_true] at h
  have hP := pairB_pair h.1
  have h2 := h.2
  unfold single at h2
  exact ⟨hP, one_curve hP.two (of_decide_eq_true h2)⟩
/-- the word of a pair -/
def word (p q : List Int) : List Int := ints (wayOf (qof p) (qof q) p.length 0)

end Go.Proofs.Ytldbkkfkgfacdaa.Pure
