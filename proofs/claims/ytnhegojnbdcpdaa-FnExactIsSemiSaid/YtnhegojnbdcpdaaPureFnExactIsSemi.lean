/- The law FnExactIsSemi, as plain lists tell it: at every slice of whole numbers the program's IsSemi answers what the reference's does. No condition but the law's own guard. -/
import Derived.Test.YtnhegojnbdcpdaaPSemi
import Derived.Test.YtnhegojnbdcpdaaX2
import Derived.Test.YtnhegojnbdcpdaaX4
import Derived.Test.YtnhegojnbdcpdaaX5
set_option linter.unusedVariables false
set_option linter.unusedSimpArgs false
namespace Go.Proofs.Ytnhegojnbdcpdaa.Pure
open Go.RowKit Go.Proofs.Ytnhegojnbdcpdaa.X Go.Proofs.YtnhegojnbdcpdaaW.PrintWords Go.Proofs.YtnhegojnbdcpdaaW.PrintLast Go.Proofs.YtnhegojnbdcpdaaW.PrintMore

def semiAns (p : List Int) : Bool × Bool := if good p = true ∧ 0 < p.length then (semi p, true) else (false, false)
theorem both_ev (p : List Int) (hl : p.length ≤ 1048576) (k : Nat) (hk : p.length + 1000 ≤ k) : spec_IsSemi.f k p = some (semiAns p) ∧ impl_IsSemi.f k p = some (semiAns p) := by
  unfold spec_IsSemi.f impl_IsSemi.f
  rw [ahGood_ev p hl _ (by omega), isSystem_ev p _ (by omega)]
  simp only [Option.bind_some]
  cases hg : good p with
  | false =>
    have : semiAns p = (false, false) := by unfold semiAns; simp [hg]
    rw [this]
    exact ⟨rfl, rfl⟩
  | true =>
    by_cases h0 : p.length = 0
    · have : semiAns p = (false, false) := by unfold semiAns; rw [if_neg (by omega)]
      have h1 : (p.length : Int) = 0 := by omega
      rw [this]
      simp only [h1, if_true]
      exact ⟨trivial, trivial⟩
    · have : semiAns p = (semi p, true) := by unfold semiAns; rw [if_pos ⟨hg, by omega⟩]
      have h1 : ¬ (p.length : Int) = 0 := by omega
      rw [this]
      simp only [h1, if_true, if_false]
      rw [spSemi_ev hg (by omega) k (by omega), isSemi_ev hg k (by omega)]
      exact ⟨rfl, rfl⟩
theorem FnExactIsSemi : laws_FnExactIsSemi.Pure := by
  intro l _ _ _
  by_cases h : l.length ≤ 1048576
  · obtain ⟨r, hr⟩ : ∃ r, r = semiAns l := ⟨_, rfl⟩
    obtain ⟨r1, r2⟩ := r
    have hs : ∀ k, l.length + 1000 ≤ k → spec_IsSemi.f k l = some (r1, r2) := fun k hk => by rw [(both_ev l h k hk).1, hr]
    have hi : ∀ k, l.length + 1000 ≤ k → impl_IsSemi.f k l = some (r1, r2) := fun k hk => by rw [(both_ev l h k hk).2, hr]
    have T1 := fun k hk => toIntS_ev l h k hk
    have E1 := fun k hk => eqIntS_ev l h k hk
    obtain ⟨n, hn0⟩ : ∃ n, n = l.length + 2000 := ⟨_, rfl⟩
    refine ⟨n + 4, ?_⟩
    unfold laws_FnExactIsSemi.f
    rw [if_neg (by omega)]
    simp (disch := omega) only [T1, hs, hi, Option.bind_some, if_false, bne_self_eq_false, Bool.false_eq_true]
    rw [laws_FnExactIsSemi.j0]
    simp (disch := omega) only [T1, E1, Option.bind_some, if_true, if_false, Bool.false_eq_true]
  · refine ⟨1, ?_⟩
    unfold laws_FnExactIsSemi.f
    rw [if_pos (by omega)]

end Go.Proofs.Ytnhegojnbdcpdaa.Pure
