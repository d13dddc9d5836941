/- The law FnExactIsOpenPermutation, as plain lists tell it: at every slice of whole numbers the program's IsOpenPermutation answers what the reference's does. No condition but the law's own guard. -/
import Derived.Test.YtbijopabcnmjiaaPCross
import Derived.Test.YtbijopabcnmjiaaPLaws
import Derived.Test.YtbijopabcnmjiaaY7
set_option linter.unusedVariables false
set_option linter.unusedSimpArgs false
namespace Go.Proofs.Ytbijopabcnmjiaa.Pure
open Go.RowKit Go.Proofs.Ytbijopabcnmjiaa.Y Go.Proofs.YtbijopabcnmjiaaW.PrintWords Go.Proofs.YtbijopabcnmjiaaW.PrintLast Go.Proofs.YtbijopabcnmjiaaW.PrintMore

theorem both_ev (l : List Int) (h : l.length ≤ 1048576) : ∃ (r1 r2 : Bool), ∀ k, l.length + 1000 ≤ k → spec_IsOpenPermutation.f k l = some (r1, r2) ∧ impl_IsOpenPermutation.f k l = some (r1, r2) := by
  refine ⟨openB l, decide ((l.length : Int) ≤ 12), fun k hk => ?_⟩
  unfold spec_IsOpenPermutation.f impl_IsOpenPermutation.f
  rw [isPoints_ev l k (by omega), peOpen_ev l h k (by omega)]
  simp only [Option.bind_some]
  cases hp : ptsB l with
  | false =>
    have ho : openB l = false := by unfold openB; rw [hp]; rfl
    rw [ho]
    refine ⟨?_, rfl⟩
    by_cases h12 : l.length ≤ 12
    · rw [if_neg (by omega), decide_eq_true (show (l.length : Int) ≤ 12 by omega)]
    · rw [if_pos (by omega), decide_eq_false (show ¬ (l.length : Int) ≤ 12 by omega)]
  | true =>
    have hl := ptsB_len hp
    rw [if_pos rfl, icrossing_ev l hl k (by omega), if_neg (by omega), decide_eq_true (show (l.length : Int) ≤ 12 by omega)]
    simp only [Option.bind_some, nil_beq]
    unfold openB
    rw [hp]
    constructor <;> first | trivial | rfl

theorem FnExactIsOpenPermutation : laws_FnExactIsOpenPermutation.Pure := by
  intro l _ _ _
  by_cases h : l.length ≤ 1048576
  · obtain ⟨r1, r2, hr⟩ := both_ev l h
    have hs : ∀ k, l.length + 1000 ≤ k → spec_IsOpenPermutation.f k l = some (r1, r2) := fun k hk => (hr k hk).1
    have hi : ∀ k, l.length + 1000 ≤ k → impl_IsOpenPermutation.f k l = some (r1, r2) := fun k hk => (hr k hk).2
    have T1 := fun k hk => toIntS_ev l h k hk
    have E1 := fun k hk => eqIntS_ev l h k hk
    obtain ⟨n, hn0⟩ : ∃ n, n = l.length + 2000 := ⟨_, rfl⟩
    refine ⟨n + 4, ?_⟩
    unfold laws_FnExactIsOpenPermutation.f
    rw [if_neg (by omega)]
    simp (disch := omega) only [T1, hs, hi, Option.bind_some, if_false, bne_self_eq_false, Bool.false_eq_true]
    rw [laws_FnExactIsOpenPermutation.j0]
    simp (disch := omega) only [T1, E1, Option.bind_some, if_true, if_false, Bool.false_eq_true]
  · refine ⟨1, ?_⟩
    unfold laws_FnExactIsOpenPermutation.f
    rw [if_pos (by omega)]

end Go.Proofs.Ytbijopabcnmjiaa.Pure
