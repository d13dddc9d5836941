/- The law FnExactCrossingOf, as plain lists tell it: at every slice of whole numbers the program's CrossingOf answers what the reference's does, and what it answers is of its own. No condition but the law's own guard. -/
import Derived.Test.YtbijopabcnmjiaaPCross
import Derived.Test.YtbijopabcnmjiaaPLaws
import Derived.Test.YtbijopabcnmjiaaY7
import Derived.Test.YtbijopabcnmjiaaY8
set_option linter.unusedVariables false
set_option linter.unusedSimpArgs false
namespace Go.Proofs.Ytbijopabcnmjiaa.Pure
open Go.RowKit Go.Proofs.Ytbijopabcnmjiaa.Y Go.Proofs.YtbijopabcnmjiaaW.PrintWords Go.Proofs.YtbijopabcnmjiaaW.PrintLast Go.Proofs.YtbijopabcnmjiaaW.PrintMore

theorem both_ev (l : List Int) (h : l.length ≤ 1048576) : ∃ (r1 : List Int) (r3 : Bool), r1.length ≤ 24 ∧ ∀ k, l.length + 1000 ≤ k → spec_CrossingOf.f k l = some (r1, r3) ∧ impl_CrossingOf.f k l = some (r1, r3) := by
  cases hp : ptsB l with
  | false =>
    refine ⟨[], false, by simp, fun k hk => ?_⟩
    unfold spec_CrossingOf.f impl_CrossingOf.f
    rw [peWord_ev l h k (by omega), isPoints_ev l k (by omega), hp]
    exact ⟨rfl, rfl⟩
  | true =>
    have hl := ptsB_len hp
    refine ⟨(crs l).1, (crs l).2, by have := crs_len l; omega, fun k hk => ?_⟩
    unfold spec_CrossingOf.f impl_CrossingOf.f
    rw [peWord_ev l h k (by omega), isPoints_ev l k (by omega), hp, Option.bind_some, Option.bind_some, if_pos rfl, if_pos rfl, scrossing_ev l hl k (by omega), icrossing_ev l hl k (by omega)]
    simp only [Option.bind_some, crs_snd, nil_bne, and_self]

theorem FnExactCrossingOf : laws_FnExactCrossingOf.Pure := by
  intro l _ _ _
  by_cases h : l.length ≤ 1048576
  · obtain ⟨r1, r3, hn1, hr⟩ := both_ev l h
    have hs : ∀ k, l.length + 1000 ≤ k → spec_CrossingOf.f k l = some (r1, r3) := fun k hk => (hr k hk).1
    have hi : ∀ k, l.length + 1000 ≤ k → impl_CrossingOf.f k l = some (r1, r3) := fun k hk => (hr k hk).2
    have T1 := fun k hk => toIntS_ev l h k hk
    have E1 := fun k hk => eqIntS_ev l h k hk
    have E2 := fun k hk => eqIntS_ev r1 (by omega) k hk
    have M1 := fun k hk => markIntS_ev l 1 h (by omega) k hk
    have M2 := fun k hk => markIntS_ev r1 1 (by omega) (by omega) k hk
    have H2 := fun k hk => heldIntS_ev r1.length 1 (by omega) (by omega) k hk
    simp only [Int.natCast_one] at M1 M2 H2
    obtain ⟨n, hn0⟩ : ∃ n, n = l.length + 2000 := ⟨_, rfl⟩
    have N1 : ¬ ((1 + l.length : Nat) : Int) < 0 := by omega
    have N2 : ¬ ((1 + r1.length : Nat) : Int) < 0 := by omega
    refine ⟨n + 4, ?_⟩
    unfold laws_FnExactCrossingOf.f
    rw [if_neg (by omega)]
    simp (disch := omega) only [T1, hs, hi, E2, Option.bind_some, if_true, bne_self_eq_false]
    rw [laws_FnExactCrossingOf.j0]
    simp (disch := omega) only [T1, E1, M1, N1, E2, Option.bind_some, if_true, if_false, bne_self_eq_false, Bool.false_eq_true]
    rw [laws_FnExactCrossingOf.j1]
    simp (disch := omega) only [T1, hi, M2, H2, N2, E2, Option.bind_some, if_true, if_false, bne_self_eq_false, Bool.false_eq_true]
    rw [laws_FnExactCrossingOf.j2]
    simp (disch := omega) only [H2, N2, Option.bind_some, if_true, if_false, Bool.false_eq_true]
  · refine ⟨1, ?_⟩
    unfold laws_FnExactCrossingOf.f
    rw [if_pos (by omega)]

end Go.Proofs.Ytbijopabcnmjiaa.Pure
