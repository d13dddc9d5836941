/- The law FnExactFromPermutation, as plain lists tell it: at every slice of whole numbers the program's FromPermutation answers what the reference's does, and what it answers is of its own. No condition but the law's own guard. -/
import Derived.Test.YteflkoghligofaaPMeaW
import Derived.Test.YteflkoghligofaaM10
import Derived.Test.YteflkoghligofaaM11
import Derived.Test.YteflkoghligofaaM4
set_option linter.unusedVariables false
set_option linter.unusedSimpArgs false
namespace Go.Proofs.Yteflkoghligofaa.Pure
open Go.RowKit Go.Proofs.Yteflkoghligofaa.M Go.Proofs.YteflkoghligofaaW.PrintWords Go.Proofs.YteflkoghligofaaW.PrintLast Go.Proofs.YteflkoghligofaaW.PrintMore

theorem FnExactFromPermutation : laws_FnExactFromPermutation.Pure := by
  intro l _ _ _
  by_cases h : l.length ≤ 1048576
  · obtain ⟨r1, r2, r3, hn1, hn2, hr⟩ := fromWord_ev l h
    have hs : ∀ k, l.length + 1000 ≤ k → spec_FromPermutation.f k l = some (r1, r2, r3) := fun k hk => (hr k hk).1
    have hi : ∀ k, l.length + 1000 ≤ k → impl_FromPermutation.f k l = some (r1, r2, r3) := fun k hk => (hr k hk).2
    have T1 := fun k hk => toIntS_ev l h k hk
    have E1 := fun k hk => eqIntS_ev l h k hk
    have E2 := fun k hk => eqMeander_ev r1 r2 (by omega) (by omega) k hk
    have M1 := fun k hk => markIntS_ev l 1 h (by omega) k hk
    have M2 := fun k hk => markMeander_ev r1 r2 (by omega) (by omega) k hk
    have H2 := fun k hk => heldMeander_ev r1.length r2.length (by omega) (by omega) k hk
    simp only [Int.natCast_one] at M1
    obtain ⟨n, hn0⟩ : ∃ n, n = l.length + 2000 := ⟨_, rfl⟩
    have N1 : ¬ ((1 + l.length : Nat) : Int) < 0 := by omega
    have N2 : ¬ ((1 + r1.length + r2.length : Nat) : Int) < 0 := by omega
    refine ⟨n + 4, ?_⟩
    unfold laws_FnExactFromPermutation.f
    rw [if_neg (by omega)]
    simp (disch := omega) only [T1, hs, hi, E2, Option.bind_some, if_true, bne_self_eq_false]
    rw [laws_FnExactFromPermutation.j0]
    simp (disch := omega) only [T1, E1, M1, N1, E2, Option.bind_some, if_true, if_false, bne_self_eq_false, Bool.false_eq_true]
    rw [laws_FnExactFromPermutation.j1]
    simp (disch := omega) only [T1, hi, M2, H2, N2, E2, Option.bind_some, if_true, if_false, bne_self_eq_false, Bool.false_eq_true]
    rw [laws_FnExactFromPermutation.j2]
    simp (disch := omega) only [H2, N2, Option.bind_some, if_true, if_false, Bool.false_eq_true]
  · refine ⟨1, ?_⟩
    unfold laws_FnExactFromPermutation.f
    rw [if_pos (by omega)]

end Go.Proofs.Yteflkoghligofaa.Pure
