/- The law FnExactPermutationOf, as plain lists tell it: at every pair of slices of whole numbers the program's PermutationOf answers what the reference's does, and what it answers is of its own. No condition but the law's own guard. -/
import Derived.Test.YtnhegojnbdcpdaaPPerm
import Derived.Test.YtnhegojnbdcpdaaX7
import Derived.Test.YtnhegojnbdcpdaaX8
set_option linter.unusedVariables false
set_option linter.unusedSimpArgs false
namespace Go.Proofs.Ytnhegojnbdcpdaa.Pure
open Go.RowKit Go.Proofs.Ytnhegojnbdcpdaa.X Go.Proofs.YtnhegojnbdcpdaaW.PrintWords Go.Proofs.YtnhegojnbdcpdaaW.PrintLast Go.Proofs.YtnhegojnbdcpdaaW.PrintMore

theorem both_ev (a b : List Int) (ha : a.length ≤ 1048576) (hb : b.length ≤ 1048576) : ∃ (r1 : List Int) (r3 : Bool), r1.length ≤ 24 ∧ ∀ k, a.length + b.length + 1000 ≤ k → spec_PermutationOf.f k a b = some (r1, r3) ∧ impl_PermutationOf.f k a b = some (r1, r3) := by
  cases h : meander a b with
  | false =>
    refine ⟨[], false, by simp, fun k hk => ?_⟩
    have := perm_ev a b ha hb k hk
    rw [h] at this
    simpa using this
  | true =>
    refine ⟨word a b, true, word_len h, fun k hk => ?_⟩
    have := perm_ev a b ha hb k hk
    rw [h] at this
    simpa using this

theorem FnExactPermutationOf : laws_FnExactPermutationOf.Pure := by
  intro a b ha _ hb _
  by_cases h : a.length + b.length ≤ 1048576
  · obtain ⟨r1, r3, hn1, hr⟩ := both_ev a b (by omega) (by omega)
    have hs : ∀ k, a.length + b.length + 1000 ≤ k → spec_PermutationOf.f k a b = some (r1, r3) := fun k hk => (hr k hk).1
    have hi : ∀ k, a.length + b.length + 1000 ≤ k → impl_PermutationOf.f k a b = some (r1, r3) := fun k hk => (hr k hk).2
    have M1 := fun k hk => markMeander_ev a b (by omega) (by omega) k hk
    have M2 := fun k hk => markIntS_ev r1 1 (by omega) (by omega) k hk
    have H2 := fun k hk => heldIntS_ev r1.length 1 (by omega) (by omega) k hk
    have T1 := fun k hk => toMeander_ev a b (by omega) (by omega) k hk
    have E1 := fun k hk => eqMeander_ev a b (by omega) (by omega) k hk
    have E2 := fun k hk => eqIntS_ev r1 (by omega) k hk
    simp only [Int.natCast_one] at M2 H2
    obtain ⟨n, hn0⟩ : ∃ n, n = a.length + b.length + 2000 := ⟨_, rfl⟩
    have N1 : ¬ ((1 + a.length + b.length : Nat) : Int) < 0 := by omega
    have N2 : ¬ ((1 + r1.length : Nat) : Int) < 0 := by omega
    refine ⟨n + 4, ?_⟩
    unfold laws_FnExactPermutationOf.f
    rw [szMeander_val a b ha hb, if_pos h, Option.bind_some, if_neg (by omega)]
    simp (disch := omega) only [T1, hs, hi, E2, Option.bind_some, if_true, bne_self_eq_false]
    rw [laws_FnExactPermutationOf.j0]
    simp (disch := omega) only [T1, E1, M1, N1, E2, Option.bind_some, if_true, if_false, bne_self_eq_false, Bool.false_eq_true]
    rw [laws_FnExactPermutationOf.j1]
    simp (disch := omega) only [T1, hi, M2, H2, N2, E2, Option.bind_some, if_true, if_false, bne_self_eq_false, Bool.false_eq_true]
    rw [laws_FnExactPermutationOf.j2]
    simp (disch := omega) only [H2, N2, Option.bind_some, if_true, if_false, Bool.false_eq_true]
  · refine ⟨1, ?_⟩
    unfold laws_FnExactPermutationOf.f
    rw [szMeander_val a b ha hb, if_neg h, Option.bind_some, if_pos (by omega)]

end Go.Proofs.Ytnhegojnbdcpdaa.Pure
