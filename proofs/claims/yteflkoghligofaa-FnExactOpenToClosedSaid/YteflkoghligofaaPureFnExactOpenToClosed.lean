/- The law FnExactOpenToClosed, as plain lists tell it: at every slice of whole numbers the program's OpenToClosed answers what the reference's does, and what it answers is of its own. No condition but the law's own guard. -/
import Derived.Test.YteflkoghligofaaPMeaW
import Derived.Test.YteflkoghligofaaM11
import Derived.Test.YteflkoghligofaaM12
import Derived.Test.YteflkoghligofaaM13
import Derived.Test.YteflkoghligofaaM4
set_option linter.unusedVariables false
set_option linter.unusedSimpArgs false
namespace Go.Proofs.Yteflkoghligofaa.Pure
open Go.RowKit Go.Proofs.Yteflkoghligofaa.M Go.Proofs.YteflkoghligofaaW.PrintWords Go.Proofs.YteflkoghligofaaW.PrintLast Go.Proofs.YteflkoghligofaaW.PrintMore

theorem own_val (l : List Int) (h : l.length ≤ 20) : spec_l1Own.f l = some l := by
  unfold spec_l1Own.f
  rw [Option.bind_some, if_pos (by simp; omega)]; rfl
theorem clone_val (l : List Int) (h : l.length ≤ 20) : slices_Clone_int_int.f l = some l := by
  unfold slices_Clone_int_int.f
  rw [if_pos (by omega)]
theorem both_ev (l : List Int) (hl : l.length ≤ 1048576) : ∃ (r1 r2 : List Int) (q : Bool), r1.length ≤ 12 ∧ r2.length ≤ 12 ∧ ∀ k, l.length + 1500 ≤ k → spec_OpenToClosed.f k l = some (r1, r2, q) ∧ impl_OpenToClosed.f k l = some (r1, r2, q) := by
  have js : ∀ k, spec_OpenToClosed.j0 (k + 1) l true = some ([], [], false) := fun k => by rw [spec_OpenToClosed.j0, if_pos rfl]
  have ji : ∀ k, impl_OpenToClosed.j0 (k + 1) l true = some ([], [], false) := fun k => by rw [impl_OpenToClosed.j0, if_pos rfl]
  by_cases ho : openB l = true
  case neg =>
    refine ⟨[], [], false, by simp, by simp, fun k hk => ?_⟩
    obtain ⟨k, rfl⟩ : ∃ m, k = m + 1 := ⟨k - 1, by omega⟩
    unfold spec_OpenToClosed.f impl_OpenToClosed.f
    rw [peOpen_ev l hl (k + 1) (by omega), isPoints_ev l (k + 1) (by omega), Option.bind_some, Option.bind_some, if_neg ho, js]
    refine ⟨rfl, ?_⟩
    cases hp : ptsB l with
    | false => rw [if_neg (by simp), ji]
    | true =>
      rw [if_pos rfl, icrossing_ev l (ptsB_len hp) (k + 1) (by omega), Option.bind_some, if_neg, ji]
      intro e
      apply ho
      unfold openB
      rw [hp, e]; rfl
  have hp : ptsB l = true := by unfold openB at ho; simp only [Bool.and_eq_true] at ho; exact ho.1
  have hc : (crs l).1 = [] := by unfold openB at ho; simp only [Bool.and_eq_true, decide_eq_true_eq] at ho; exact ho.2
  have h12 := ptsB_len hp
  by_cases h2 : l.length % 2 = 0
  · refine ⟨[], [], false, by simp, by simp, fun k hk => ?_⟩
    obtain ⟨k, rfl⟩ : ∃ m, k = m + 1 := ⟨k - 1, by omega⟩
    unfold spec_OpenToClosed.f impl_OpenToClosed.f
    rw [peOpen_ev l hl (k + 1) (by omega), isPoints_ev l (k + 1) (by omega), Option.bind_some, Option.bind_some, if_pos ho, if_pos hp, icrossing_ev l h12 (k + 1) (by omega), Option.bind_some, if_pos hc, if_pos (by omega), if_neg (by omega), js, ji]
    exact ⟨rfl, rfl⟩
  have hz : rd l 0 = l.getD 0 0 := rd_nat l 0
  by_cases h3 : rd l 0 = 0
  case neg =>
    refine ⟨[], [], false, by simp, by simp, fun k hk => ?_⟩
    obtain ⟨k, rfl⟩ : ∃ m, k = m + 1 := ⟨k - 1, by omega⟩
    unfold spec_OpenToClosed.f impl_OpenToClosed.f
    rw [peOpen_ev l hl (k + 1) (by omega), isPoints_ev l (k + 1) (by omega), Option.bind_some, Option.bind_some, if_pos ho, if_pos hp, icrossing_ev l h12 (k + 1) (by omega), Option.bind_some, if_pos hc, if_neg (by omega), if_pos (by omega), if_neg h3, if_pos (by omega), if_pos (by omega), show (rd l 0 != 0) = true from bne_iff_ne.mpr h3, js, ji]
    exact ⟨rfl, rfl⟩
  obtain ⟨y, hy⟩ : ∃ y, y = l ++ [(l.length : Int)] := ⟨_, rfl⟩
  have hyl : y.length = l.length + 1 := by rw [hy]; simp
  obtain ⟨r1, r2, q, h4, h5, h⟩ := fromWord_ev y (by omega)
  refine ⟨r1, r2, q, h4, h5, fun k hk => ?_⟩
  obtain ⟨k, rfl⟩ : ∃ m, k = m + 2 := ⟨k - 2, by omega⟩
  obtain ⟨hs, hi⟩ := h (k + 1) (by omega)
  unfold spec_OpenToClosed.f impl_OpenToClosed.f
  rw [peOpen_ev l hl (k + 2) (by omega), isPoints_ev l (k + 2) (by omega), Option.bind_some, Option.bind_some, if_pos ho, if_pos hp, icrossing_ev l h12 (k + 2) (by omega), Option.bind_some, if_pos hc, if_neg (by omega), if_pos (by omega), if_pos h3, if_pos (by omega), if_pos (by omega), show (rd l 0 != 0) = false from by rw [h3]; rfl, show ((l.length : Int) == 12) = false from by rw [beq_eq_false_iff_ne]; omega]
  rw [spec_OpenToClosed.j0, impl_OpenToClosed.j0, if_neg (by simp), if_neg (by simp), own_val l (by omega), clone_val l (by omega)]
  unfold spec_FromPermutation.f at hs
  have hlt : l.length < 17592186044416 := by omega
  simp only [Option.bind_some, if_pos hlt, ← hy, hi]
  exact ⟨hs, trivial⟩
theorem FnExactOpenToClosed : laws_FnExactOpenToClosed.Pure := by
  intro l _ _ _
  by_cases h : l.length ≤ 1048576
  · obtain ⟨r1, r2, r3, hn1, hn2, hr⟩ := both_ev l h
    have hs : ∀ k, l.length + 1500 ≤ k → spec_OpenToClosed.f k l = some (r1, r2, r3) := fun k hk => (hr k hk).1
    have hi : ∀ k, l.length + 1500 ≤ k → impl_OpenToClosed.f k l = some (r1, r2, r3) := fun k hk => (hr k hk).2
    have T1 := fun k hk => toIntS_ev l h k hk
    have E1 := fun k hk => eqIntS_ev l h k hk
    have E2 := fun k hk => eqMeander_ev r1 r2 (by omega) (by omega) k hk
    have M1 := fun k hk => markIntS_ev l 1 h (by omega) k hk
    have M2 := fun k hk => markMeander_ev r1 r2 (by omega) (by omega) k hk
    have H2 := fun k hk => heldMeander_ev r1.length r2.length (by omega) (by omega) k hk
    simp only [Int.natCast_one] at M1
    obtain ⟨n, hn0⟩ : ∃ n, n = l.length + 2000 := ⟨_, rfl⟩
    have N1 : ¬ ((1 + l.length : Nat) : Int) < 0 := by omega
    have N2 : ¬ ((1 + r1.length + r2.length : Nat) : Int) < 0 := by omega
    refine ⟨n + 4, ?_⟩
    unfold laws_FnExactOpenToClosed.f
    rw [if_neg (by omega)]
    simp (disch := omega) only [T1, hs, hi, E2, Option.bind_some, if_true, bne_self_eq_false]
    rw [laws_FnExactOpenToClosed.j0]
    simp (disch := omega) only [T1, E1, M1, N1, E2, Option.bind_some, if_true, if_false, bne_self_eq_false, Bool.false_eq_true]
    rw [laws_FnExactOpenToClosed.j1]
    simp (disch := omega) only [T1, hi, M2, H2, N2, E2, Option.bind_some, if_true, if_false, bne_self_eq_false, Bool.false_eq_true]
    rw [laws_FnExactOpenToClosed.j2]
    simp (disch := omega) only [H2, N2, Option.bind_some, if_true, if_false, Bool.false_eq_true]
  · refine ⟨1, ?_⟩
    unfold laws_FnExactOpenToClosed.f
    rw [if_pos (by omega)]

end Go.Proofs.Yteflkoghligofaa.Pure
