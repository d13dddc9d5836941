/- The law FnExactTurnFolding, as plain lists tell it: at every slice of whole numbers and every number the program's TurnFolding answers what the reference's does, and what it answers is of its own. No condition but the law's own guard. -/
import Derived.Test.YtihceogogkbmkaaPStack
import Derived.Test.YtihceogogkbmkaaPLaws
import Derived.Test.YtihceogogkbmkaaX7
import Derived.Test.YtihceogogkbmkaaX8
set_option linter.unusedVariables false
set_option linter.unusedSimpArgs false
namespace Go.Proofs.Ytihceogogkbmkaa.Pure
open Go.RowKit Go.Proofs.Ytihceogogkbmkaa.X Go.Proofs.YtihceogogkbmkaaW.PrintWords Go.Proofs.YtihceogogkbmkaaW.PrintLast Go.Proofs.YtihceogogkbmkaaW.PrintMore

theorem turn_l0 (l : List Int) (by_ : Int) (hl : 1 ≤ l.length ∧ l.length ≤ 8) (hb : -100 ≤ by_ ∧ by_ ≤ 100) (d : Nat) : ∀ (i : Nat) (x : List Int), i + d = l.length → x.length = l.length →
    ∃ r, r.length = l.length ∧ ∀ k, d < k → spec_spTurn.l0 k by_ (l.length : Int) x l (l.length : Int) (i : Int) = some r ∧ impl_TurnFolding.l0 k l by_ x l (l.length : Int) (i : Int) = some (r, true) := by
  induction d with
  | zero =>
    intro i x hi hx
    refine ⟨x, hx, fun k hk => ?_⟩
    obtain ⟨k, rfl⟩ : ∃ m, k = m + 1 := ⟨k - 1, by omega⟩
    rw [spec_spTurn.l0, impl_TurnFolding.l0, if_neg (by omega), if_neg (by omega)]
    exact ⟨rfl, rfl⟩
  | succ d ih =>
    intro i x hi hx
    have hn : (0 : Int) < (l.length : Int) := by omega
    obtain ⟨t, ht⟩ : ∃ t, t = Int.tmod (wrap64 (Int.tmod (wrap64 ((i : Int) + by_)) (l.length : Int) + (l.length : Int))) (l.length : Int) := ⟨_, rfl⟩
    have b1 := Int.tmod_lt_of_pos (wrap64 ((i : Int) + by_)) hn
    have b2 : -(l.length : Int) < Int.tmod (wrap64 ((i : Int) + by_)) (l.length : Int) := by
      have := Int.lt_tmod_of_pos (wrap64 ((i : Int) + by_)) hn
      omega
    have w : wrap64 (Int.tmod (wrap64 ((i : Int) + by_)) (l.length : Int) + (l.length : Int)) = Int.tmod (wrap64 ((i : Int) + by_)) (l.length : Int) + (l.length : Int) := wrap_id (by omega) (by omega)
    have t1 : 0 ≤ t := by rw [ht, w]; exact Int.tmod_nonneg _ (by omega)
    have t2 : t < (l.length : Int) := by rw [ht]; exact Int.tmod_lt_of_pos _ hn
    obtain ⟨r, h1, h2⟩ := ih (i + 1) (x.set t.toNat (rd l (i : Int))) (by omega) (by simpa using hx)
    refine ⟨r, h1, fun k hk => ?_⟩
    obtain ⟨k, rfl⟩ : ∃ m, k = m + 1 := ⟨k - 1, by omega⟩
    have c1 : (i : Int) < (l.length : Int) := by omega
    have c2 : (0 : Int) ≤ (i : Int) := by omega
    have c3 : ¬ (l.length : Int) = 0 := by omega
    have c4 : t < (x.length : Int) := by omega
    have e : impl_rest.f (wrap64 ((i : Int) + by_)) (l.length : Int) = some t := by
      unfold impl_rest.f; rw [if_neg c3, ht]
    rw [spec_spTurn.l0, impl_TurnFolding.l0, e, ← ht]
    simp only [c1, c2, c3, c4, t1, if_true, if_false, Option.bind_some]
    rw [wrap_succ (by omega)]
    exact h2 k (by omega)
theorem both_ev (l : List Int) (h : l.length ≤ 1048576) (y : Int) : ∃ (r1 : List Int) (r3 : Bool), r1.length ≤ 24 ∧ ∀ k, l.length + 1000 ≤ k → spec_TurnFolding.f k l y = some (r1, r3) ∧ impl_TurnFolding.f k l y = some (r1, r3) := by
  have no : stackB l = false ∨ ¬ (-100 ≤ y ∧ y ≤ 100) → ∀ k, l.length + 1000 ≤ k → spec_TurnFolding.f k l y = some ([], false) ∧ impl_TurnFolding.f k l y = some ([], false) := by
    intro hp k hk
    obtain ⟨k, rfl⟩ : ∃ m, k = m + 1 := ⟨k - 1, by omega⟩
    unfold spec_TurnFolding.f impl_TurnFolding.f impl_isTurn.f
    rw [spStack_ev l h _ (by omega), isStack_ev l _ (by omega), sIn_val, iIn_val]
    cases hs : stackB l with
    | false =>
      simp only [Option.bind_some, Bool.false_eq_true, if_false]
      rw [impl_TurnFolding.j0, if_pos rfl]
      exact ⟨trivial, rfl⟩
    | true =>
      have hy := hp.resolve_left (by rw [hs]; simp)
      have e : decide (-100 ≤ y ∧ y ≤ 100) = false := decide_eq_false hy
      simp only [Option.bind_some, if_true, e, Bool.false_eq_true, if_false]
      rw [impl_TurnFolding.j0]
      exact ⟨trivial, rfl⟩
  cases hp : stackB l with
  | false => exact ⟨[], false, by simp, no (.inl hp)⟩
  | true =>
    by_cases hy : -100 ≤ y ∧ y ≤ 100
    · have hl := stackB_len hp
      obtain ⟨r, h1, h2⟩ := turn_l0 l y hl hy l.length 0 (List.replicate l.length 0) (by omega) (by simp)
      refine ⟨r, true, by omega, fun k hk => ?_⟩
      obtain ⟨k, rfl⟩ : ∃ m, k = m + 1 := ⟨k - 1, by omega⟩
      obtain ⟨h3, _⟩ := h2 (k + 1) (by omega)
      obtain ⟨_, h4⟩ := h2 k (by omega)
      rw [Int.natCast_zero] at h3 h4
      have e : decide (-100 ≤ y ∧ y ≤ 100) = true := decide_eq_true hy
      unfold spec_TurnFolding.f impl_TurnFolding.f impl_isTurn.f spec_spTurn.f
      rw [spStack_ev l h _ (by omega), isStack_ev l _ (by omega), sIn_val, iIn_val, hp, e]
      simp only [Option.bind_some, if_true]
      have c1 : (0 : Int) ≤ (l.length : Int) := by omega
      have c2 : l.length ≤ 35184372088832 := by omega
      rw [impl_TurnFolding.j0]
      simp only [Bool.not_true, Bool.false_eq_true, if_false, c1, c2, if_true, Int.toNat_natCast, h3, h4, Option.bind_some, and_self]
    · exact ⟨[], false, by simp, no (.inr hy)⟩
theorem FnExactTurnFolding : laws_FnExactTurnFolding.Pure := by
  intro l y _ _ _ _
  by_cases h : l.length ≤ 1048576
  · obtain ⟨r1, r3, hn1, hr⟩ := both_ev l h y
    have hs : ∀ k, l.length + 1000 ≤ k → spec_TurnFolding.f k l y = some (r1, r3) := fun k hk => (hr k hk).1
    have hi : ∀ k, l.length + 1000 ≤ k → impl_TurnFolding.f k l y = some (r1, r3) := fun k hk => (hr k hk).2
    have T1 := fun k hk => toIntS_ev l h k hk
    have E1 := fun k hk => eqIntS_ev l h k hk
    have E2 := fun k hk => eqIntS_ev r1 (by omega) k hk
    have M1 := fun k hk => markIntS_ev l 1 h (by omega) k hk
    have M2 := fun k hk => markIntS_ev r1 1 (by omega) (by omega) k hk
    have H2 := fun k hk => heldIntS_ev r1.length 1 (by omega) (by omega) k hk
    simp only [Int.natCast_one] at M1 M2 H2
    obtain ⟨n, hn0⟩ : ∃ n, n = l.length + 2000 := ⟨_, rfl⟩
    have N1 : ¬ ((1 + l.length : Nat) : Int) < 0 := by omega
    have N2 : ¬ ((1 + r1.length : Nat) : Int) < 0 := by omega
    refine ⟨n + 4, ?_⟩
    unfold laws_FnExactTurnFolding.f
    rw [if_neg (by omega)]
    simp (disch := omega) only [T1, hs, hi, E2, Option.bind_some, if_true, bne_self_eq_false]
    rw [laws_FnExactTurnFolding.j0]
    simp (disch := omega) only [T1, E1, M1, N1, E2, Option.bind_some, if_true, if_false, bne_self_eq_false, Bool.false_eq_true]
    rw [laws_FnExactTurnFolding.j1]
    simp (disch := omega) only [T1, hi, M2, H2, N2, E2, Option.bind_some, if_true, if_false, bne_self_eq_false, Bool.false_eq_true]
    rw [laws_FnExactTurnFolding.j2]
    simp (disch := omega) only [H2, N2, Option.bind_some, if_true, if_false, Bool.false_eq_true]
  · refine ⟨1, ?_⟩
    unfold laws_FnExactTurnFolding.f
    rw [if_pos (by omega)]

end Go.Proofs.Ytihceogogkbmkaa.Pure
