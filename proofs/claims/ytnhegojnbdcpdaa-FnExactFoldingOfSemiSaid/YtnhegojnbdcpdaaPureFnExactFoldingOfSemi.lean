/- The law FnExactFoldingOfSemi, as plain lists tell it: at every slice of whole numbers the program's FoldingOfSemi answers what the reference's does, and what it answers is of its own. No condition but the law's own guard. -/
import Derived.Test.YtnhegojnbdcpdaaPFold
import Derived.Test.YtnhegojnbdcpdaaX5
import Derived.Test.YtnhegojnbdcpdaaX6
set_option linter.unusedVariables false
set_option linter.unusedSimpArgs false
namespace Go.Proofs.Ytnhegojnbdcpdaa.Pure
open Go.RowKit Go.Proofs.Ytnhegojnbdcpdaa.X Go.Proofs.YtnhegojnbdcpdaaW.PrintWords Go.Proofs.YtnhegojnbdcpdaaW.PrintLast Go.Proofs.YtnhegojnbdcpdaaW.PrintMore

def foldAns (p : List Int) : List Int × Bool := if (good p = true ∧ 0 < p.length) ∧ semi p = true then (folds p, true) else ([], false)
theorem both_ev (p : List Int) (hl : p.length ≤ 1048576) (k : Nat) (hk : p.length + 1000 ≤ k) : spec_FoldingOfSemi.f k p = some (foldAns p) ∧ impl_FoldingOfSemi.f k p = some (foldAns p) := by
  obtain ⟨k, rfl⟩ : ∃ m, k = m + 1 := ⟨k - 1, by omega⟩
  unfold spec_FoldingOfSemi.f impl_FoldingOfSemi.f
  rw [ahGood_ev p hl _ (by omega), isSystem_ev p _ (by omega)]
  simp only [Option.bind_some]
  cases hg : good p with
  | false =>
    have : foldAns p = ([], false) := by unfold foldAns; simp [hg]
    rw [this]
    simp only [Bool.false_eq_true, if_false]
    rw [spec_FoldingOfSemi.j0, if_pos rfl]
    simp
  | true =>
    simp only [if_true]
    by_cases h0 : p.length = 0
    · have : foldAns p = ([], false) := by unfold foldAns; rw [if_neg (by omega)]
      have h1 : (p.length : Int) = 0 := by omega
      rw [this, spSemi_nil h0, Option.bind_some, spec_FoldingOfSemi.j0]
      simp [h1]
    · have h1 : ¬ (p.length : Int) = 0 := by omega
      rw [spSemi_ev hg (by omega) _ (by omega), isSemi_ev hg _ (by omega)]
      simp only [Option.bind_some, h1, if_false]
      cases hs : semi p with
      | false =>
        have : foldAns p = ([], false) := by unfold foldAns; simp [hs]
        rw [this, spec_FoldingOfSemi.j0]
        exact ⟨rfl, rfl⟩
      | true =>
        have : foldAns p = (folds p, true) := by unfold foldAns; rw [if_pos ⟨⟨hg, by omega⟩, hs⟩]
        obtain ⟨h, hp⟩ : ∃ h, p.length = 2 * h := ⟨p.length / 2, by have := good_even hg; omega⟩
        have e1 := (folds_ev hg hs (k + 1) (by omega)).1
        have e2 := (folds_ev hg hs k (by omega)).2 h hp
        rw [this, e1, spec_FoldingOfSemi.j0, if_neg (by simp), wrap_id (x := (p.length : Int) / 2) (by omega) (by omega), show (p.length : Int) / 2 = (h : Int) by omega, e2]
        exact ⟨rfl, rfl⟩
theorem ans_len (p : List Int) : (foldAns p).1.length ≤ 12 := by
  unfold foldAns
  split
  · rename_i h
    have := (good_len h.1.1).1
    show (folds p).length ≤ 12
    rw [folds_length]; omega
  · simp
theorem FnExactFoldingOfSemi : laws_FnExactFoldingOfSemi.Pure := by
  intro l _ _ _
  by_cases h : l.length ≤ 1048576
  · have hn1 := ans_len l
    obtain ⟨r, hr⟩ : ∃ r, r = foldAns l := ⟨_, rfl⟩
    rw [← hr] at hn1
    obtain ⟨r1, r3⟩ := r
    have hn1 : r1.length ≤ 12 := hn1
    have hs : ∀ k, l.length + 1000 ≤ k → spec_FoldingOfSemi.f k l = some (r1, r3) := fun k hk => by rw [(both_ev l h k hk).1, hr]
    have hi : ∀ k, l.length + 1000 ≤ k → impl_FoldingOfSemi.f k l = some (r1, r3) := fun k hk => by rw [(both_ev l h k hk).2, hr]
    have T1 := fun k hk => toIntS_ev l h k hk
    have E1 := fun k hk => eqIntS_ev l h k hk
    have E2 := fun k hk => eqIntS_ev r1 (by omega) k hk
    have M1 := fun k hk => markIntS_ev l 1 h (by omega) k hk
    have M2 := fun k hk => markIntS_ev r1 1 (by omega) (by omega) k hk
    have H2 := fun k hk => heldIntS_ev r1.length 1 (by omega) (by omega) k hk
    simp only [Int.natCast_one] at M1 M2 H2
    obtain ⟨n, hn0⟩ : ∃ n, n = l.length + 2000 := ⟨_, rfl⟩
    have N1 : ¬ ((1 + l.length : Nat) : Int) < 0 := by omega
    have N2 : ¬ ((1 + r1.length : Nat) : Int) < 0 := by omega
    refine ⟨n + 4, ?_⟩
    unfold laws_FnExactFoldingOfSemi.f
    rw [if_neg (by omega)]
    simp (disch := omega) only [T1, hs, hi, E2, Option.bind_some, if_true, bne_self_eq_false]
    rw [laws_FnExactFoldingOfSemi.j0]
    simp (disch := omega) only [T1, E1, M1, N1, E2, Option.bind_some, if_true, if_false, bne_self_eq_false, Bool.false_eq_true]
    rw [laws_FnExactFoldingOfSemi.j1]
    simp (disch := omega) only [T1, hi, M2, H2, N2, E2, Option.bind_some, if_true, if_false, bne_self_eq_false, Bool.false_eq_true]
    rw [laws_FnExactFoldingOfSemi.j2]
    simp (disch := omega) only [H2, N2, Option.bind_some, if_true, if_false, Bool.false_eq_true]
  · refine ⟨1, ?_⟩
    unfold laws_FnExactFoldingOfSemi.f
    rw [if_pos (by omega)]

end Go.Proofs.Ytnhegojnbdcpdaa.Pure
