/- The law FnExactRenumberFolding, as plain lists tell it: at every slice of whole numbers the program's RenumberFolding answers what the reference's does, and what it answers is of its own. No condition but the law's own guard. -/
import Derived.Test.YtihceogogkbmkaaPStack
import Derived.Test.YtihceogogkbmkaaPLaws
import Derived.Test.YtihceogogkbmkaaX2
import Derived.Test.YtihceogogkbmkaaX4
import Derived.Test.YtihceogogkbmkaaX5
set_option linter.unusedVariables false
set_option linter.unusedSimpArgs false
namespace Go.Proofs.Ytihceogogkbmkaa.Pure
open Go.RowKit Go.Proofs.Ytihceogogkbmkaa.X Go.Proofs.YtihceogogkbmkaaW.PrintWords Go.Proofs.YtihceogogkbmkaaW.PrintLast Go.Proofs.YtihceogogkbmkaaW.PrintMore

def lastLess (l : List Int) : List Int := l.map fun x => (l.length : Int) - 1 - x
theorem mir_l0 (l : List Int) (hl : l.length ≤ 8) (hw : wordB l = true) (d : Nat) : ∀ (k i : Nat), i + d = l.length → d < k →
    spec_RenumberFolding.l0 k l ((lastLess l).take i) l (l.length : Int) (i : Int) = some (lastLess l, true) ∧ impl_fromLast.l0 k l ((lastLess l).take i) l (l.length : Int) (i : Int) = some (lastLess l) := by
  have hll : (lastLess l).length = l.length := by simp [lastLess]
  induction d with
  | zero =>
    intro k i hi hk
    obtain ⟨k, rfl⟩ : ∃ m, k = m + 1 := ⟨k - 1, by omega⟩
    rw [spec_RenumberFolding.l0, impl_fromLast.l0, if_neg (by omega), if_neg (by omega), List.take_of_length_le (by omega)]
    exact ⟨rfl, rfl⟩
  | succ d ih =>
    intro k i hi hk
    obtain ⟨k, rfl⟩ : ∃ m, k = m + 1 := ⟨k - 1, by omega⟩
    have hr := wordB_in hw i (by omega)
    have c1 : (i : Int) < (l.length : Int) := by omega
    have c2 : (0 : Int) ≤ (i : Int) := by omega
    have c3 : ((lastLess l).take i).length < 17592186044416 := by simp; omega
    rw [spec_RenumberFolding.l0, impl_fromLast.l0]
    simp only [c1, c2, c3, if_true]
    have e : (lastLess l).take i ++ [wrap64 (wrap64 ((l.length : Int) - 1) - rd l (i : Int))] = (lastLess l).take (i + 1) := by
      rw [wrap_id (x := (l.length : Int) - 1) (by omega) (by omega), wrap_id (by omega) (by omega), List.take_add_one, rd_get (show i < l.length by omega)]
      simp [lastLess, show i < l.length by omega]
    rw [e, wrap_succ (by omega)]
    exact ih k (i + 1) (by omega) (by omega)
theorem both_ev (l : List Int) (h : l.length ≤ 1048576) : ∃ (r1 : List Int) (r3 : Bool), r1.length ≤ 24 ∧ ∀ k, l.length + 1000 ≤ k → spec_RenumberFolding.f k l = some (r1, r3) ∧ impl_RenumberFolding.f k l = some (r1, r3) := by
  cases hp : stackB l with
  | false =>
    refine ⟨[], false, by simp, fun k hk => ?_⟩
    unfold spec_RenumberFolding.f impl_RenumberFolding.f
    rw [spStack_ev l h k (by omega), isStack_ev l k (by omega), hp]
    exact ⟨rfl, rfl⟩
  | true =>
    have hl := (stackB_len hp).2
    refine ⟨lastLess l, true, by simp [lastLess]; omega, fun k hk => ?_⟩
    obtain ⟨h3, h4⟩ := mir_l0 l hl (stackB_word hp) l.length k 0 (by omega) (by omega)
    rw [Int.natCast_zero, List.take_zero] at h3 h4
    unfold spec_RenumberFolding.f impl_RenumberFolding.f impl_fromLast.f
    rw [spStack_ev l h k (by omega), isStack_ev l k (by omega), hp, Option.bind_some, Option.bind_some, if_pos rfl, if_pos rfl, h3, h4]
    exact ⟨rfl, rfl⟩

theorem FnExactRenumberFolding : laws_FnExactRenumberFolding.Pure := by
  intro l _ _ _
  by_cases h : l.length ≤ 1048576
  · obtain ⟨r1, r3, hn1, hr⟩ := both_ev l h
    have hs : ∀ k, l.length + 1000 ≤ k → spec_RenumberFolding.f k l = some (r1, r3) := fun k hk => (hr k hk).1
    have hi : ∀ k, l.length + 1000 ≤ k → impl_RenumberFolding.f k l = some (r1, r3) := fun k hk => (hr k hk).2
    have T1 := fun k hk => toIntS_ev l h k hk
    have E1 := fun k hk => eqIntS_ev l h k hk
    have E2 := fun k hk => eqIntS_ev r1 (by omega) k hk
    have M1 := fun k hk => markIntS_ev l 1 h (by omega) k hk
    have M2 := fun k hk => markIntS_ev r1 1 (by omega) (by omega) k hk
    have H2 := fun k hk => heldIntS_ev r1.length 1 (by omega) (by omega) k hk
    simp only [Int.natCast_one] at M1 M2 H2
    obtain ⟨n, hn0⟩ : ∃ n, n = l.length + 2000 := ⟨_, rfl⟩
    have N1 : ¬ ((1 + l.length : Nat) : Int) < 0 := by omega
    have N2 : ¬ ((1 + r1.length : Nat) : Int) < 0 := by omega
    refine ⟨n + 4, ?_⟩
    unfold laws_FnExactRenumberFolding.f
    rw [if_neg (by omega)]
    simp (disch := omega) only [T1, hs, hi, E2, Option.bind_some, if_true, bne_self_eq_false]
    rw [laws_FnExactRenumberFolding.j0]
    simp (disch := omega) only [T1, E1, M1, N1, E2, Option.bind_some, if_true, if_false, bne_self_eq_false, Bool.false_eq_true]
    rw [laws_FnExactRenumberFolding.j1]
    simp (disch := omega) only [T1, hi, M2, H2, N2, E2, Option.bind_some, if_true, if_false, bne_self_eq_false, Bool.false_eq_true]
    rw [laws_FnExactRenumberFolding.j2]
    simp (disch := omega) only [H2, N2, Option.bind_some, if_true, if_false, Bool.false_eq_true]
  · refine ⟨1, ?_⟩
    unfold laws_FnExactRenumberFolding.f
    rw [if_pos (by omega)]

end Go.Proofs.Ytihceogogkbmkaa.Pure
