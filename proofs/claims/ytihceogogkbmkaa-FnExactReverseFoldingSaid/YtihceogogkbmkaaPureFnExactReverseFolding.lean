/- The law FnExactReverseFolding, as plain lists tell it: at every slice of whole numbers the program's ReverseFolding answers what the reference's does, and what it answers is of its own. No condition but the law's own guard. -/
import Derived.Test.YtihceogogkbmkaaPStack
import Derived.Test.YtihceogogkbmkaaPLaws
import Derived.Test.YtihceogogkbmkaaPRev
import Derived.Test.YtihceogogkbmkaaX2
import Derived.Test.YtihceogogkbmkaaX5
import Derived.Test.YtihceogogkbmkaaX6
import Derived.Test.YtihceogogkbmkaaX7
set_option linter.unusedVariables false
set_option linter.unusedSimpArgs false
namespace Go.Proofs.Ytihceogogkbmkaa.Pure
open Go.RowKit Go.Proofs.Ytihceogogkbmkaa.X Go.Proofs.YtihceogogkbmkaaW.PrintWords Go.Proofs.YtihceogogkbmkaaW.PrintLast Go.Proofs.YtihceogogkbmkaaW.PrintMore

theorem back_l0 (l : List Int) (hl : l.length ≤ 8) (d : Nat) : ∀ (k : Nat), d ≤ l.length → d < k →
    spec_ReverseFolding.l0 k l (l.drop d).reverse ((d : Int) - 1) = some (l.reverse, true) := by
  induction d with
  | zero =>
    intro k hd hk
    obtain ⟨k, rfl⟩ : ∃ m, k = m + 1 := ⟨k - 1, by omega⟩
    rw [spec_ReverseFolding.l0, if_neg (by omega)]; rfl
  | succ d ih =>
    intro k hd hk
    obtain ⟨k, rfl⟩ : ∃ m, k = m + 1 := ⟨k - 1, by omega⟩
    have hlt : d < l.length := by omega
    rw [show ((d + 1 : Nat) : Int) - 1 = (d : Int) by omega, spec_ReverseFolding.l0, if_pos (by omega), if_pos (by omega), if_pos (by omega), if_pos (by simp; omega), rd_get hlt, wrap_id (by omega) (by omega)]
    have := ih k (by omega) (by omega)
    rw [List.drop_eq_getElem_cons hlt, List.reverse_cons] at this
    exact this
theorem both_ev (l : List Int) (h : l.length ≤ 1048576) : ∃ (r1 : List Int) (r3 : Bool), r1.length ≤ 24 ∧ ∀ k, l.length + 1000 ≤ k → spec_ReverseFolding.f k l = some (r1, r3) ∧ impl_ReverseFolding.f k l = some (r1, r3) := by
  cases hp : stackB l with
  | false =>
    refine ⟨[], false, by simp, fun k hk => ?_⟩
    unfold spec_ReverseFolding.f impl_ReverseFolding.f
    rw [spStack_ev l h k (by omega), isStack_ev l k (by omega), hp]
    exact ⟨rfl, rfl⟩
  | true =>
    have hl := (stackB_len hp).2
    refine ⟨l.reverse, true, by simp; omega, fun k hk => ?_⟩
    unfold spec_ReverseFolding.f impl_ReverseFolding.f slices_Clone_int_int.f
    have hb := back_l0 l hl l.length k (Nat.le_refl _) (by omega)
    rw [List.drop_length, List.reverse_nil] at hb
    rw [spStack_ev l h k (by omega), isStack_ev l k (by omega), hp, Option.bind_some, Option.bind_some, if_pos rfl, if_pos rfl, wrap_id (by omega) (by omega), hb, if_pos (by omega), Option.bind_some, rev_ev l h k (by omega)]
    exact ⟨rfl, rfl⟩

theorem FnExactReverseFolding : laws_FnExactReverseFolding.Pure := by
  intro l _ _ _
  by_cases h : l.length ≤ 1048576
  · obtain ⟨r1, r3, hn1, hr⟩ := both_ev l h
    have hs : ∀ k, l.length + 1000 ≤ k → spec_ReverseFolding.f k l = some (r1, r3) := fun k hk => (hr k hk).1
    have hi : ∀ k, l.length + 1000 ≤ k → impl_ReverseFolding.f k l = some (r1, r3) := fun k hk => (hr k hk).2
    have T1 := fun k hk => toIntS_ev l h k hk
    have E1 := fun k hk => eqIntS_ev l h k hk
    have E2 := fun k hk => eqIntS_ev r1 (by omega) k hk
    have M1 := fun k hk => markIntS_ev l 1 h (by omega) k hk
    have M2 := fun k hk => markIntS_ev r1 1 (by omega) (by omega) k hk
    have H2 := fun k hk => heldIntS_ev r1.length 1 (by omega) (by omega) k hk
    simp only [Int.natCast_one] at M1 M2 H2
    obtain ⟨n, hn0⟩ : ∃ n, n = l.length + 2000 := ⟨_, rfl⟩
    have N1 : ¬ ((1 + l.length : Nat) : Int) < 0 := by omega
    have N2 : ¬ ((1 + r1.length : Nat) : Int) < 0 := by omega
    refine ⟨n + 4, ?_⟩
    unfold laws_FnExactReverseFolding.f
    rw [if_neg (by omega)]
    simp (disch := omega) only [T1, hs, hi, E2, Option.bind_some, if_true, bne_self_eq_false]
    rw [laws_FnExactReverseFolding.j0]
    simp (disch := omega) only [T1, E1, M1, N1, E2, Option.bind_some, if_true, if_false, bne_self_eq_false, Bool.false_eq_true]
    rw [laws_FnExactReverseFolding.j1]
    simp (disch := omega) only [T1, hi, M2, H2, N2, E2, Option.bind_some, if_true, if_false, bne_self_eq_false, Bool.false_eq_true]
    rw [laws_FnExactReverseFolding.j2]
    simp (disch := omega) only [H2, N2, Option.bind_some, if_true, if_false, Bool.false_eq_true]
  · refine ⟨1, ?_⟩
    unfold laws_FnExactReverseFolding.f
    rw [if_pos (by omega)]

end Go.Proofs.Ytihceogogkbmkaa.Pure
