/- The law FnExactPositionsOf, as plain lists tell it: at every slice of whole numbers the program's PositionsOf answers what the reference's does, and what it answers is of its own. No condition but the law's own guard. -/
import Derived.Test.YtbijopabcnmjiaaPClosed
import Derived.Test.YtbijopabcnmjiaaPLaws
import Derived.Test.YtbijopabcnmjiaaY8
import Derived.Test.YtbijopabcnmjiaaY9
set_option linter.unusedVariables false
set_option linter.unusedSimpArgs false
namespace Go.Proofs.Ytbijopabcnmjiaa.Pure
open Go.RowKit Go.Proofs.Ytbijopabcnmjiaa.Y Go.Proofs.YtbijopabcnmjiaaW.PrintWords Go.Proofs.YtbijopabcnmjiaaW.PrintLast Go.Proofs.YtbijopabcnmjiaaW.PrintMore

def evens (x : List Int) : List Int := x.map fun v => Int.tmod v 2
theorem pos_l0 (l : List Int) (hl : l.length ≤ 12) (hw : wordB l = true) (d : Nat) : ∀ (i : Nat) (x : List Int), i + d = l.length → x.length = l.length →
    ∃ r, r.length = l.length ∧ ∀ k, d < k → spec_PositionsOf.l0 k (evens x) l (l.length : Int) (i : Int) = some (evens r, true) ∧ impl_inverse.l0 k x l (l.length : Int) (i : Int) = some r := by
  induction d with
  | zero =>
    intro i x hi hx
    refine ⟨x, hx, fun k hk => ?_⟩
    obtain ⟨k, rfl⟩ : ∃ m, k = m + 1 := ⟨k - 1, by omega⟩
    rw [spec_PositionsOf.l0, impl_inverse.l0, if_neg (by omega), if_neg (by omega)]
    exact ⟨rfl, rfl⟩
  | succ d ih =>
    intro i x hi hx
    have hr := wordB_in hw i (by omega)
    obtain ⟨r, h1, h2⟩ := ih (i + 1) (x.set (rd l (i : Int)).toNat (i : Int)) (by omega) (by simpa using hx)
    refine ⟨r, h1, fun k hk => ?_⟩
    obtain ⟨k, rfl⟩ : ∃ m, k = m + 1 := ⟨k - 1, by omega⟩
    have c1 : (i : Int) < (l.length : Int) := by omega
    have c2 : (0 : Int) ≤ (i : Int) := by omega
    have c3 : 0 ≤ rd l (i : Int) := hr.1
    have c4 : rd l (i : Int) < (x.length : Int) := by omega
    have c5 : rd l (i : Int) < ((evens x).length : Int) := by simp [evens]; omega
    have e : (evens x).set (rd l (i : Int)).toNat (Int.tmod (i : Int) 2) = evens (x.set (rd l (i : Int)).toNat (i : Int)) := by simp [evens, List.map_set]
    rw [spec_PositionsOf.l0, impl_inverse.l0]
    simp only [c1, c2, c3, c4, c5, if_true, e]
    rw [wrap_succ (by omega)]
    exact h2 k (by omega)
theorem even_l0 (r : List Int) (hl : r.length ≤ 12) (d : Nat) : ∀ (k i : Nat), i + d = r.length → d < k →
    impl_PositionsOf.l0 k ((evens r).take i) r (r.length : Int) (i : Int) = some (evens r, true) := by
  have hll : (evens r).length = r.length := by simp [evens]
  induction d with
  | zero =>
    intro k i hi hk
    obtain ⟨k, rfl⟩ : ∃ m, k = m + 1 := ⟨k - 1, by omega⟩
    rw [impl_PositionsOf.l0, if_neg (by omega), List.take_of_length_le (by omega)]
  | succ d ih =>
    intro k i hi hk
    obtain ⟨k, rfl⟩ : ∃ m, k = m + 1 := ⟨k - 1, by omega⟩
    have e : (evens r).take i ++ [Int.tmod (rd r (i : Int)) 2] = (evens r).take (i + 1) := by
      rw [List.take_add_one, rd_get (show i < r.length by omega)]
      simp [evens, show i < r.length by omega]
    rw [impl_PositionsOf.l0, if_pos (by omega), if_pos (by omega), if_pos (by omega), if_pos (by simp; omega), e, wrap_succ (by omega)]
    exact ih k (i + 1) (by omega) (by omega)
theorem both_ev (l : List Int) (h : l.length ≤ 1048576) : ∃ (r1 : List Int) (r3 : Bool), r1.length ≤ 24 ∧ ∀ k, l.length + 1000 ≤ k → spec_PositionsOf.f k l = some (r1, r3) ∧ impl_PositionsOf.f k l = some (r1, r3) := by
  cases hp : closedB l with
  | false =>
    refine ⟨[], false, by simp, fun k hk => ?_⟩
    unfold spec_PositionsOf.f impl_PositionsOf.f
    rw [peClosed_ev l h k (by omega), isMeanderWord_ev l k (by omega), hp]
    exact ⟨rfl, rfl⟩
  | true =>
    have hl := ptsB_len (closedB_pts hp)
    obtain ⟨r, h1, h2⟩ := pos_l0 l hl (ptsB_word (closedB_pts hp)) l.length 0 (List.replicate l.length 0) (by omega) (by simp)
    refine ⟨evens r, true, by simp [evens]; omega, fun k hk => ?_⟩
    obtain ⟨h3, h4⟩ := h2 k (by omega)
    have h5 := even_l0 r (by omega) r.length k 0 (by omega) (by omega)
    have ez : evens (List.replicate l.length 0) = List.replicate l.length 0 := by simp [evens]
    rw [Int.natCast_zero] at h3 h4 h5
    rw [ez] at h3
    rw [List.take_zero] at h5
    unfold spec_PositionsOf.f impl_PositionsOf.f impl_inverse.f
    rw [peClosed_ev l h k (by omega), isMeanderWord_ev l k (by omega), hp, Option.bind_some, Option.bind_some, if_pos rfl, if_pos rfl, if_pos (by omega), if_pos (by omega), if_pos (by omega), if_pos (by omega), Int.toNat_natCast, h3, h4, Option.bind_some, h5]
    exact ⟨rfl, rfl⟩

theorem FnExactPositionsOf : laws_FnExactPositionsOf.Pure := by
  intro l _ _ _
  by_cases h : l.length ≤ 1048576
  · obtain ⟨r1, r3, hn1, hr⟩ := both_ev l h
    have hs : ∀ k, l.length + 1000 ≤ k → spec_PositionsOf.f k l = some (r1, r3) := fun k hk => (hr k hk).1
    have hi : ∀ k, l.length + 1000 ≤ k → impl_PositionsOf.f k l = some (r1, r3) := fun k hk => (hr k hk).2
    have T1 := fun k hk => toIntS_ev l h k hk
    have E1 := fun k hk => eqIntS_ev l h k hk
    have E2 := fun k hk => eqIntS_ev r1 (by omega) k hk
    have M1 := fun k hk => markIntS_ev l 1 h (by omega) k hk
    have M2 := fun k hk => markIntS_ev r1 1 (by omega) (by omega) k hk
    have H2 := fun k hk => heldIntS_ev r1.length 1 (by omega) (by omega) k hk
    simp only [Int.natCast_one] at M1 M2 H2
    obtain ⟨n, hn0⟩ : ∃ n, n = l.length + 2000 := ⟨_, rfl⟩
    have N1 : ¬ ((1 + l.length : Nat) : Int) < 0 := by omega
    have N2 : ¬ ((1 + r1.length : Nat) : Int) < 0 := by omega
    refine ⟨n + 4, ?_⟩
    unfold laws_FnExactPositionsOf.f
    rw [if_neg (by omega)]
    simp (disch := omega) only [T1, hs, hi, E2, Option.bind_some, if_true, bne_self_eq_false]
    rw [laws_FnExactPositionsOf.j0]
    simp (disch := omega) only [T1, E1, M1, N1, E2, Option.bind_some, if_true, if_false, bne_self_eq_false, Bool.false_eq_true]
    rw [laws_FnExactPositionsOf.j1]
    simp (disch := omega) only [T1, hi, M2, H2, N2, E2, Option.bind_some, if_true, if_false, bne_self_eq_false, Bool.false_eq_true]
    rw [laws_FnExactPositionsOf.j2]
    simp (disch := omega) only [H2, N2, Option.bind_some, if_true, if_false, Bool.false_eq_true]
  · refine ⟨1, ?_⟩
    unfold laws_FnExactPositionsOf.f
    rw [if_pos (by omega)]

end Go.Proofs.Ytbijopabcnmjiaa.Pure
