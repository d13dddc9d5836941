/- The law FnExactJoinedSystem, as plain lists tell it: at every slice of whole numbers and every whole number the program's JoinedSystem answers what the reference's does, and what it answers is of its own. No condition but the law's own guard. -/
import Derived.Test.YtmidjgnnepeklaaPIsSys
import Derived.Test.YtmidjgnnepeklaaX5
import Derived.Test.YtmidjgnnepeklaaX6
import Derived.Test.YtmidjgnnepeklaaX7
set_option linter.unusedVariables false
set_option linter.unusedSimpArgs false
namespace Go.Proofs.Ytmidjgnnepeklaa.Pure
open Go.RowKit Go.Proofs.Ytmidjgnnepeklaa.X Go.Proofs.YtmidjgnnepeklaaW.PrintWords Go.Proofs.YtmidjgnnepeklaaW.PrintLast Go.Proofs.YtmidjgnnepeklaaW.PrintMore

def joinedList (p : List Int) (i : Int) : List Int := (((p.set i.toNat (i + 1)).set (i + 1).toNat i).set (rd p i).toNat (rd p (i + 1))).set (rd p (i + 1)).toNat (rd p i)
def joinedAns (p : List Int) (i : Int) : List Int × Int × Bool :=
  if good p = true ∧ 0 ≤ i ∧ i ≤ (p.length : Int) - 2 then (if rd p i = i + 1 then (p, 1, true) else (joinedList p i, 0, true)) else ([], 0, false)
theorem joinedAns_len (p : List Int) (i : Int) : (joinedAns p i).1.length ≤ p.length := by
  unfold joinedAns joinedList
  split
  · split <;> simp
  · simp
theorem both_ev (p : List Int) (i : Int) (hl : p.length ≤ 1048576) (k : Nat) (hk : p.length + 500 ≤ k) : spec_JoinedSystem.f k p i = some (joinedAns p i) ∧ impl_JoinedSystem.f k p i = some (joinedAns p i) := by
  obtain ⟨k, rfl⟩ : ∃ m, k = m + 1 := ⟨k - 1, by omega⟩
  unfold spec_JoinedSystem.f impl_JoinedSystem.f
  rw [ahGood_ev p hl _ (by omega), isSystem_ev p _ (by omega)]
  simp only [Option.bind_some]
  cases hg : good p with
  | false =>
    have ha : joinedAns p i = ([], 0, false) := by unfold joinedAns; simp [hg]
    rw [ha]
    simp only [Bool.false_eq_true, if_false, spec_JoinedSystem.j0, impl_JoinedSystem.j0, if_true, and_self]
  | true =>
    simp only [if_true, sIn_val, iIn_val, Option.bind_some]
    have h12 : p.length ≤ 12 := by
      unfold good at hg
      simp only [Bool.and_eq_true, decide_eq_true_eq] at hg
      exact hg.2.1
    rw [wrap_id (by omega) (by omega)]
    obtain ⟨hok, _⟩ := (good_iff p h12).1 hg
    by_cases hi : 0 ≤ i ∧ i ≤ (p.length : Int) - 2
    · have ha : joinedAns p i = if rd p i = i + 1 then (p, 1, true) else (joinedList p i, 0, true) := by unfold joinedAns; rw [if_pos ⟨hg, hi⟩]
      rw [ha, decide_eq_true hi, spec_JoinedSystem.j0, impl_JoinedSystem.j0]
      simp only [Bool.not_true, Bool.false_eq_true, if_false]
      obtain ⟨a1, a2, a3, a4⟩ := hok i.toNat (by omega)
      obtain ⟨b1, b2, b3, b4⟩ := hok (i + 1).toNat (by omega)
      rw [show ((i.toNat : Nat) : Int) = i by omega] at a1 a2 a3 a4
      rw [show (((i + 1).toNat : Nat) : Int) = i + 1 by omega] at b1 b2 b3 b4
      have e1 : spec_l1Own.f p = some p := by
        unfold spec_l1Own.f
        rw [Option.bind_some, if_pos (by simp; omega)]; rfl
      have e2 : slices_Clone_int_int.f p = some p := by
        unfold slices_Clone_int_int.f
        rw [if_pos (by omega)]
      rw [e1, e2, wrap_id (x := i + 1) (by omega) (by omega)]
      simp only [Option.bind_some]
      have c1 : 0 ≤ i := hi.1
      have c2 : i < (p.length : Int) := by omega
      by_cases hq : rd p i = i + 1
      · simp only [c1, c2, hq, if_true, and_self]
      · have c3 : 0 ≤ i + 1 := by omega
        have c4 : i + 1 < (p.length : Int) := by omega
        have c5 : rd p i < (p.length : Int) := by omega
        have c6 : rd p (i + 1) < (p.length : Int) := by omega
        simp only [c1, c2, c3, c4, c5, c6, a1, b1, hq, if_true, if_false, joinedList, and_self]
    · have ha : joinedAns p i = ([], 0, false) := by unfold joinedAns; rw [if_neg (fun h => hi h.2)]
      rw [ha, decide_eq_false hi, spec_JoinedSystem.j0, impl_JoinedSystem.j0]
      exact ⟨rfl, rfl⟩
theorem FnExactJoinedSystem : laws_FnExactJoinedSystem.Pure := by
  intro l i hm _ _ _
  by_cases h : l.length ≤ 1048576
  · have hn := joinedAns_len l i
    obtain ⟨r, hr⟩ : ∃ r, r = joinedAns l i := ⟨_, rfl⟩
    obtain ⟨r1, r2, r3⟩ := r
    have hs : ∀ k, l.length + 500 ≤ k → spec_JoinedSystem.f k l i = some (r1, r2, r3) := fun k hk => by rw [(both_ev l i h k hk).1, hr]
    have hi : ∀ k, l.length + 500 ≤ k → impl_JoinedSystem.f k l i = some (r1, r2, r3) := fun k hk => by rw [(both_ev l i h k hk).2, hr]
    rw [← hr] at hn
    simp only at hn
    have M1 := fun k hk => markIntS_ev l 1 h (by omega) k hk
    have M2 := fun k hk => markIntS_ev r1 1 (by omega) (by omega) k hk
    have H2 := fun k hk => heldIntS_ev r1.length 1 (by omega) (by omega) k hk
    have T1 := fun k hk => toIntS_ev l h k hk
    have E1 := fun k hk => eqIntS_ev l h k hk
    have E2 := fun k hk => eqIntS_ev r1 (by omega) k hk
    simp only [Int.natCast_one] at M1 M2 H2
    obtain ⟨n, hn0⟩ : ∃ n, n = l.length + 2000 := ⟨_, rfl⟩
    have N1 : ¬ ((1 + l.length : Nat) : Int) < 0 := by omega
    have N2 : ¬ ((1 + r1.length : Nat) : Int) < 0 := by omega
    refine ⟨n + 4, ?_⟩
    unfold laws_FnExactJoinedSystem.f
    rw [if_neg (by omega)]
    simp (disch := omega) only [T1, hs, hi, E2, Option.bind_some, if_true, bne_self_eq_false]
    rw [laws_FnExactJoinedSystem.j0]
    simp (disch := omega) only [T1, E1, M1, N1, E2, Option.bind_some, if_true, if_false, bne_self_eq_false, Bool.false_eq_true]
    rw [laws_FnExactJoinedSystem.j1]
    simp (disch := omega) only [T1, hi, M2, H2, N2, E2, Option.bind_some, if_true, if_false, bne_self_eq_false, Bool.false_eq_true]
    rw [laws_FnExactJoinedSystem.j2]
    simp (disch := omega) only [H2, N2, Option.bind_some, if_true, if_false, Bool.false_eq_true]
  · refine ⟨1, ?_⟩
    unfold laws_FnExactJoinedSystem.f
    rw [if_pos (by omega)]

end Go.Proofs.Ytmidjgnnepeklaa.Pure
