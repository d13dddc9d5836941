/- The law FnExactJoinedSystem, as plain lists tell it: at every slice of whole numbers and every whole number the program's JoinedSystem answers what the reference's does, and what it answers is of its own. No condition but the law's own guard. -/
import Derived.Test.YtiljhemobammdaaPIsSysI
import Derived.Test.YtiljhemobammdaaO2
import Derived.Test.YtiljhemobammdaaO3
import Derived.Test.YtiljhemobammdaaO4
set_option linter.unusedVariables false
set_option linter.unusedSimpArgs false
namespace Go.Proofs.Ytiljhemobammdaa.Pure
open Go.RowKit Go.Proofs.Ytiljhemobammdaa.O Go.Proofs.YtiljhemobammdaaW.PrintWords Go.Proofs.YtiljhemobammdaaW.PrintLast Go.Proofs.YtiljhemobammdaaW.PrintMore

def joinedList (p : List Int) (i : Int) : List Int := (((p.set i.toNat (i + 1)).set (i + 1).toNat i).set (rd p i).toNat (rd p (i + 1))).set (rd p (i + 1)).toNat (rd p i)
def joinedAns (p : List Int) (i : Int) : List Int × Int × Bool :=
  if good p = true ∧ 0 ≤ i ∧ i ≤ (p.length : Int) - 2 then (if rd p i = i + 1 then (p, 1, true) else (joinedList p i, 0, true)) else ([], 0, false)
theorem joinedAns_len (p : List Int) (i : Int) : (joinedAns p i).1.length ≤ p.length := by
  unfold joinedAns joinedList
  split
  · split <;> simp
  · simp
theorem both_ev (p : List Int) (i : Int) (hl : p.length ≤ 1048576) (k : Nat) (hk : p.length + 500 ≤ k) : spec_JoinedSystem.f k p i = some (joinedAns p i) ∧ impl_JoinedSystem.f k p i = some (joinedAns p i) := by
  obtain ⟨k, rfl⟩ : ∃ m, k = m + 1 := ⟨k - 1, by omega⟩
  unfold spec_JoinedSystem.f impl_JoinedSystem.f
  rw [ahGood_ev p hl _ (by omega), isSystem_ev p _ (by omega)]
  simp only [Option.bind_some]
  cases hg : good p with
  | false =>
    have ha : joinedAns p i = ([], 0, false) := by unfold joinedAns; simp [hg]
    rw [ha]
    simp only [Bool.false_eq_true, if_false, spec_JoinedSystem.j0, impl_JoinedSystem.j0, if_true, and_self]
  | true =>
    simp only [if_true, sIn_val, iIn_val, Option.bind_some]
    have h12 : p.length ≤ 12 := by
      unfold good at hg
      simp only [Bool.and_eq_true, decide_eq_true_eq] at hg
      exact hg.2.1
    rw [wrap_id (by omega) (by omega)]
    obtain ⟨hok, _⟩ := (good_iff p h12).1 hg
    by_cases hi : 0 ≤ i ∧ i ≤ (p.length : Int) - 2
    · have ha : joinedAns p i = if rd p i = i + 1 then (p, 1, true) else (joinedList p i, 0, true) := by unfold joinedAns; rw [if_pos ⟨hg, hi⟩]
      rw [ha, decide_eq_true hi, spec_JoinedSystem.j0, impl_JoinedSystem.j0]
      simp only [Bool.not_true, Bool.false_eq_true, if_false]
      obtain ⟨a1, a2, a3, a4⟩ := hok i.toNat (by omega)
      obtain ⟨b1, b2, b3, b4⟩ := hok (i + 1).toNat (by omega)
      rw [show ((i.toNat : Nat) : Int) = i by omega] at a1 a2 a3 a4
      rw [show (((i + 1).toNat : Nat) : Int) = i + 1 by omega] at b1 b2 b3 b4
      have e1 : spec_l1Own.f p = some p := by
        unfold spec_l1Own.f
        rw [Option.bind_some, if_pos (by simp; omega)]; rfl
      have e2 : slices_Clone_int_int.f p = some p := by
        unfold slices_Clone_int_int.f
        rw [if_pos (by omega)]
      rw [e1, e2, wrap_id (x := i + 1) (by omega) (by omega)]
      simp only [Option.bind_some]
      have c1 : 0 ≤ i := hi.1
      have c2 : i < (p.length : Int) := by omega
      by_cases hq : rd p i = i + 1
      · simp only [c1, c2, hq, if_true, and_self]
      · have c3 : 0 ≤ i + 1 := by omega
        have c4 : i + 1 < (p.length : Int) := by omega
        have c5 : rd p i < (p.length : Int) := by omega
        have c6 : rd p (i + 1) < (p.length : Int) := by omega
        simp only [c1, c2, c3, c4, c5, c6, a1, b1, hq, if_true, if_false, joinedList, and_self]
    · have ha : joinedAns p i = ([], 0, false) := by unfold joinedAns; rw [if_neg (fun h => hi h.2)]
      rw [ha, decide_eq_false hi, spec_JoinedSystem.j0, impl_JoinedSystem.j0]
      exact ⟨rfl, rfl⟩

end Go.Proofs.Ytiljhemobammdaa.Pure
