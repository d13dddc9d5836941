/- Whether a table is asked for: the program's answer and the reference's, as one condition. -/
import Derived.Test.YtiljhemobammdaaY1
import Derived.Test.YtiljhemobammdaaY3
import Derived.Test.YtiljhemobammdaaY7
set_option linter.unusedVariables false
set_option linter.unusedSimpArgs false
namespace Go.Proofs.Ytiljhemobammdaa.Pure
open Go.RowKit Go.Proofs.Ytiljhemobammdaa.Y Go.Proofs.YtiljhemobammdaaW.PrintWords Go.Proofs.YtiljhemobammdaaW.PrintLast Go.Proofs.YtiljhemobammdaaW.PrintMore

def tabB (n x : Int) : Bool := decide ((0 ≤ n ∧ n ≤ 4) ∧ (-3 ≤ x ∧ x ≤ 3) ∧ (n < 4 ∨ -2 ≤ x ∧ x ≤ 2))
theorem sIn_val (a b c : Int) : spec_l1In.f a b c = some (decide (b ≤ a ∧ a ≤ c)) := by
  unfold spec_l1In.f
  by_cases h : b ≤ a <;> simp [h]
theorem iIn_val (a b c : Int) : impl_in.f a b c = some (decide (b ≤ a ∧ a ≤ c)) := by
  unfold impl_in.f
  by_cases h : b ≤ a <;> simp [h]
theorem asked_val (n x : Int) : spec_taAsked.f n x = some (tabB n x) := by
  unfold spec_taAsked.f tabB
  simp only [sIn_val, Option.bind_some]
  by_cases h1 : 0 ≤ n ∧ n ≤ 4
  · by_cases h2 : -3 ≤ x ∧ x ≤ 3
    · by_cases h3 : n < 4
      · rw [if_pos (by simpa using h1), if_pos (by simpa using h2), if_pos h3, decide_eq_true (by exact ⟨h1, h2, .inl h3⟩)]
      · rw [if_pos (by simpa using h1), if_pos (by simpa using h2), if_neg h3]
        congr 1
        rw [decide_eq_decide]
        omega
    · rw [if_pos (by simpa using h1), if_neg (by simpa using h2), decide_eq_false (by omega)]
  · rw [if_neg (by simpa using h1), decide_eq_false (by omega)]
theorem isTable_val (n x : Int) : impl_isTable.f n x = some (tabB n x) := by
  unfold impl_isTable.f tabB
  simp only [iIn_val, Option.bind_some]
  by_cases h1 : 0 ≤ n ∧ n ≤ 4
  · by_cases h2 : -3 ≤ x ∧ x ≤ 3
    · by_cases h3 : n < 4
      · rw [if_pos (by simpa using h1), if_pos (by simpa using h2), if_pos h3, decide_eq_true (by exact ⟨h1, h2, .inl h3⟩)]
      · rw [if_pos (by simpa using h1), if_pos (by simpa using h2), if_neg h3]
        congr 1
        rw [decide_eq_decide]
        omega
    · rw [if_pos (by simpa using h1), if_neg (by simpa using h2), decide_eq_false (by omega)]
  · rw [if_neg (by simpa using h1), decide_eq_false (by omega)]
/-- what lies inside, one by one -/
theorem tab_cases {P : Int → Int → Prop} (h3 : ∀ a : Fin 4, ∀ b : Fin 7, P (a.val : Int) ((b.val : Int) - 3)) (h4 : ∀ b : Fin 5, P 4 ((b.val : Int) - 2)) {n x : Int} (h : tabB n x = true) : P n x := by
  have h' := of_decide_eq_true h
  by_cases h1 : n < 4
  · have := h3 ⟨n.toNat, by omega⟩ ⟨(x + 3).toNat, by omega⟩
    have e1 : ((n.toNat : Nat) : Int) = n := by omega
    have e2 : (((x + 3).toNat : Nat) : Int) - 3 = x := by omega
    simp only [e1, e2] at this
    exact this
  · have := h4 ⟨(x + 2).toNat, by omega⟩
    have e2 : (((x + 2).toNat : Nat) : Int) - 2 = x := by omega
    simp only [e2] at this
    rw [show n = 4 by omega]; exact this

end Go.Proofs.Ytiljhemobammdaa.Pure
