/- The law FnExactExponentTable, as plain lists tell it: at every number of Go's int the program's ExponentTable answers what the reference's does, and what it answers is of its own. No condition. -/
import Derived.Test.YtiljhemobammdaaPTab
import Derived.Test.YtiljhemobammdaaPLawsSB
import Derived.Test.YtiljhemobammdaaHExponentTable
import Derived.Test.YtiljhemobammdaaY3
import Derived.Test.YtiljhemobammdaaY5
set_option linter.unusedVariables false
set_option linter.unusedSimpArgs false
namespace Go.Proofs.Ytiljhemobammdaa.Pure
open Go.RowKit Go.Proofs.Ytiljhemobammdaa.Y Go.Proofs.YtiljhemobammdaaW.PrintWords Go.Proofs.YtiljhemobammdaaW.PrintLast Go.Proofs.YtiljhemobammdaaW.PrintMore

def expsAns (n : Int) : List (List Int) × Bool := (spec_ExponentTable.f 3000 n).getD ([], false)
theorem exps_in : ∀ a : Fin 5, spec_ExponentTable.f 3000 (a.val : Int) = some (expsAns (a.val : Int)) ∧ impl_ExponentTable.f 3000 (a.val : Int) = some (expsAns (a.val : Int)) ∧ (expsAns (a.val : Int)).1.length ≤ 14 ∧ ((expsAns (a.val : Int)).1.all fun x => decide (x.length ≤ 14)) = true := by decide +kernel
theorem up {α : Type} {g : Nat → Option α} (hm : ∀ k, LeO (g k) (g (k + 1))) {r : α} {k : Nat} (h : g k = some r) : ∀ d, g (k + d) = some r
  | 0 => h
  | d + 1 => hm _ r (up hm h d)
theorem FnExactExponentTable : laws_FnExactExponentTable.Pure := by
  intro n _
  by_cases h : 0 ≤ n ∧ n ≤ 4
  · have h1 := exps_in ⟨n.toNat, by omega⟩
    have e1 : ((n.toNat : Nat) : Int) = n := by omega
    simp only [e1] at h1
    obtain ⟨hs, hi, hl, ha⟩ := h1
    have hr : ∀ x ∈ (expsAns n).1, x.length ≤ 1048576 := fun x hx => by have := of_decide_eq_true (List.all_eq_true.1 ha x hx); omega
    exact ⟨3000 + 3000000, ⟨(expsAns n).1, (expsAns n).2, _, _, up (g := fun k => spec_ExponentTable.f k n) (fun k => spec_ExponentTable.mono n k) hs 3000000, up (g := fun k => impl_ExponentTable.f k n) (fun k => impl_ExponentTable.mono n k) hi 3000000, eqIntSS_ev _ (by omega) hr _ (by omega),
      markIntSS_ev _ (by omega) hr _ (by omega), by omega, heldIntSS_ev _ (by omega) hr _ (by omega)⟩⟩
  · refine ⟨3000000, ⟨[], false, _, _, ?_, ?_, eqIntSS_ev _ (by simp) (by simp) _ (by omega), markIntSS_ev _ (by simp) (by simp) _ (by omega), by omega, heldIntSS_ev _ (by simp) (by simp) _ (by omega)⟩⟩
    · unfold spec_ExponentTable.f
      rw [asked_val, show tabB n 0 = false from decide_eq_false (by omega)]; rfl
    · unfold impl_ExponentTable.f
      rw [iIn_val, decide_eq_false (by omega)]; rfl

end Go.Proofs.Ytiljhemobammdaa.Pure
