/- The law FnExactAllFoldings, as plain lists tell it: at every number of Go's int the program's AllFoldings answers what the reference's does, and what it answers is of its own. No condition. -/
import Derived.Test.YtjgkcknopnollaaPLawsSB
import Derived.Test.YtjgkcknopnollaaHAllFoldings
import Derived.Test.YtjgkcknopnollaaF1
import Derived.Test.YtjgkcknopnollaaF3
import Derived.Test.YtjgkcknopnollaaF8
set_option linter.unusedVariables false
set_option linter.unusedSimpArgs false
namespace Go.Proofs.Ytjgkcknopnollaa.Pure
open Go.RowKit Go.Proofs.Ytjgkcknopnollaa.F Go.Proofs.YtjgkcknopnollaaW.PrintWords Go.Proofs.YtjgkcknopnollaaW.PrintLast Go.Proofs.YtjgkcknopnollaaW.PrintMore

theorem sIn_val (a b c : Int) : spec_l1In.f a b c = some (decide (b ≤ a ∧ a ≤ c)) := by
  unfold spec_l1In.f
  by_cases h : b ≤ a <;> simp [h]
theorem iIn_val (a b c : Int) : impl_in.f a b c = some (decide (b ≤ a ∧ a ≤ c)) := by
  unfold impl_in.f
  by_cases h : b ≤ a <;> simp [h]
def ans (n : Int) : List (List Int) × Bool := (spec_AllFoldings.f 3000 n).getD ([], false)
theorem inside : ∀ a : Fin 6, spec_AllFoldings.f 3000 ((a.val : Int) + 1) = some (ans ((a.val : Int) + 1)) ∧ impl_AllFoldings.f 3000 ((a.val : Int) + 1) = some (ans ((a.val : Int) + 1)) ∧ (ans ((a.val : Int) + 1)).1.length ≤ 2000 ∧ ((ans ((a.val : Int) + 1)).1.all fun x => decide (x.length ≤ 20)) = true := by decide +kernel
theorem up {α : Type} {g : Nat → Option α} (hm : ∀ k, LeO (g k) (g (k + 1))) {r : α} {k : Nat} (h : g k = some r) : ∀ d, g (k + d) = some r
  | 0 => h
  | d + 1 => hm _ r (up hm h d)
theorem FnExactAllFoldings : laws_FnExactAllFoldings.Pure := by
  intro n _
  by_cases h : 1 ≤ n ∧ n ≤ 6
  · have h1 := inside ⟨(n - 1).toNat, by omega⟩
    have e1 : (((n - 1).toNat : Nat) : Int) + 1 = n := by omega
    simp only [e1] at h1
    obtain ⟨hs, hi, hl, ha⟩ := h1
    have hr : ∀ x ∈ (ans n).1, x.length ≤ 1048576 := fun x hx => by have := of_decide_eq_true (List.all_eq_true.1 ha x hx); omega
    exact ⟨3000 + 3000000, ⟨(ans n).1, (ans n).2, _, _, up (g := fun k => spec_AllFoldings.f k n) (fun k => spec_AllFoldings.mono n k) hs 3000000, up (g := fun k => impl_AllFoldings.f k n) (fun k => impl_AllFoldings.mono n k) hi 3000000, eqIntSS_ev _ (by omega) hr _ (by omega),
      markIntSS_ev _ (by omega) hr _ (by omega), by omega, heldIntSS_ev _ (by omega) hr _ (by omega)⟩⟩
  · refine ⟨3000000, ⟨[], false, _, _, ?_, ?_, eqIntSS_ev _ (by simp) (by simp) _ (by omega), markIntSS_ev _ (by simp) (by simp) _ (by omega), by omega, heldIntSS_ev _ (by simp) (by simp) _ (by omega)⟩⟩
    · unfold spec_AllFoldings.f 
      rw [sIn_val, decide_eq_false h]; rfl
    · unfold impl_AllFoldings.f
      rw [iIn_val, decide_eq_false h]; rfl

end Go.Proofs.Ytjgkcknopnollaa.Pure
