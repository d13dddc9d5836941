/- The law FnFoldingsCounted, first part: the lists of all foldings, up to six stamps (by the kernel), and the loop over them. -/
import Derived.Test.YtjgkcknopnollaaGreatPFoldBits
import Derived.Test.YtjgkcknopnollaaGreatQA2
set_option linter.unusedVariables false
set_option linter.unusedSimpArgs false
namespace Go.Proofs.YtjgkcknopnollaaGreat.Pure
open Go.RowKit Go.Proofs.YtjgkcknopnollaaGreat.C Go.Proofs.YtjgkcknopnollaaGreatW.PrintWords Go.Proofs.YtjgkcknopnollaaGreatW.PrintLast Go.Proofs.YtjgkcknopnollaaGreatW.PrintMore

def ans (n : Int) : List (List Int) × Bool := (spec_AllFoldings.f 3000 n).getD ([], false)
def top6 (n : Int) : Int × Bool := (impl_CountOnTop.f 3000 n).getD (0, false)
def ascB : List (List Int) → Bool
  | p :: q :: t => (laws_yLess.f 100 p q == some true) && ascB (q :: t)
  | _ => true
theorem inside : ∀ a : Fin 6, spec_AllFoldings.f 3000 ((a.val : Int) + 1) = some (ans ((a.val : Int) + 1)) ∧ impl_AllFoldings.f 3000 ((a.val : Int) + 1) = some (ans ((a.val : Int) + 1)) ∧ (ans ((a.val : Int) + 1)).1.length ≤ 900 ∧ ((ans ((a.val : Int) + 1)).1.all fun x => decide (x.length ≤ 20)) = true := by decide +kernel
theorem counted : ∀ a : Fin 6, (ans ((a.val : Int) + 1)).2 = true ∧ impl_CountFoldings.f 3000 ((a.val : Int) + 1) = some (((ans ((a.val : Int) + 1)).1.length : Int), true) ∧ impl_CountOnTop.f 3000 ((a.val : Int) + 1) = some ((top6 ((a.val : Int) + 1)).1, true) ∧
    ((ans ((a.val : Int) + 1)).1.length : Int) = wrap64 (((a.val : Int) + 1) * (top6 ((a.val : Int) + 1)).1) ∧ (impl_AllSemis.f 3000 ((a.val : Int) + 1)).map (fun r => ((r.1.length : Int), r.2)) = some ((top6 ((a.val : Int) + 1)).1, true) := by decide +kernel
theorem folds : ∀ a : Fin 6, ((ans ((a.val : Int) + 1)).1.all fun p => stackB p && foldB p) = true := by decide +kernel
theorem ascend : ∀ a : Fin 6, ascB (ans ((a.val : Int) + 1)).1 = true := by decide +kernel
theorem upm {α : Type} {g : Nat → Option α} (hm : ∀ k, LeO (g k) (g (k + 1))) {r : α} {k : Nat} (h : g k = some r) : ∀ d, g (k + d) = some r
  | 0 => h
  | d + 1 => hm _ r (upm hm h d)
theorem ascB_at : ∀ (X : List (List Int)) (i : Nat) (h : i + 1 < X.length), ascB X = true → laws_yLess.f 100 (X[i]'(by omega)) X[i + 1] = some true
  | p :: q :: t, 0, _, e => by
    rw [ascB, Bool.and_eq_true] at e
    exact beq_iff_eq.1 e.1
  | p :: q :: t, i + 1, h, e => by
    rw [ascB, Bool.and_eq_true] at e
    exact ascB_at (q :: t) i (by simp only [List.length_cons] at h ⊢; omega) e.2
  | [p], i, h, _ => absurd h (by simp)
  | [], i, h, _ => absurd h (by simp)

end Go.Proofs.YtjgkcknopnollaaGreat.Pure
