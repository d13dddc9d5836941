/- Words: what a word is. -/
import Derived.Test.YtjgkcknopnollaaGreatPNum
set_option linter.unusedVariables false
set_option linter.unusedSimpArgs false
namespace Go.Proofs.YtjgkcknopnollaaGreat.Pure
open Go.RowKit Go.Proofs.YtjgkcknopnollaaGreat.D Go.Proofs.YtjgkcknopnollaaGreatW.PrintWords Go.Proofs.YtjgkcknopnollaaGreatW.PrintLast Go.Proofs.YtjgkcknopnollaaGreatW.PrintMore

/-- is a list a word -/
def inR (l : List Int) : Bool := l.all fun x => decide (0 ≤ x ∧ x ≤ (l.length : Int) - 1)
def wordB (l : List Int) : Bool := inR l && decide (l.Pairwise (· ≠ ·))
theorem ident (n : Nat) (f : Nat → Int) (h0 : ∀ i, i < n → 0 ≤ f i) (h1 : ∀ i, i < n → f i ≤ (n : Int) - 1) (hs : ∀ i j, i < j → j < n → f i < f j) : ∀ i, i < n → f i = (i : Int) := by
  have up : ∀ i, i < n → (i : Int) ≤ f i := by
    intro i
    induction i with
    | zero => intro h; simpa using h0 0 h
    | succ i ih => intro h; have := ih (by omega); have := hs i (i + 1) (by omega) h; omega
  have dn : ∀ d, d < n → f (n - 1 - d) ≤ (n : Int) - 1 - d := by
    intro d
    induction d with
    | zero => intro h; have := h1 (n - 1) (by omega); simpa using this
    | succ d ih => intro h; have := ih (by omega); have := hs (n - 1 - (d + 1)) (n - 1 - d) (by omega) (by omega); omega
  intro i hi
  have h2 := up i hi
  have h3 := dn (n - 1 - i) (by omega)
  rw [show n - 1 - (n - 1 - i) = i by omega] at h3
  omega
theorem getD_get (l : List Int) (i : Nat) (h : i < l.length) : l.getD i 0 = l[i] := by simp [List.getD_eq_getElem?_getD, h]
theorem wordB_in {l : List Int} (h : wordB l = true) (i : Nat) (hi : i < l.length) : 0 ≤ rd l (i : Int) ∧ rd l (i : Int) < (l.length : Int) := by
  unfold wordB inR at h
  simp only [Bool.and_eq_true, List.all_eq_true, decide_eq_true_eq] at h
  have := h.1 _ (List.getElem_mem hi)
  rw [rd_get hi]
  omega

end Go.Proofs.YtjgkcknopnollaaGreat.Pure
