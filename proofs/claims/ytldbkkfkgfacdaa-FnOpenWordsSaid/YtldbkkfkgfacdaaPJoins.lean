/- Joins of a word: two that do not cross; a word whose joins of one side do not cross tells an arch system; an arch system's arches join even with odd points. -/
import Derived.Test.YtldbkkfkgfacdaaPClosed
import Derived.Test.YtldbkkfkgfacdaaPSys
set_option linter.unusedVariables false
set_option linter.unusedSimpArgs false
namespace Go.Proofs.Ytldbkkfkgfacdaa.Pure
open Go.RowKit Go.Proofs.Ytldbkkfkgfacdaa.P Go.Proofs.YtldbkkfkgfacdaaW.PrintWords Go.Proofs.YtldbkkfkgfacdaaW.PrintLast Go.Proofs.YtldbkkfkgfacdaaW.PrintMore

/-- no join of one side crosses another -/
theorem innerF_none (l : List Int) (j : Nat) (d : Nat) : ∀ i, innerF l j d i = none → ∀ e, e < d → i + 2 * e < j → c4 l (i + 2 * e) j = false := by
  induction d with
  | zero => intro i _ e he; omega
  | succ d ih =>
    intro i h e he hj
    rw [innerF, if_pos (by omega)] at h
    by_cases c : c4 l i j = true
    · rw [if_pos c] at h; cases h
    · rw [if_neg c] at h
      cases e with
      | zero => simpa using c
      | succ e =>
        have := ih (i + 2) h e (by omega) (by omega)
        rw [show i + 2 + 2 * e = i + 2 * (e + 1) by omega] at this
        exact this
theorem outF_none (l : List Int) (e : Nat) : ∀ j, j + e = l.length → (outF l e j).1 = [] → ∀ i m, j ≤ m → i < m → (m - i) % 2 = 0 → m + 1 < l.length → c4 l i m = false := by
  induction e with
  | zero => intro j hj _ i m h1 h2 h3 h4; omega
  | succ e ih =>
    intro j hj h i m h1 h2 h3 h4
    rw [outF] at h
    by_cases c : j + 1 < l.length
    · rw [if_pos c] at h
      cases hi : innerF l j l.length (j % 2) with
      | some x => rw [hi] at h; cases h
      | none =>
        rw [hi] at h
        by_cases hm : m = j
        · subst hm
          have := innerF_none l m l.length (m % 2) hi (i / 2) (by omega) (by omega)
          rw [show m % 2 + 2 * (i / 2) = i by omega] at this
          exact this
        · exact ih (j + 1) (by omega) h i m (by omega) h2 h3 h4
    · omega
theorem crs_none {l : List Int} (h : (crs l).1 = []) (i m : Nat) (h2 : i < m) (h3 : (m - i) % 2 = 0) (h4 : m + 1 < l.length) : c4 l i m = false :=
  outF_none l l.length 0 (by omega) h i m (by omega) h2 h3 h4
theorem innerF_of (l : List Int) (j : Nat) (h : ∀ i, i < j → (j - i) % 2 = 0 → c4 l i j = false) (d : Nat) : ∀ i, (i ≤ j → (j - i) % 2 = 0) → innerF l j d i = none := by
  induction d with
  | zero => intro i _; rfl
  | succ d ih =>
    intro i hi
    rw [innerF]
    by_cases c : i < j
    · rw [if_pos c, h i c (hi (by omega)), if_neg (by simp)]
      exact ih (i + 2) (fun h => by have := hi (by omega); omega)
    · rw [if_neg c]
theorem outF_of (l : List Int) (h : ∀ i m, i < m → (m - i) % 2 = 0 → m + 1 < l.length → c4 l i m = false) (e : Nat) : ∀ j, (outF l e j).1 = [] := by
  induction e with
  | zero => intro j; rfl
  | succ e ih =>
    intro j
    rw [outF]
    by_cases c : j + 1 < l.length
    · rw [if_pos c, innerF_of l j (fun i h1 h2 => h i j h1 h2 c) l.length (j % 2) (fun _ => by omega)]
      exact ih (j + 1)
    · rw [if_neg c]
theorem crs_of {l : List Int} (h : ∀ i m, i < m → (m - i) % 2 = 0 → m + 1 < l.length → c4 l i m = false) : (crs l).1 = [] := outF_of l h _ _
end Go.Proofs.Ytldbkkfkgfacdaa.Pure
