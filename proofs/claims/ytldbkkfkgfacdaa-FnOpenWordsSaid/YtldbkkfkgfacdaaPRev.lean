/- slices.Reverse over whole numbers, as plain lists tell it. -/
import Derived.Test.YtldbkkfkgfacdaaPNum
import Derived.Test.YtldbkkfkgfacdaaQD0
set_option linter.unusedVariables false
set_option linter.unusedSimpArgs false
namespace Go.Proofs.Ytldbkkfkgfacdaa.Pure
open Go.RowKit Go.Proofs.Ytldbkkfkgfacdaa.P Go.Proofs.YtldbkkfkgfacdaaW.PrintWords Go.Proofs.YtldbkkfkgfacdaaW.PrintLast Go.Proofs.YtldbkkfkgfacdaaW.PrintMore

/-- both ends of a list exchanged so many times -/
def swapped (l : List Int) (i : Nat) : List Int := (l.drop (l.length - i)).reverse ++ ((l.drop i).take (l.length - 2 * i) ++ (l.take i).reverse)
theorem swapped_len (l : List Int) (i : Nat) (h : 2 * i ≤ l.length) : (swapped l i).length = l.length := by
  simp [swapped]; omega
theorem swapped_get (l : List Int) (i j : Nat) (h : 2 * i ≤ l.length) (hj : j < l.length) : (swapped l i)[j]? = if j < i ∨ l.length - i ≤ j then l[l.length - 1 - j]? else l[j]? := by
  unfold swapped
  by_cases h1 : j < i
  · rw [List.getElem?_append_left (by simp; omega), List.getElem?_reverse (by simp; omega), List.getElem?_drop, if_pos (.inl h1)]
    simp only [List.length_drop]
    congr 1; omega
  · rw [List.getElem?_append_right (by simp; omega)]
    simp only [List.length_reverse, List.length_drop]
    by_cases h2 : j < l.length - i
    · rw [List.getElem?_append_left (by simp; omega), List.getElem?_take_of_lt (by omega), List.getElem?_drop, if_neg (by omega)]
      congr 1; omega
    · rw [List.getElem?_append_right (by simp; omega), List.getElem?_reverse (by simp; omega), if_pos (.inr (by omega)), List.getElem?_take_of_lt (by simp; omega)]
      simp only [List.length_take, List.length_drop]
      congr 1; omega
theorem swapped_step (l : List Int) (i : Nat) (h : 2 * i + 1 < l.length) : ((swapped l i).set i (l.getD (l.length - 1 - i) 0)).set (l.length - 1 - i) (l.getD i 0) = swapped l (i + 1) := by
  apply List.ext_getElem?
  intro j
  by_cases hj : j < l.length
  · rw [swapped_get l (i + 1) j (by omega) hj, List.getElem?_set, List.getElem?_set]
    simp only [List.length_set, swapped_len l i (by omega)]
    by_cases h1 : l.length - 1 - i = j
    · rw [if_pos h1, if_pos (by omega), if_pos (.inr (by omega)), ← h1]
      rw [show l.length - 1 - (l.length - 1 - i) = i by omega]
      simp [List.getElem?_eq_getElem (show i < l.length by omega)]
    · rw [if_neg h1]
      by_cases h2 : i = j
      · subst h2
        rw [if_pos rfl, if_pos (by omega), if_pos (.inl (by omega))]
        simp [List.getElem?_eq_getElem (show l.length - 1 - i < l.length by omega)]
      · rw [if_neg h2, swapped_get l i j (by omega) hj]
        by_cases h3 : j < i ∨ l.length - i ≤ j
        · rw [if_pos h3, if_pos (by omega)]
        · rw [if_neg h3, if_neg (by omega)]
  · rw [List.getElem?_eq_none (by simp [swapped_len l i (by omega)]; omega), List.getElem?_eq_none (by rw [swapped_len l (i + 1) (by omega)]; omega)]
theorem swapped_done (l : List Int) : swapped l (l.length / 2) = l.reverse := by
  apply List.ext_getElem?
  intro j
  by_cases hj : j < l.length
  · rw [swapped_get l _ j (by omega) hj, List.getElem?_reverse hj]
    by_cases h : j < l.length / 2 ∨ l.length - l.length / 2 ≤ j
    · rw [if_pos h]
    · rw [if_neg h]; congr 1; omega
  · rw [List.getElem?_eq_none (by rw [swapped_len l _ (by omega)]; omega), List.getElem?_eq_none (by simp; omega)]
theorem swapped_zero (l : List Int) : swapped l 0 = l := by simp [swapped]
theorem rd_swapped (l : List Int) (i j : Nat) (h : 2 * i ≤ l.length) (h1 : i ≤ j) (h2 : j < l.length - i) : rd (swapped l i) (j : Int) = l.getD j 0 := by
  rw [rd_nat, List.getD_eq_getElem?_getD, List.getD_eq_getElem?_getD, swapped_get l i j h (by omega), if_neg (by omega)]
theorem rev_l0 (l : List Int) (h : l.length ≤ 1048576) (d : Nat) : ∀ (k i : Nat), i + d = l.length / 2 → d < k →
    slices_Reverse_int_int.l0 k (swapped l i) (i : Int) ((l.length : Int) - 1 - i) = some l.reverse := by
  induction d with
  | zero =>
    intro k i hi hk
    obtain ⟨k, rfl⟩ : ∃ m, k = m + 1 := ⟨k - 1, by omega⟩
    rw [slices_Reverse_int_int.l0, if_neg (by omega)]
    have : i = l.length / 2 := by omega
    rw [this, swapped_done]
  | succ d ih =>
    intro k i hi hk
    obtain ⟨k, rfl⟩ : ∃ m, k = m + 1 := ⟨k - 1, by omega⟩
    have e : ((l.length : Int) - 1 - i) = ((l.length - 1 - i : Nat) : Int) := by omega
    have hlen := swapped_len l i (by omega)
    rw [e, slices_Reverse_int_int.l0, if_pos (by omega), if_pos (by omega), if_pos (by omega), if_pos (by omega), if_pos (by omega), rd_swapped l i _ (by omega) (by omega) (by omega), rd_swapped l i i (by omega) (by omega) (by omega), Int.toNat_natCast, Int.toNat_natCast, swapped_step l i (by omega), wrap_succ (by omega), wrap_id (by omega) (by omega)]
    have := ih k (i + 1) (by omega) (by omega)
    rw [show ((l.length - 1 - i : Nat) : Int) - 1 = (l.length : Int) - 1 - ((i + 1 : Nat) : Int) by omega]
    exact this
theorem rev_ev (l : List Int) (h : l.length ≤ 1048576) (k : Nat) (hk : l.length < k) : slices_Reverse_int_int.f k l = some l.reverse := by
  unfold slices_Reverse_int_int.f
  have := rev_l0 l h (l.length / 2) k 0 (by omega) (by omega)
  rw [swapped_zero] at this
  rw [wrap_id (by omega) (by omega)]
  simpa using this

end Go.Proofs.Ytldbkkfkgfacdaa.Pure
