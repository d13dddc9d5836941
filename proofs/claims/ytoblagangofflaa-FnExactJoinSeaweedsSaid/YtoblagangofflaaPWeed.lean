/- Seaweeds: the program's test of parts and the reference's are one, as plain lists tell it. -/
import Derived.Test.YtoblagangofflaaPLaws
import Derived.Test.YtoblagangofflaaJ1
import Derived.Test.YtoblagangofflaaJ3
set_option linter.unusedVariables false
set_option linter.unusedSimpArgs false
namespace Go.Proofs.Ytoblagangofflaa.Pure
open Go.RowKit Go.Proofs.Ytoblagangofflaa.J Go.Proofs.YtoblagangofflaaW.PrintWords Go.Proofs.YtoblagangofflaaW.PrintLast Go.Proofs.YtoblagangofflaaW.PrintMore

/-- the sum, as Go's int has it -/
def sumw (l : List Int) : Int := l.foldl (fun s x => wrap64 (s + x)) 0
theorem foldl_take_succ {α : Type} (f : α → Int → α) (a : α) (l : List Int) (i : Nat) (h : i < l.length) : (l.take (i + 1)).foldl f a = f ((l.take i).foldl f a) l[i] := by
  rw [List.take_add_one, List.foldl_append]; simp [List.getElem?_eq_getElem h]
theorem swSum_l0 (l : List Int) (hl : l.length ≤ 1048576) (d : Nat) : ∀ (k i : Nat), i + d = l.length → d < k →
    spec_swSum.l0 k ((l.take i).foldl (fun s x => wrap64 (s + x)) 0) l (l.length : Int) (i : Int) = some (sumw l) := by
  induction d with
  | zero =>
    intro k i hi hk
    obtain ⟨k, rfl⟩ : ∃ m, k = m + 1 := ⟨k - 1, by omega⟩
    simp only [spec_swSum.l0]
    rw [if_neg (by omega)]
    simp [sumw, List.take_of_length_le (show l.length ≤ i by omega)]
  | succ d ih =>
    intro k i hi hk
    obtain ⟨k, rfl⟩ : ∃ m, k = m + 1 := ⟨k - 1, by omega⟩
    simp only [spec_swSum.l0]
    have h : i < l.length := by omega
    rw [if_pos (by omega), if_pos (by omega), if_pos (by omega), wrap_succ (by omega), rd_get h, ← foldl_take_succ (fun s x => wrap64 (s + x)) 0 l i h]
    exact ih k (i + 1) (by omega) (by omega)
theorem swSum_ev (l : List Int) (hl : l.length ≤ 1048576) (k : Nat) (hk : l.length < k) : spec_swSum.f k l = some (sumw l) := by
  unfold spec_swSum.f
  have := swSum_l0 l hl l.length k 0 (by omega) hk
  simpa using this
theorem sum_same (k : Nat) : ∀ s l n i, impl_sum.l0 k s l n i = spec_swSum.l0 k s l n i := by
  induction k with
  | zero => intros; rfl
  | succ k ih => intro s l n i; simp only [impl_sum.l0, spec_swSum.l0, ih]
theorem sum_ev (l : List Int) (hl : l.length ≤ 1048576) (k : Nat) (hk : l.length < k) : impl_sum.f k l = some (sumw l) := by
  unfold impl_sum.f; rw [sum_same]; exact swSum_ev l hl k hk

theorem l1In_val (a b c : Int) : spec_l1In.f a b c = some (decide (b ≤ a ∧ a ≤ c)) := by
  unfold spec_l1In.f
  by_cases h : b ≤ a <;> simp [h]
theorem in_val (a b c : Int) : impl_in.f a b c = some (decide (b ≤ a ∧ a ≤ c)) := by
  unfold impl_in.f
  by_cases h : b ≤ a <;> simp [h]

theorem l1All_l0 (l : List Int) (a b : Int) (hl : l.length ≤ 1048576) (d : Nat) : ∀ (k i : Nat), i + d = l.length → d < k →
    spec_l1All.l0 k a b l (l.length : Int) (i : Int) = some ((l.drop i).all fun x => decide (a ≤ x ∧ x ≤ b)) := by
  induction d with
  | zero =>
    intro k i hi hk
    obtain ⟨k, rfl⟩ : ∃ m, k = m + 1 := ⟨k - 1, by omega⟩
    simp only [spec_l1All.l0]
    rw [if_neg (by omega), List.drop_of_length_le (by omega)]
    rfl
  | succ d ih =>
    intro k i hi hk
    obtain ⟨k, rfl⟩ : ∃ m, k = m + 1 := ⟨k - 1, by omega⟩
    simp only [spec_l1All.l0]
    have h : i < l.length := by omega
    rw [if_pos (by omega), if_pos (by omega), if_pos (by omega), wrap_succ (by omega), rd_get h, l1In_val, Option.bind_some, ih k (i + 1) (by omega) (by omega), List.drop_eq_getElem_cons h, List.all_cons]
    by_cases hx : a ≤ l[i] ∧ l[i] ≤ b <;> simp [hx]
theorem l1All_ev (l : List Int) (a b : Int) (hl : l.length ≤ 1048576) (k : Nat) (hk : l.length < k) : spec_l1All.f k l a b = some (l.all fun x => decide (a ≤ x ∧ x ≤ b)) := by
  unfold spec_l1All.f
  have := l1All_l0 l a b hl l.length k 0 (by omega) hk
  simpa using this

theorem areParts_1_val (x : Int) : impl_areParts_1.f x = some (!decide (1 ≤ x ∧ x ≤ 20)) := by
  unfold impl_areParts_1.f; rw [in_val]; rfl
theorem indexParts_l0 (l : List Int) (hl : l.length ≤ 1048576) (d : Nat) : ∀ (k i : Nat), i + d = l.length → d < k →
    ∃ r, slices_IndexFunc_int_int_at_impl_areParts_1.l0 k l (l.length : Int) (i : Int) = some r ∧ (decide (r ≥ 0) = !(l.drop i).all fun x => decide (1 ≤ x ∧ x ≤ 20)) := by
  induction d with
  | zero =>
    intro k i hi hk
    obtain ⟨k, rfl⟩ : ∃ m, k = m + 1 := ⟨k - 1, by omega⟩
    simp only [slices_IndexFunc_int_int_at_impl_areParts_1.l0]
    rw [if_neg (by omega), List.drop_of_length_le (by omega)]
    exact ⟨-1, rfl, rfl⟩
  | succ d ih =>
    intro k i hi hk
    obtain ⟨k, rfl⟩ : ∃ m, k = m + 1 := ⟨k - 1, by omega⟩
    simp only [slices_IndexFunc_int_int_at_impl_areParts_1.l0]
    have h : i < l.length := by omega
    rw [if_pos (by omega), if_pos (by omega), if_pos (by omega), wrap_succ (by omega), rd_get h, areParts_1_val, Option.bind_some, List.drop_eq_getElem_cons h, List.all_cons]
    obtain ⟨r, hr, e⟩ := ih k (i + 1) (by omega) (by omega)
    by_cases hx : 1 ≤ l[i] ∧ l[i] ≤ 20
    · exact ⟨r, by simpa [hx] using hr, by simp only [hx]; simpa using e⟩
    · exact ⟨i, by simp [hx], by simp [hx]⟩
theorem contains_ev (l : List Int) (hl : l.length ≤ 1048576) (k : Nat) (hk : l.length < k) : slices_ContainsFunc_int_int_at_impl_areParts_1.f k l = some (!l.all fun x => decide (1 ≤ x ∧ x ≤ 20)) := by
  obtain ⟨r, hr, e⟩ := indexParts_l0 l hl l.length k 0 (by omega) hk
  unfold slices_ContainsFunc_int_int_at_impl_areParts_1.f slices_IndexFunc_int_int_at_impl_areParts_1.f
  rw [show (0 : Int) = ((0 : Nat) : Int) from rfl] at *
  rw [hr, Option.bind_some]
  simp only [List.drop_zero] at e
  rw [← e]

/-- are these parts -/
def parts (l : List Int) : Bool := decide (l.length ≤ 20) && (l.all fun x => decide (1 ≤ x ∧ x ≤ 20)) && decide (sumw l ≤ 20)
theorem swParts_ev (l : List Int) (hl : l.length ≤ 1048576) (k : Nat) (hk : l.length < k) : spec_swParts.f k l = some (parts l) := by
  unfold spec_swParts.f parts
  rw [l1All_ev l 1 20 hl k hk, swSum_ev l hl k hk]
  by_cases h : l.length ≤ 20
  · rw [if_neg (by omega)]
    cases (l.all fun x => decide (1 ≤ x ∧ x ≤ 20)) <;> simp [h]
  · rw [if_pos (by omega)]; simp [h]
theorem areParts_ev (l : List Int) (hl : l.length ≤ 1048576) (k : Nat) (hk : l.length < k) : impl_areParts.f k l = some (parts l) := by
  unfold impl_areParts.f parts
  rw [contains_ev l hl k hk, sum_ev l hl k hk]
  by_cases h : l.length ≤ 20
  · rw [if_pos (by omega)]
    cases (l.all fun x => decide (1 ≤ x ∧ x ≤ 20)) <;> simp [h]
  · rw [if_neg (by omega)]; simp [h]
theorem parts_len {l : List Int} (h : parts l = true) : l.length ≤ 20 := by simp [parts] at h; exact h.1.1
theorem parts_in {l : List Int} (h : parts l = true) : ∀ x ∈ l, 1 ≤ x ∧ x ≤ 20 := by simp [parts] at h; exact h.1.2

end Go.Proofs.Ytoblagangofflaa.Pure
