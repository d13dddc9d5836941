/- The law FnExactApplyTable, as plain lists tell it: at all rows and numbers the program's ApplyTable answers what the reference's does, and what it answers is of its own. No condition but the law's own guard. -/
import Derived.Test.YtoblagangofflaaPRowsArg
import Derived.Test.YtoblagangofflaaPLawsSM
import Derived.Test.YtoblagangofflaaHApplyTableW
import Derived.Test.YtoblagangofflaaT2
import Derived.Test.YtoblagangofflaaT3
set_option linter.unusedVariables false
set_option linter.unusedSimpArgs false
namespace Go.Proofs.Ytoblagangofflaa.Pure
open Go.RowKit Go.Proofs.Ytoblagangofflaa.T Go.Proofs.YtoblagangofflaaW.PrintWords Go.Proofs.YtoblagangofflaaW.PrintLast Go.Proofs.YtoblagangofflaaW.PrintMore

theorem iIn_val (a b c : Int) : impl_in.f a b c = some (decide (b ≤ a ∧ a ≤ c)) := by
  unfold impl_in.f
  by_cases h : b ≤ a <;> simp [h]
theorem ap1_val (x : Int) : impl_ApplyTable_1.f x = some (!decide (-1000 ≤ x ∧ x ≤ 1000)) := by
  unfold impl_ApplyTable_1.f; rw [iIn_val]; rfl
theorem index_l0 (l : List Int) (hl : l.length ≤ 1048576) (d : Nat) : ∀ (k i : Nat), i + d = l.length → d < k →
    ∃ r, slices_IndexFunc_int_int_at_impl_ApplyTable_1.l0 k l (l.length : Int) (i : Int) = some r ∧ (decide (r ≥ 0) = !(l.drop i).all fun x => decide (-1000 ≤ x ∧ x ≤ 1000)) := by
  induction d with
  | zero =>
    intro k i hi hk
    obtain ⟨k, rfl⟩ : ∃ m, k = m + 1 := ⟨k - 1, by omega⟩
    rw [slices_IndexFunc_int_int_at_impl_ApplyTable_1.l0, if_neg (by omega), List.drop_of_length_le (by omega)]
    exact ⟨-1, rfl, rfl⟩
  | succ d ih =>
    intro k i hi hk
    obtain ⟨k, rfl⟩ : ∃ m, k = m + 1 := ⟨k - 1, by omega⟩
    have h : i < l.length := by omega
    rw [slices_IndexFunc_int_int_at_impl_ApplyTable_1.l0, if_pos (by omega), if_pos (by omega), if_pos (by omega), wrap_succ (by omega), rd_get h, ap1_val, Option.bind_some, List.drop_eq_getElem_cons h, List.all_cons]
    obtain ⟨r, hr, e⟩ := ih k (i + 1) (by omega) (by omega)
    by_cases hx : -1000 ≤ l[i] ∧ l[i] ≤ 1000
    · exact ⟨r, by simpa [hx] using hr, by simp only [hx]; simpa using e⟩
    · exact ⟨i, by simp [hx], by simp [hx]⟩
theorem contains_ev (l : List Int) (hl : l.length ≤ 1048576) (k : Nat) (hk : l.length < k) : slices_ContainsFunc_int_int_at_impl_ApplyTable_1.f k l = some (!l.all fun x => decide (-1000 ≤ x ∧ x ≤ 1000)) := by
  obtain ⟨r, hr, e⟩ := index_l0 l hl l.length k 0 (by omega) hk
  unfold slices_ContainsFunc_int_int_at_impl_ApplyTable_1.f slices_IndexFunc_int_int_at_impl_ApplyTable_1.f
  rw [Int.natCast_zero] at hr
  rw [hr, Option.bind_some]
  simp only [List.drop_zero] at e
  rw [← e]
theorem loops_same : ∀ k, (∀ a b c d e, spec_ApplyTable.l0 k a b c d e = impl_ApplyTable.l0 k a b c d e) ∧ (∀ a b c d e f g h i, spec_ApplyTable.l1 k a b c d e f g h i = impl_ApplyTable.l1 k a b c d e f g h i)
  | 0 => ⟨fun _ _ _ _ _ => rfl, fun _ _ _ _ _ _ _ _ _ => rfl⟩
  | k + 1 => by
    obtain ⟨h1, h2⟩ := loops_same k
    constructor
    · intro a b c d e
      rw [spec_ApplyTable.l0, impl_ApplyTable.l0]
      simp only [h2]
    · intro a b c d e f g h i
      rw [spec_ApplyTable.l1, impl_ApplyTable.l1]
      simp only [h1, h2]
theorem inner (v out : List Int) (rows : List (List Int)) (n i : Int) (row : List Int) (hr : row.length ≤ 14) (hv : row.length ≤ v.length) (ho : out.length ≤ 14) (d : Nat) : ∀ (j : Nat) (acc : Int), j + d = row.length →
    ∃ s, ∀ k, spec_ApplyTable.l1 (k + d + 1) v out acc rows n i row (row.length : Int) (j : Int) = spec_ApplyTable.l0 k v (out ++ [s]) rows n (wrap64 (i + 1)) := by
  induction d with
  | zero =>
    intro j acc hj
    refine ⟨acc, fun k => ?_⟩
    rw [show k + 0 + 1 = k + 1 from rfl, spec_ApplyTable.l1, if_neg (by omega), if_pos (by omega)]
  | succ d ih =>
    intro j acc hj
    obtain ⟨s, hs⟩ := ih (j + 1) (wrap64 (acc + wrap64 (rd row (j : Int) * rd v (j : Int)))) (by omega)
    refine ⟨s, fun k => ?_⟩
    rw [show k + (d + 1) + 1 = (k + d + 1) + 1 from rfl, spec_ApplyTable.l1, if_pos (by omega), if_pos (by omega), if_pos (by omega), if_pos (by omega), wrap_succ (by omega)]
    exact hs k
theorem outer (v : List Int) (rows : List (List Int)) (hl : rows.length ≤ 14) (hr : ∀ x ∈ rows, x.length = rows.length) (hv : v.length = rows.length) (d : Nat) : ∀ (i : Nat) (out : List Int), i + d = rows.length → out.length = i →
    ∃ r : List Int, r.length = rows.length ∧ ∀ k, 20 * d + 1 ≤ k → spec_ApplyTable.l0 k v out rows (rows.length : Int) (i : Int) = some (r, true) := by
  induction d with
  | zero =>
    intro i out hi ho
    refine ⟨out, by omega, fun k hk => ?_⟩
    obtain ⟨k, rfl⟩ : ∃ m, k = m + 1 := ⟨k - 1, by omega⟩
    rw [spec_ApplyTable.l0, if_neg (by omega)]
  | succ d ih =>
    intro i out hi ho
    have h : i < rows.length := by omega
    have hrow := hr _ (List.getElem_mem h)
    obtain ⟨s, hs⟩ := inner v out rows (rows.length : Int) (i : Int) rows[i] (by omega) (by omega) (by omega) rows[i].length 0 0 (by omega)
    obtain ⟨r, h1, h2⟩ := ih (i + 1) (out ++ [s]) (by omega) (by simp [ho])
    refine ⟨r, h1, fun k hk => ?_⟩
    obtain ⟨k2, rfl⟩ : ∃ m, k = (m + rows[i].length + 1) + 1 := ⟨k - 2 - rows[i].length, by omega⟩
    rw [spec_ApplyTable.l0, if_pos (by omega), if_pos (by omega), if_pos (by omega), rdL1_at h]
    have := hs k2
    rw [Int.natCast_zero] at this
    rw [this, wrap_succ (by omega)]
    exact h2 k2 (by omega)
theorem both_ev (l : List (List Int)) (v : List Int) (hv : v.length ≤ 1048576) : ∃ (r : List Int) (b : Bool), r.length ≤ 14 ∧ ∀ k, v.length + 1000 ≤ k → spec_ApplyTable.f k l v = some (r, b) ∧ impl_ApplyTable.f k l v = some (r, b) := by
  have js : ∀ k, spec_ApplyTable.j0 (k + 1) l v true = some ([], false) := fun k => by rw [spec_ApplyTable.j0, if_pos rfl]
  have ji : ∀ k, impl_ApplyTable.j0 (k + 1) l v true = some ([], false) := fun k => by rw [impl_ApplyTable.j0, if_pos rfl]
  by_cases hr : rowsB l = true
  case neg =>
    refine ⟨[], false, by simp, fun k hk => ?_⟩
    obtain ⟨k, rfl⟩ : ∃ m, k = m + 1 := ⟨k - 1, by omega⟩
    unfold spec_ApplyTable.f impl_ApplyTable.f
    rw [taRows_ev l (k + 1) (by omega), areRows_ev, Option.bind_some, Option.bind_some, if_neg hr, if_neg hr, js, ji]
    exact ⟨rfl, rfl⟩
  by_cases hl : v.length = l.length
  case neg =>
    refine ⟨[], false, by simp, fun k hk => ?_⟩
    obtain ⟨k, rfl⟩ : ∃ m, k = m + 1 := ⟨k - 1, by omega⟩
    unfold spec_ApplyTable.f impl_ApplyTable.f
    rw [taRows_ev l (k + 1) (by omega), areRows_ev, Option.bind_some, Option.bind_some, if_pos hr, if_pos hr, if_neg (by omega), if_neg (by omega), js, ji]
    exact ⟨rfl, rfl⟩
  have h14 := rowsB_len hr
  cases ha : (v.all fun x => decide (-1000 ≤ x ∧ x ≤ 1000)) with
  | false =>
    refine ⟨[], false, by simp, fun k hk => ?_⟩
    obtain ⟨k, rfl⟩ : ∃ m, k = m + 1 := ⟨k - 1, by omega⟩
    unfold spec_ApplyTable.f impl_ApplyTable.f
    rw [taRows_ev l (k + 1) (by omega), areRows_ev, Option.bind_some, Option.bind_some, if_pos hr, if_pos hr, if_pos (by omega), if_pos (by omega), all_ev v _ _ hv (k + 1) (by omega), contains_ev v hv (k + 1) (by omega), ha]
    simp only [Option.bind_some, Bool.not_false, js, ji, and_self]
  | true =>
    obtain ⟨r, h1, h2⟩ := outer v l (by omega) (rowsB_row hr) hl l.length 0 [] (by omega) rfl
    refine ⟨r, true, by omega, fun k hk => ?_⟩
    obtain ⟨k, rfl⟩ : ∃ m, k = m + 1 := ⟨k - 1, by omega⟩
    have h3 := h2 k (by omega)
    rw [Int.natCast_zero] at h3
    unfold spec_ApplyTable.f impl_ApplyTable.f
    rw [taRows_ev l (k + 1) (by omega), areRows_ev, Option.bind_some, Option.bind_some, if_pos hr, if_pos hr, if_pos (by omega), if_pos (by omega), all_ev v _ _ hv (k + 1) (by omega), contains_ev v hv (k + 1) (by omega), ha]
    simp only [Option.bind_some, Bool.not_true]
    rw [spec_ApplyTable.j0, impl_ApplyTable.j0, if_neg (by simp), if_neg (by simp), ← (loops_same k).1, h3]
    exact ⟨rfl, rfl⟩
theorem FnExactApplyTable : laws_FnExactApplyTable.Pure := by
  intro l v hl hx hv _ _
  unfold maxLen at hl hx hv
  have hsz := szSS_ev l (by omega) (fun x h => by have := (hx x h).1; omega) 4194304 (by omega)
  by_cases h1 : (v.length : Int) > 1048576
  · exact ⟨4194304, .inl h1⟩
  by_cases h2 : l.length + sumLen l ≤ 1048576
  case neg =>
    refine ⟨4194304, .inr (.inl ⟨-1, ?_, by omega⟩)⟩
    rw [hsz, if_neg h2]
  rw [if_pos h2] at hsz
  have hr : ∀ x ∈ l, x.length ≤ 1048576 := fun x h => by have := sumLen_mem l x h; omega
  obtain ⟨r, b, hr14, hb⟩ := both_ev l v (by omega)
  obtain ⟨hs, hi⟩ := hb 4194304 (by omega)
  have hle := (marksS_le l hr 1).2
  have hmul : l.length * 1048576 ≤ 1048576 * 1048576 := Nat.mul_le_mul_right _ (by omega)
  have M1 := markIntS_ev v (marksS 1 l).2 (by omega) (by omega) 4194304 (by omega)
  have M2 := markIntS_ev r 1 (by omega) (by omega) 4194304 (by omega)
  have H2 := heldIntS_ev r.length 1 (by omega) (by omega) 4194304 (by omega)
  rw [Int.natCast_one] at M2 H2
  exact ⟨4194304, .inr (.inr ⟨r, b, _, _, _, _, _, _, _, hsz, by omega, hs, hi, toSS_ev l (by omega) hr _ (by omega), toIntS_ev v (by omega) _ (by omega), eqIntS_ev r (by omega) _ (by omega), eqIntSS_ev l (by omega) hr _ (by omega), eqIntS_ev v (by omega) _ (by omega), markIntSS_ev l (by omega) hr _ (by omega), M1, by omega, M2, by omega, H2⟩)⟩

end Go.Proofs.Ytoblagangofflaa.Pure
