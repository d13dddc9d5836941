/- ApplyTable: both sides answer alike; at the numbers turned round the sums are turned round. -/
import Derived.Test.YtbphdjnainlbhaaPRk
import Derived.Test.YtbphdjnainlbhaaQA2
set_option linter.unusedVariables false
set_option linter.unusedSimpArgs false
namespace Go.Proofs.Ytbphdjnainlbhaa.Pure
open Go.RowKit Go.Proofs.Ytbphdjnainlbhaa.R Go.Proofs.YtbphdjnainlbhaaW.PrintWords Go.Proofs.YtbphdjnainlbhaaW.PrintLast Go.Proofs.YtbphdjnainlbhaaW.PrintMore

theorem iIn_val (a b c : Int) : impl_in.f a b c = some (decide (b ≤ a ∧ a ≤ c)) := by
  unfold impl_in.f
  by_cases h : b ≤ a <;> simp [h]
theorem ap1_val (x : Int) : impl_ApplyTable_1.f x = some (!decide (-1000 ≤ x ∧ x ≤ 1000)) := by
  unfold impl_ApplyTable_1.f; rw [iIn_val]; rfl
theorem index_l0 (l : List Int) (hl : l.length ≤ 1048576) (d : Nat) : ∀ (k i : Nat), i + d = l.length → d < k →
    ∃ r, slices_IndexFunc_int_int_at_impl_ApplyTable_1.l0 k l (l.length : Int) (i : Int) = some r ∧ (decide (r ≥ 0) = !(l.drop i).all fun x => decide (-1000 ≤ x ∧ x ≤ 1000)) := by
  induction d with
  | zero =>
    intro k i hi hk
    obtain ⟨k, rfl⟩ : ∃ m, k = m + 1 := ⟨k - 1, by omega⟩
    rw [slices_IndexFunc_int_int_at_impl_ApplyTable_1.l0, if_neg (by omega), List.drop_of_length_le (by omega)]
    exact ⟨-1, rfl, rfl⟩
  | succ d ih =>
    intro k i hi hk
    obtain ⟨k, rfl⟩ : ∃ m, k = m + 1 := ⟨k - 1, by omega⟩
    have h : i < l.length := by omega
    rw [slices_IndexFunc_int_int_at_impl_ApplyTable_1.l0, if_pos (by omega), if_pos (by omega), if_pos (by omega), wrap_succ (by omega), rd_get h, ap1_val, Option.bind_some, List.drop_eq_getElem_cons h, List.all_cons]
    obtain ⟨r, hr, e⟩ := ih k (i + 1) (by omega) (by omega)
    by_cases hx : -1000 ≤ l[i] ∧ l[i] ≤ 1000
    · exact ⟨r, by simpa [hx] using hr, by simp only [hx]; simpa using e⟩
    · exact ⟨i, by simp [hx], by simp [hx]⟩
theorem contains_ev (l : List Int) (hl : l.length ≤ 1048576) (k : Nat) (hk : l.length < k) : slices_ContainsFunc_int_int_at_impl_ApplyTable_1.f k l = some (!l.all fun x => decide (-1000 ≤ x ∧ x ≤ 1000)) := by
  obtain ⟨r, hr, e⟩ := index_l0 l hl l.length k 0 (by omega) hk
  unfold slices_ContainsFunc_int_int_at_impl_ApplyTable_1.f slices_IndexFunc_int_int_at_impl_ApplyTable_1.f
  rw [Int.natCast_zero] at hr
  rw [hr, Option.bind_some]
  simp only [List.drop_zero] at e
  rw [← e]
theorem loops_same : ∀ k, (∀ a b c d e, spec_ApplyTable.l0 k a b c d e = impl_ApplyTable.l0 k a b c d e) ∧ (∀ a b c d e f g h i, spec_ApplyTable.l1 k a b c d e f g h i = impl_ApplyTable.l1 k a b c d e f g h i)
  | 0 => ⟨fun _ _ _ _ _ => rfl, fun _ _ _ _ _ _ _ _ _ => rfl⟩
  | k + 1 => by
    obtain ⟨h1, h2⟩ := loops_same k
    constructor
    · intro a b c d e
      rw [spec_ApplyTable.l0, impl_ApplyTable.l0]
      simp only [h2]
    · intro a b c d e f g h i
      rw [spec_ApplyTable.l1, impl_ApplyTable.l1]
      simp only [h1, h2]
theorem mul_1e5 {a b : Int} (ha : -100 ≤ a ∧ a ≤ 100) (hb : -1000 ≤ b ∧ b ≤ 1000) : -100000 ≤ a * b ∧ a * b ≤ 100000 := by
  have h := Nat.mul_le_mul (show a.natAbs ≤ 100 by omega) (show b.natAbs ≤ 1000 by omega)
  rw [← Int.natAbs_mul] at h
  omega
theorem rd_map_neg (v : List Int) (j : Nat) : rd (v.map fun y => -y) (j : Int) = -(rd v (j : Int)) := by
  rw [rd_nat, rd_nat, List.getD_eq_getElem?_getD, List.getElem?_map, List.getD_eq_getElem?_getD]
  cases v[j]? with
  | none => rfl
  | some x => rfl
theorem inner_neg (v out out2 : List Int) (rows : List (List Int)) (n i : Int) (row : List Int) (hr : row.length ≤ 14) (hv : row.length ≤ v.length) (ho : out.length ≤ 14) (ho2 : out2.length ≤ 14) (hx : ∀ j : Nat, j < row.length → -100 ≤ rd row (j : Int) ∧ rd row (j : Int) ≤ 100) (hy : ∀ j : Nat, j < row.length → -1000 ≤ rd v (j : Int) ∧ rd v (j : Int) ≤ 1000) (d : Nat) : ∀ (j : Nat) (acc : Int), j + d = row.length → -(100000 * (j : Int)) ≤ acc ∧ acc ≤ 100000 * (j : Int) →
    ∃ s, (-1400000 ≤ s ∧ s ≤ 1400000) ∧ ∀ k, spec_ApplyTable.l1 (k + d + 1) v out acc rows n i row (row.length : Int) (j : Int) = spec_ApplyTable.l0 k v (out ++ [s]) rows n (wrap64 (i + 1)) ∧ spec_ApplyTable.l1 (k + d + 1) (v.map fun y => -y) out2 (-acc) rows n i row (row.length : Int) (j : Int) = spec_ApplyTable.l0 k (v.map fun y => -y) (out2 ++ [-s]) rows n (wrap64 (i + 1)) := by
  induction d with
  | zero =>
    intro j acc hj ha
    refine ⟨acc, by omega, fun k => ⟨?_, ?_⟩⟩
    · rw [show k + 0 + 1 = k + 1 from rfl, spec_ApplyTable.l1, if_neg (by omega), if_pos (by omega)]
    · rw [show k + 0 + 1 = k + 1 from rfl, spec_ApplyTable.l1, if_neg (by omega), if_pos (by omega)]
  | succ d ih =>
    intro j acc hj ha
    have hm := mul_1e5 (hx j (by omega)) (hy j (by omega))
    have w1 : wrap64 (rd row (j : Int) * rd v (j : Int)) = rd row (j : Int) * rd v (j : Int) := wrap_id (by omega) (by omega)
    have w2 : wrap64 (acc + rd row (j : Int) * rd v (j : Int)) = acc + rd row (j : Int) * rd v (j : Int) := wrap_id (by omega) (by omega)
    have e2 : rd row (j : Int) * rd (v.map fun y => -y) (j : Int) = -(rd row (j : Int) * rd v (j : Int)) := by rw [rd_map_neg, Int.mul_neg]
    have w3 : wrap64 (-(rd row (j : Int) * rd v (j : Int))) = -(rd row (j : Int) * rd v (j : Int)) := wrap_id (by omega) (by omega)
    have w4 : wrap64 (-acc + -(rd row (j : Int) * rd v (j : Int))) = -(acc + rd row (j : Int) * rd v (j : Int)) := by rw [wrap_id (by omega) (by omega)]; omega
    obtain ⟨s, hs0, hs⟩ := ih (j + 1) (acc + rd row (j : Int) * rd v (j : Int)) (by omega) (by omega)
    refine ⟨s, hs0, fun k => ⟨?_, ?_⟩⟩
    · rw [show k + (d + 1) + 1 = (k + d + 1) + 1 from rfl, spec_ApplyTable.l1, if_pos (by omega), if_pos (by omega), if_pos (by omega), if_pos (by omega), wrap_succ (by omega), w1, w2]
      exact (hs k).1
    · rw [show k + (d + 1) + 1 = (k + d + 1) + 1 from rfl, spec_ApplyTable.l1, if_pos (by omega), if_pos (by omega), if_pos (by omega), if_pos (by rw [List.length_map]; omega), wrap_succ (by omega), e2, w3, w4]
      exact (hs k).2
theorem outer_neg (v : List Int) (rows : List (List Int)) (hl : rows.length ≤ 14) (hr : ∀ x ∈ rows, x.length = rows.length) (hv : v.length = rows.length) (hx : ∀ x ∈ rows, ∀ y ∈ x, -100 ≤ y ∧ y ≤ 100) (hy : ∀ y ∈ v, -1000 ≤ y ∧ y ≤ 1000) (d : Nat) : ∀ (i : Nat) (out : List Int), i + d = rows.length → out.length = i → (∀ y ∈ out, -1400000 ≤ y ∧ y ≤ 1400000) →
    ∃ r : List Int, r.length = rows.length ∧ (∀ y ∈ r, -1400000 ≤ y ∧ y ≤ 1400000) ∧ ∀ k, 20 * d + 1 ≤ k → spec_ApplyTable.l0 k v out rows (rows.length : Int) (i : Int) = some (r, true) ∧ spec_ApplyTable.l0 k (v.map fun y => -y) (out.map fun y => -y) rows (rows.length : Int) (i : Int) = some ((r.map fun y => -y), true) := by
  induction d with
  | zero =>
    intro i out hi ho hb
    refine ⟨out, by omega, hb, fun k hk => ?_⟩
    obtain ⟨k, rfl⟩ : ∃ m, k = m + 1 := ⟨k - 1, by omega⟩
    rw [spec_ApplyTable.l0, if_neg (by omega), spec_ApplyTable.l0, if_neg (by omega)]
    exact ⟨rfl, rfl⟩
  | succ d ih =>
    intro i out hi ho hb
    have h : i < rows.length := by omega
    have hrow := hr _ (List.getElem_mem h)
    obtain ⟨s, hs0, hs⟩ := inner_neg v out (out.map fun y => -y) rows (rows.length : Int) (i : Int) rows[i] (by omega) (by omega) (by omega) (by rw [List.length_map]; omega) (fun j hj => by rw [rd_get hj]; exact hx _ (List.getElem_mem h) _ (List.getElem_mem hj)) (fun j hj => by rw [rd_get (by omega)]; exact hy _ (List.getElem_mem _)) rows[i].length 0 0 (by omega) (by omega)
    obtain ⟨r, h1, h1b, h2⟩ := ih (i + 1) (out ++ [s]) (by omega) (by simp [ho]) (fun y hy' => by
      rcases List.mem_append.1 hy' with g | g
      · exact hb y g
      · obtain rfl := List.mem_singleton.1 g; exact hs0)
    refine ⟨r, h1, h1b, fun k hk => ?_⟩
    obtain ⟨k2, rfl⟩ : ∃ m, k = (m + rows[i].length + 1) + 1 := ⟨k - 2 - rows[i].length, by omega⟩
    obtain ⟨s1, s2⟩ := hs k2
    obtain ⟨t1, t2⟩ := h2 k2 (by omega)
    rw [Int.natCast_zero] at s1 s2
    rw [Int.neg_zero] at s2
    rw [List.map_append] at t2
    constructor
    · rw [spec_ApplyTable.l0, if_pos (by omega), if_pos (by omega), if_pos (by omega), rdL1_at h, s1, wrap_succ (by omega)]
      exact t1
    · rw [spec_ApplyTable.l0, if_pos (by omega), if_pos (by omega), if_pos (by omega), rdL1_at h, s2, wrap_succ (by omega)]
      exact t2
theorem both_ev (l : List (List Int)) (v : List Int) (hv : v.length ≤ 1048576) : ∃ (r : List Int) (b : Bool), r.length ≤ 14 ∧ (∀ y ∈ r, -1400000 ≤ y ∧ y ≤ 1400000) ∧ (b = true → (∀ y ∈ v, -1000 ≤ y ∧ y ≤ 1000) ∧ ∀ k, v.length + 1000 ≤ k → impl_ApplyTable.f k l (v.map fun y => -y) = some ((r.map fun y => -y), true)) ∧ ∀ k, v.length + 1000 ≤ k → spec_ApplyTable.f k l v = some (r, b) ∧ impl_ApplyTable.f k l v = some (r, b) := by
  have js : ∀ k, spec_ApplyTable.j0 (k + 1) l v true = some ([], false) := fun k => by rw [spec_ApplyTable.j0, if_pos rfl]
  have ji : ∀ k, impl_ApplyTable.j0 (k + 1) l v true = some ([], false) := fun k => by rw [impl_ApplyTable.j0, if_pos rfl]
  by_cases hr : rowsB l = true
  case neg =>
    refine ⟨[], false, by simp, fun y hy => (by cases hy), fun e => (by cases e), fun k hk => ?_⟩
    obtain ⟨k, rfl⟩ : ∃ m, k = m + 1 := ⟨k - 1, by omega⟩
    unfold spec_ApplyTable.f impl_ApplyTable.f
    rw [taRows_ev l (k + 1) (by omega), areRows_ev, Option.bind_some, Option.bind_some, if_neg hr, if_neg hr, js, ji]
    exact ⟨rfl, rfl⟩
  by_cases hl : v.length = l.length
  case neg =>
    refine ⟨[], false, by simp, fun y hy => (by cases hy), fun e => (by cases e), fun k hk => ?_⟩
    obtain ⟨k, rfl⟩ : ∃ m, k = m + 1 := ⟨k - 1, by omega⟩
    unfold spec_ApplyTable.f impl_ApplyTable.f
    rw [taRows_ev l (k + 1) (by omega), areRows_ev, Option.bind_some, Option.bind_some, if_pos hr, if_pos hr, if_neg (by omega), if_neg (by omega), js, ji]
    exact ⟨rfl, rfl⟩
  have h14 := rowsB_len hr
  cases ha : (v.all fun x => decide (-1000 ≤ x ∧ x ≤ 1000)) with
  | false =>
    refine ⟨[], false, by simp, fun y hy => (by cases hy), fun e => (by cases e), fun k hk => ?_⟩
    obtain ⟨k, rfl⟩ : ∃ m, k = m + 1 := ⟨k - 1, by omega⟩
    unfold spec_ApplyTable.f impl_ApplyTable.f
    rw [taRows_ev l (k + 1) (by omega), areRows_ev, Option.bind_some, Option.bind_some, if_pos hr, if_pos hr, if_pos (by omega), if_pos (by omega), all_ev v _ _ hv (k + 1) (by omega), contains_ev v hv (k + 1) (by omega), ha]
    simp only [Option.bind_some, Bool.not_false, js, ji, and_self]
  | true =>
    have hy : ∀ y ∈ v, -1000 ≤ y ∧ y ≤ 1000 := fun y hy => of_decide_eq_true (List.all_eq_true.1 ha y hy)
    have hx : ∀ x ∈ l, ∀ y ∈ x, -100 ≤ y ∧ y ≤ 100 := fun x hx y hy => by
      have h1 := rowsB_num hr x hx y hy
      have h2 : impl_areRows.most l.length ≤ 100 := by unfold impl_areRows.most; split <;> omega
      omega
    have ha2 : ((v.map fun y => -y).all fun x => decide (-1000 ≤ x ∧ x ≤ 1000)) = true := List.all_eq_true.2 fun y h => by
      obtain ⟨z, hz, rfl⟩ := List.mem_map.1 h
      exact decide_eq_true (by have := hy z hz; omega)
    obtain ⟨r, h1, h1b, h2⟩ := outer_neg v l (by omega) (rowsB_row hr) hl hx hy l.length 0 [] (by omega) rfl (fun y hy => by cases hy)
    refine ⟨r, true, by omega, h1b, fun _ => ⟨hy, fun k hk => ?_⟩, fun k hk => ?_⟩
    · obtain ⟨k, rfl⟩ : ∃ m, k = m + 1 := ⟨k - 1, by omega⟩
      have h3 := (h2 k (by omega)).2
      rw [Int.natCast_zero] at h3
      unfold impl_ApplyTable.f
      rw [areRows_ev, Option.bind_some, if_pos hr, if_pos (by rw [List.length_map]; omega), contains_ev _ (by rw [List.length_map]; omega) (k + 1) (by rw [List.length_map]; omega), ha2]
      simp only [Option.bind_some, Bool.not_true]
      rw [impl_ApplyTable.j0, if_neg (by simp), ← (loops_same k).1]
      exact h3
    · obtain ⟨k, rfl⟩ : ∃ m, k = m + 1 := ⟨k - 1, by omega⟩
      have h3 := (h2 k (by omega)).1
      rw [Int.natCast_zero] at h3
      unfold spec_ApplyTable.f impl_ApplyTable.f
      rw [taRows_ev l (k + 1) (by omega), areRows_ev, Option.bind_some, Option.bind_some, if_pos hr, if_pos hr, if_pos (by omega), if_pos (by omega), all_ev v _ _ hv (k + 1) (by omega), contains_ev v hv (k + 1) (by omega), ha]
      simp only [Option.bind_some, Bool.not_true]
      rw [spec_ApplyTable.j0, impl_ApplyTable.j0, if_neg (by simp), if_neg (by simp), ← (loops_same k).1, h3]
      exact ⟨rfl, rfl⟩

end Go.Proofs.Ytbphdjnainlbhaa.Pure
