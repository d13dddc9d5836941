/- The first row that depends on those before: both sides find the first place where the rank does not grow. -/
import Derived.Test.YtbphdjnainlbhaaPRk
import Derived.Test.YtbphdjnainlbhaaQA2
set_option linter.unusedVariables false
set_option linter.unusedSimpArgs false
namespace Go.Proofs.Ytbphdjnainlbhaa.Pure
open Go.RowKit Go.Proofs.Ytbphdjnainlbhaa.R Go.Proofs.YtbphdjnainlbhaaW.PrintWords Go.Proofs.YtbphdjnainlbhaaW.PrintLast Go.Proofs.YtbphdjnainlbhaaW.PrintMore

theorem rank_take {l : List (List Int)} (n : Nat) : ∃ ρ : Nat → Nat, ∀ i, IsRank 0 n ((l.take i).map fn) (ρ i) := ⟨fun i => Classical.choose (rank_exists not_zero_one n ((l.take i).map fn)), fun i => Classical.choose_spec (rank_exists not_zero_one n ((l.take i).map fn))⟩
theorem rank_lt {p : Int} {n : Nat} {R : List (Nat → Int)} {r k : Nat} (h : IsRank p n R r) (hk : Rk p n R k) : k ≤ r := by
  rcases Nat.lt_or_ge r k with g | g
  · exact absurd (rk_le hk g) h.2
  · exact g
/-- a row more: the rank stays or grows by one -/
theorem rank_next {l : List (List Int)} {n : Nat} {ρ : Nat → Nat} (h : ∀ i, IsRank 0 n ((l.take i).map fn) (ρ i)) (i : Nat) (hi : i < l.length) : ρ (i + 1) = ρ i ∨ ρ (i + 1) = ρ i + 1 := by
  have e : (l.take (i + 1)).map fn = (l.take i).map fn ++ [fn l[i]] := by rw [List.take_succ_eq_append_getElem hi, List.map_append]; rfl
  have h0 := h i
  have h1 := h (i + 1)
  rw [e] at h1
  have a : ρ i ≤ ρ (i + 1) := rank_lt h1 (rk_mono (fun v hv => List.mem_append.2 (.inl hv)) h0.1)
  have b : ρ (i + 1) ≤ ρ i + 1 := by
    rcases Nat.eq_zero_or_pos (ρ (i + 1)) with hz | hz
    · omega
    · obtain ⟨k, hk⟩ : ∃ k, ρ (i + 1) = k + 1 := ⟨ρ (i + 1) - 1, by omega⟩
      have h2 := h1.1
      rw [hk] at h2
      have := rank_lt h0 (rk_more h2)
      omega
  omega
theorem rank_nil {n : Nat} {r : Nat} (h : IsRank 0 n [] r) : r = 0 := by
  have := rk_pigeon h.1
  simpa using this
/-- what the two sides tell: row -/
theorem dep_l0 {l : List (List Int)} (h : rowsB l = true) {ρ : Nat → Nat} (hρ : ∀ i, IsRank 0 l.length ((l.take i).map fn) (ρ i)) (d : Nat) : ∀ i : Nat, i + d = l.length → ρ i = i →
    ∃ (r : Int) (b : Bool), (∀ k, d + 100 ≤ k → spec_DependentRow.l0 k l (l.length : Int) (i : Int) = some (r, b) ∧ impl_DependentRow.l0 k l (l.length : Int) (i : Int) = some (r, b)) ∧
      ((b = false ∧ ρ l.length = l.length) ∨ (b = true ∧ ∃ j : Nat, r = (j : Int) ∧ j < l.length ∧ ρ (j + 1) = j)) := by
  have hl := rowsB_len h
  have hB := bnd_rows h
  have iev : ∀ i, i < l.length → ∀ k, 60 ≤ k → impl_rank.f k (l.take (i + 1)) = some (ρ (i + 1) : Int) := fun i hi k hk => by
    have ht : (l.take (i + 1)).length = i + 1 := by rw [List.length_take]; omega
    exact irank_ev hl (by omega) (fun x hx => rowsB_row h x (List.mem_of_mem_take hx)) (bnd_sub hB (fun v hv => by
      obtain ⟨x, hx, rfl⟩ := List.mem_map.1 hv
      exact List.mem_map.2 ⟨x, List.mem_of_mem_take hx, rfl⟩) (by rw [List.length_map, List.length_map]; omega)) (hρ (i + 1)) k hk
  have sev : ∀ i, i < l.length → ∀ k, 60 ≤ k → spec_taRank.f k (l.take (i + 1)) = some (ρ (i + 1) : Int) := fun i hi k hk => by
    have ht : (l.take (i + 1)).length = i + 1 := by rw [List.length_take]; omega
    exact srank_ev hl (by omega) (fun x hx => rowsB_row h x (List.mem_of_mem_take hx)) (bnd_sub hB (fun v hv => by
      obtain ⟨x, hx, rfl⟩ := List.mem_map.1 hv
      exact List.mem_map.2 ⟨x, List.mem_of_mem_take hx, rfl⟩) (by rw [List.length_map, List.length_map]; omega)) (hρ (i + 1)) k hk
  have sev0 : ∀ i, i < l.length → ∀ k, 60 ≤ k → spec_taRank.f k (l.take i) = some (ρ i : Int) := fun i hi k hk => by
    cases i with
    | zero =>
      have h0 := hρ 0
      rw [List.take_zero, List.map_nil] at h0
      rw [List.take_zero, srank_nil k hk, rank_nil h0]; rfl
    | succ i => exact sev i (by omega) k hk
  induction d with
  | zero =>
    intro i hi hr
    obtain rfl : i = l.length := by omega
    refine ⟨0, false, fun k hk => ?_, .inl ⟨rfl, hr⟩⟩
    obtain ⟨k, rfl⟩ : ∃ m, k = m + 1 := ⟨k - 1, by omega⟩
    rw [spec_DependentRow.l0, impl_DependentRow.l0, if_neg (by omega), if_neg (by omega)]
    exact ⟨rfl, rfl⟩
  | succ d ih =>
    intro i hi hr
    have hil : i < l.length := by omega
    have hw : wrap64 ((i : Int) + 1) = ((i + 1 : Nat) : Int) := wrap_succ (by omega)
    have s1 : ∀ k, d + 1 + 100 ≤ k → spec_DependentRow.l0 k l (l.length : Int) (i : Int) = (if ((ρ (i + 1) : Nat) : Int) = ((ρ i : Nat) : Int) then some ((i : Int), true) else spec_DependentRow.l0 (k - 1) l (l.length : Int) ((i + 1 : Nat) : Int)) := by
      intro k hk
      obtain ⟨k, rfl⟩ : ∃ m, k = m + 1 := ⟨k - 1, by omega⟩
      rw [spec_DependentRow.l0, if_pos (by omega), hw, if_pos (by omega), if_pos (by omega), Int.toNat_natCast, sev i hil k (by omega), Option.bind_some, if_pos (by omega), if_pos (by omega), Int.toNat_natCast, sev0 i hil k (by omega), Option.bind_some]
      rfl
    have i1 : ∀ k, d + 1 + 100 ≤ k → impl_DependentRow.l0 k l (l.length : Int) (i : Int) = (if ((ρ (i + 1) : Nat) : Int) = (i : Int) then some ((i : Int), true) else impl_DependentRow.l0 (k - 1) l (l.length : Int) ((i + 1 : Nat) : Int)) := by
      intro k hk
      obtain ⟨k, rfl⟩ : ∃ m, k = m + 1 := ⟨k - 1, by omega⟩
      rw [impl_DependentRow.l0, if_pos (by omega), hw, if_pos (by omega), if_pos (by omega), Int.toNat_natCast, iev i hil k (by omega), Option.bind_some]
      rfl
    rcases rank_next hρ i hil with g | g
    · refine ⟨(i : Int), true, fun k hk => ⟨?_, ?_⟩, .inr ⟨rfl, i, rfl, hil, by omega⟩⟩
      · rw [s1 k hk, if_pos (by rw [g])]
      · rw [i1 k hk, if_pos (by rw [g, hr])]
    · obtain ⟨r, b, h1, h2⟩ := ih (i + 1) (by omega) (by omega)
      refine ⟨r, b, fun k hk => ⟨?_, ?_⟩, h2⟩
      · rw [s1 k hk, if_neg (by omega)]
        exact (h1 (k - 1) (by omega)).1
      · rw [i1 k hk, if_neg (by omega)]
        exact (h1 (k - 1) (by omega)).2
/-- both answers of DependentRow -/
theorem dep_ans (l : List (List Int)) : ∃ (r : Int) (b : Bool), (∀ k, 300 ≤ k → spec_DependentRow.f k l = some (r, b) ∧ impl_DependentRow.f k l = some (r, b)) ∧
    ∀ ρ : Nat → Nat, (∀ i, IsRank 0 l.length ((l.take i).map fn) (ρ i)) → rowsB l = true → ((b = false ∧ ρ l.length = l.length) ∨ (b = true ∧ ∃ j : Nat, r = (j : Int) ∧ j < l.length ∧ ρ (j + 1) = j)) := by
  cases hb : rowsB l with
  | false =>
    refine ⟨0, false, fun k hk => ?_, fun _ _ h => by cases h⟩
    unfold spec_DependentRow.f impl_DependentRow.f
    rw [taRows_ev l k (by omega), areRows_ev, hb]
    exact ⟨rfl, rfl⟩
  | true =>
    have hl := rowsB_len hb
    obtain ⟨ρ, hρ⟩ := rank_take (l := l) l.length
    have h0 := hρ 0
    rw [List.take_zero, List.map_nil] at h0
    obtain ⟨r, b, h1, h2⟩ := dep_l0 hb hρ l.length 0 (by omega) (rank_nil h0)
    refine ⟨r, b, fun k hk => ?_, fun σ hσ _ => ?_⟩
    · unfold spec_DependentRow.f impl_DependentRow.f
      rw [taRows_ev l k (by omega), areRows_ev, hb, Option.bind_some, Option.bind_some, if_pos rfl, if_pos rfl]
      exact h1 k (by omega)
    · have e : σ = ρ := by funext i; exact rank_unique (hσ i) (hρ i)
      rw [e]; exact h2

end Go.Proofs.Ytbphdjnainlbhaa.Pure
