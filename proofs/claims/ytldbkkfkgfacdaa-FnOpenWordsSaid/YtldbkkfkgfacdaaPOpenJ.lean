/- Open words: the program's list of them and the reference's are one. -/
import Derived.Test.YtldbkkfkgfacdaaPCrs
import Derived.Test.YtldbkkfkgfacdaaPHas
import Derived.Test.YtldbkkfkgfacdaaPIsSysJ
import Derived.Test.YtldbkkfkgfacdaaQD0
set_option linter.unusedVariables false
set_option linter.unusedSimpArgs false
namespace Go.Proofs.Ytldbkkfkgfacdaa.Pure
open Go.RowKit Go.Proofs.Ytldbkkfkgfacdaa.P Go.Proofs.YtldbkkfkgfacdaaW.PrintWords Go.Proofs.YtldbkkfkgfacdaaW.PrintLast Go.Proofs.YtldbkkfkgfacdaaW.PrintMore

theorem own_val (l : List Int) (h : l.length ≤ 1000) : spec_l1Own.f l = some l := by
  unfold spec_l1Own.f
  rw [Option.bind_some, if_pos (by simp; omega)]; rfl
theorem index_l0 (l : List Int) (a : Int) (hl : l.length ≤ 1000) (d : Nat) : ∀ (k i : Nat), i + d = l.length → d < k →
    ∃ r : Int, slices_Index_int_int.l0 k l a (l.length : Int) (i : Int) = some r ∧ decide (r ≥ 0) = decide (a ∈ l.drop i) := by
  induction d with
  | zero =>
    intro k i hi hk
    obtain ⟨k, rfl⟩ : ∃ m, k = m + 1 := ⟨k - 1, by omega⟩
    rw [slices_Index_int_int.l0, if_neg (by omega), List.drop_of_length_le (by omega)]
    exact ⟨-1, rfl, by simp⟩
  | succ d ih =>
    intro k i hi hk
    obtain ⟨k, rfl⟩ : ∃ m, k = m + 1 := ⟨k - 1, by omega⟩
    have hlt : i < l.length := by omega
    rw [slices_Index_int_int.l0, if_pos (by omega), if_pos (by omega), if_pos (by omega), rd_get hlt, wrap_succ (by omega), List.drop_eq_getElem_cons hlt]
    by_cases e : a = l[i]
    · rw [if_pos e]
      exact ⟨_, rfl, by rw [decide_eq_decide]; exact ⟨fun _ => by rw [e]; exact List.mem_cons_self, fun _ => by omega⟩⟩
    · rw [if_neg e]
      obtain ⟨r, h1, h2⟩ := ih k (i + 1) (by omega) (by omega)
      refine ⟨r, h1, ?_⟩
      rw [h2, decide_eq_decide, List.mem_cons]
      exact ⟨.inr, fun g => g.resolve_left e⟩
theorem contains_ev (l : List Int) (a : Int) (hl : l.length ≤ 1000) (k : Nat) (hk : l.length < k) : slices_Contains_int_int.f k l a = some (decide (a ∈ l)) := by
  obtain ⟨r, h1, h2⟩ := index_l0 l a hl l.length k 0 (by omega) hk
  unfold slices_Contains_int_int.f slices_Index_int_int.f
  rw [Int.natCast_zero] at h1
  rw [h1, Option.bind_some, h2]; rfl
/-- all open words of n numbers that go on a list by so many numbers -/
def words (n : Nat) : Nat → List Int → List (List Int)
  | 0, l => [l]
  | d + 1, l => (List.range n).flatMap fun x : Nat => if (x : Int) ∈ l ∨ (crs (l ++ [(x : Int)])).1 ≠ [] then [] else words n d (l ++ [(x : Int)])
theorem flat_len {α β : Type} (g : α → List β) (b : Nat) : ∀ (L : List α), (∀ x ∈ L, (g x).length ≤ b) → (L.flatMap g).length ≤ L.length * b := by
  intro L
  induction L with
  | nil => intro _; simp
  | cons a L ih =>
    intro h
    rw [List.flatMap_cons, List.length_append, List.length_cons, Nat.succ_mul]
    have h1 := h a (by simp)
    have h2 := ih (fun x hx => h x (by simp [hx]))
    omega
theorem words_len (n : Nat) (hn : n ≤ 7) (d : Nat) : ∀ l, (words n d l).length ≤ 7 ^ d := by
  induction d with
  | zero => intro l; simp [words]
  | succ d ih =>
    intro l
    have h1 := flat_len (fun x : Nat => if (x : Int) ∈ l ∨ (crs (l ++ [(x : Int)])).1 ≠ [] then [] else words n d (l ++ [(x : Int)])) (7 ^ d) (List.range n) (fun x _ => by
      show (if _ then _ else _ : List (List Int)).length ≤ _
      split
      · simp
      · exact ih _)
    rw [List.length_range] at h1
    have h2 : n * 7 ^ d ≤ 7 * 7 ^ d := Nat.mul_le_mul_right _ hn
    rw [Nat.pow_succ, Nat.mul_comm (7 ^ d) 7]
    exact Nat.le_trans h1 h2
theorem both_words (n : Nat) (hn : n ≤ 7) (d : Nat) : ∀ (l : List Int) (k : Nat), l.length + d = n → 600 + 20 * d ≤ k →
    spec_peAll.f k l (n : Int) = some (words n d l) ∧ impl_openWords.f k l (n : Int) = some (words n d l) := by
  induction d with
  | zero =>
    intro l k hl hk
    obtain ⟨k, rfl⟩ : ∃ m, k = m + 1 := ⟨k - 1, by omega⟩
    rw [spec_peAll.f, impl_openWords.f, if_pos (by omega), if_pos (by omega), own_val l (by omega)]
    unfold slices_Clone_int_int.f
    rw [if_pos (by omega)]
    exact ⟨rfl, rfl⟩
  | succ d ih =>
    intro l k hl hk
    obtain ⟨k, rfl⟩ : ∃ m, k = m + 1 := ⟨k - 1, by omega⟩
    rw [spec_peAll.f, impl_openWords.f, if_neg (by omega), if_neg (by omega)]
    have hd : 7 ^ d ≤ 823543 := Nat.le_trans (Nat.pow_le_pow_right (by omega) (show d ≤ 7 by omega)) (by decide)
    have hclone : slices_Clone_int_int.f l = some l := by unfold slices_Clone_int_int.f; rw [if_pos (by omega)]
    have loop : ∀ (m x k : Nat) (acc : List (List Int)), x + m = n → 600 + 20 * d + m + 1 ≤ k → acc.length ≤ x * 823543 →
        spec_peAll.l0 k l (n : Int) acc (x : Int) = some (acc ++ ((List.range n).drop x).flatMap fun x : Nat => if (x : Int) ∈ l ∨ (crs (l ++ [(x : Int)])).1 ≠ [] then [] else words n d (l ++ [(x : Int)])) ∧
        impl_openWords.l0 k l (n : Int) acc (n : Int) (x : Int) = some (acc ++ ((List.range n).drop x).flatMap fun x : Nat => if (x : Int) ∈ l ∨ (crs (l ++ [(x : Int)])).1 ≠ [] then [] else words n d (l ++ [(x : Int)])) := by
      intro m
      induction m with
      | zero =>
        intro x k acc hx hk hacc
        obtain ⟨k, rfl⟩ : ∃ m, k = m + 1 := ⟨k - 1, by omega⟩
        rw [spec_peAll.l0, impl_openWords.l0, if_neg (by omega), if_neg (by omega), List.drop_of_length_le (by simp; omega)]
        simp
      | succ m ihm =>
        intro x k acc hx hk hacc
        obtain ⟨k, rfl⟩ : ∃ m, k = m + 1 := ⟨k - 1, by omega⟩
        have hxn : x < (List.range n).length := by simp; omega
        rw [List.drop_eq_getElem_cons hxn, List.flatMap_cons, List.getElem_range]
        have hlen : (l ++ [(x : Int)]).length ≤ 12 := by simp; omega
        have hw : (words n d (l ++ [(x : Int)])).length ≤ 823543 := by have h1 := words_len n hn d (l ++ [(x : Int)]); omega
        have hs : ∀ y, y ≤ x * 823543 + 823543 → y ≤ (x + 1) * 823543 := fun y h => by rw [Nat.succ_mul]; exact h
        have nextn := ihm (x + 1) k acc (by omega) (by omega) (hs _ (Nat.le_trans hacc (Nat.le_add_right _ _)))
        have nexty := ihm (x + 1) k (acc ++ words n d (l ++ [(x : Int)])) (by omega) (by omega) (hs _ (by rw [List.length_append]; exact Nat.add_le_add hacc hw))
        obtain ⟨r1, r2⟩ := ih (l ++ [(x : Int)]) k (by simp; omega) (by omega)
        obtain ⟨v, hv⟩ : ∃ v, v = (if (x : Int) ∈ l ∨ (crs (l ++ [(x : Int)])).1 ≠ [] then [] else words n d (l ++ [(x : Int)])) := ⟨_, rfl⟩
        rw [← hv]
        have hll : l.length < 17592186044416 := by omega
        rw [spec_peAll.l0, impl_openWords.l0, if_pos (show (x : Int) < (n : Int) by omega), if_pos (show (x : Int) < (n : Int) by omega), sHas_ev l _ (by omega) k (by omega), contains_ev l _ (by omega) k (by omega), own_val l (by omega), hclone, wrap_succ (by omega)]
        simp only [Option.bind_some, if_pos hll]
        rw [scrossing_ev _ hlen k (by omega), icrossing_ev _ hlen k (by omega)]
        simp only [Option.bind_some]
        rw [crs_snd]
        by_cases hm : (x : Int) ∈ l
        · have hv' : v = [] := by rw [hv, if_pos (show _ ∨ _ from .inl hm)]
          have hd' : decide ((x : Int) ∈ l) = true := decide_eq_true hm
          rw [hv', hd', List.nil_append]
          exact nextn
        · have hd' : decide ((x : Int) ∈ l) = false := decide_eq_false hm
          rw [hd']
          simp only [Bool.false_eq_true, if_false]
          by_cases hc : (crs (l ++ [(x : Int)])).1 = []
          · have hv' : v = words n d (l ++ [(x : Int)]) := by rw [hv, if_neg (fun g : _ ∨ _ => g.elim hm (fun g => g hc))]
            have hd2 : (!decide ((crs (l ++ [(x : Int)])).1 = [])) = false := by rw [decide_eq_true hc]; rfl
            rw [hv', hd2, if_pos hc, r1, r2]
            simp only [Option.bind_some, Bool.false_eq_true, if_false]
            rw [if_pos (by omega), if_pos (by omega), ← List.append_assoc]
            exact nexty
          · have hv' : v = [] := by rw [hv, if_pos (show _ ∨ _ from .inr hc)]
            have hd2 : (!decide ((crs (l ++ [(x : Int)])).1 = [])) = true := by rw [decide_eq_false hc]; rfl
            rw [hv', hd2, if_pos rfl, if_neg hc, List.nil_append]
            exact nextn
    have := loop n 0 k [] (by omega) (by omega) (by simp)
    rw [Int.natCast_zero, List.drop_zero, List.nil_append] at this
    exact this
def openAns (n : Int) : List (List Int) × Bool := if 0 ≤ n ∧ n ≤ 7 then (words n.toNat n.toNat [], true) else ([], false)
theorem iopen_ev (n : Int) (k : Nat) (hk : 1000 ≤ k) : impl_OpenPermutations.f k n = some (openAns n) := by
  unfold impl_OpenPermutations.f openAns
  rw [iIn_val, Option.bind_some]
  by_cases h : 0 ≤ n ∧ n ≤ 7
  · obtain ⟨m, rfl⟩ : ∃ m : Nat, n = m := ⟨n.toNat, by omega⟩
    have := (both_words m (by omega) m [] k (by simp) (by omega)).2
    rw [if_pos (decide_eq_true h), if_pos h, this]; rfl
  · rw [if_neg (by simpa using h), if_neg h]

end Go.Proofs.Ytldbkkfkgfacdaa.Pure
