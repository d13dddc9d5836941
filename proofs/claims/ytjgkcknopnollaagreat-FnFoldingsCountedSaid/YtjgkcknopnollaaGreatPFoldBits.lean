/- What the functions over stacks answer, as far as FnFoldingsCounted wants it (cut out of PFoldAns). -/
import Derived.Test.YtjgkcknopnollaaGreatPDrawStack
import Derived.Test.YtjgkcknopnollaaGreatPStack
import Derived.Test.YtjgkcknopnollaaGreatQA2
set_option linter.unusedVariables false
set_option linter.unusedSimpArgs false
namespace Go.Proofs.YtjgkcknopnollaaGreat.Pure
open Go.RowKit Go.Proofs.YtjgkcknopnollaaGreat.C Go.Proofs.YtjgkcknopnollaaGreatW.PrintWords Go.Proofs.YtjgkcknopnollaaGreatW.PrintLast Go.Proofs.YtjgkcknopnollaaGreatW.PrintMore

theorem isfold_ans (l : List Int) (k : Nat) (hk : 1000 ≤ k) : impl_IsFolding.f k l = some (stackB l && foldB l, stackB l) := by
  unfold impl_IsFolding.f
  rw [isStack_ev l k (by omega), Option.bind_some]
  cases hp : stackB l with
  | false => rfl
  | true => rw [if_pos rfl, (fold_ev l (stackB_len hp) (stackB_word hp) k (by omega)).2]; rfl
theorem ySame_l0 (a b : List Int) (hl : a.length = b.length) (ha : a.length ≤ 1000) (d : Nat) : ∀ (k i : Nat), i + d = a.length → d < k → laws_ySame.l0 k a b (a.length : Int) (i : Int) = some (decide (a.drop i = b.drop i)) := by
  induction d with
  | zero =>
    intro k i hi hk
    obtain ⟨k, rfl⟩ : ∃ m, k = m + 1 := ⟨k - 1, by omega⟩
    rw [laws_ySame.l0, if_neg (by omega), List.drop_of_length_le (by omega), List.drop_of_length_le (by omega)]
    rfl
  | succ d ih =>
    intro k i hi hk
    obtain ⟨k, rfl⟩ : ∃ m, k = m + 1 := ⟨k - 1, by omega⟩
    have h1 : i < a.length := by omega
    have h2 : i < b.length := by omega
    rw [laws_ySame.l0, if_pos (by omega), if_pos (by omega), if_pos (by omega), if_pos (by omega), rd_get h1, rd_get h2, List.drop_eq_getElem_cons h1, List.drop_eq_getElem_cons h2, wrap_succ (by omega), ih k (i + 1) (by omega) (by omega)]
    by_cases e : a[i] = b[i]
    · rw [if_pos e]; congr 1; rw [decide_eq_decide, List.cons_eq_cons]
      exact ⟨fun h => ⟨e, h⟩, fun h => h.2⟩
    · rw [if_neg e]; congr 1; symm; rw [decide_eq_false_iff_not, List.cons_eq_cons]
      exact fun h => e h.1
theorem ySame_ans (a b : List Int) (ha : a.length ≤ 1000) (k : Nat) (hk : 1100 ≤ k) : laws_ySame.f k a b = some (decide (a = b)) := by
  unfold laws_ySame.f
  by_cases h : a.length = b.length
  · rw [if_pos (by omega)]
    have := ySame_l0 a b h ha a.length k 0 (by omega) (by omega)
    simpa using this
  · rw [if_neg (by omega)]; congr 1; symm; rw [decide_eq_false_iff_not]
    exact fun e => h (by rw [e])
theorem ySame_ev (a : List Int) (ha : a.length ≤ 1000) (k : Nat) (hk : 1100 ≤ k) : laws_ySame.f k a a = some true := by
  rw [ySame_ans a a ha k hk, decide_eq_true rfl]
theorem yRows_l0 (a : List (List Int)) (ha : a.length ≤ 1000) (hx : ∀ x ∈ a, x.length ≤ 1000) (d : Nat) : ∀ (k i : Nat), i + d = a.length → d + 1100 ≤ k → laws_yRows.l0 k a a (a.length : Int) (i : Int) = some true := by
  induction d with
  | zero =>
    intro k i hi hk
    obtain ⟨k, rfl⟩ : ∃ m, k = m + 1 := ⟨k - 1, by omega⟩
    rw [laws_yRows.l0, if_neg (by omega)]
  | succ d ih =>
    intro k i hi hk
    obtain ⟨k, rfl⟩ : ∃ m, k = m + 1 := ⟨k - 1, by omega⟩
    have h1 : i < a.length := by omega
    rw [laws_yRows.l0, if_pos (by omega), if_pos (by omega), if_pos (by omega), if_pos (by omega), rdL3_at h1, ySame_ev _ (hx _ (List.getElem_mem h1)) k (by omega), Option.bind_some, if_pos rfl, wrap_succ (by omega)]
    exact ih k (i + 1) (by omega) (by omega)
theorem yRows_ev (a : List (List Int)) (ha : a.length ≤ 1000) (hx : ∀ x ∈ a, x.length ≤ 1000) (k : Nat) (hk : 2200 ≤ k) : laws_yRows.f k a a = some true := by
  unfold laws_yRows.f
  rw [if_pos rfl]
  exact yRows_l0 a ha hx a.length k 0 (by omega) (by omega)
theorem drawStack_ans {l : List Int} (h : Bytes l) (k : Nat) (hk : 1400 ≤ k) : ∃ p, p.length ≤ 9 ∧ spec_DrawIsFolding.f k l = some p := by
  obtain ⟨v, j, s, e, hv, _⟩ := (stack_ok h 8 (by omega) (by omega) k hk 0 0 (by omega) (by omega)).ok
  exact ⟨v, hv, by unfold spec_DrawIsFolding.f; rw [e]; rfl⟩

end Go.Proofs.YtjgkcknopnollaaGreat.Pure
