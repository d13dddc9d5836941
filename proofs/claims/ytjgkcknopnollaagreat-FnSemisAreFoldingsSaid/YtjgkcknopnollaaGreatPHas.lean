/- The reference's two small tests: is a number in bounds, is it in a list. -/
import Derived.Test.YtjgkcknopnollaaGreatPNum
import Derived.Test.YtjgkcknopnollaaGreatQA2
set_option linter.unusedVariables false
set_option linter.unusedSimpArgs false
namespace Go.Proofs.YtjgkcknopnollaaGreat.Pure
open Go.RowKit Go.Proofs.YtjgkcknopnollaaGreat.D Go.Proofs.YtjgkcknopnollaaGreatW.PrintWords Go.Proofs.YtjgkcknopnollaaGreatW.PrintLast Go.Proofs.YtjgkcknopnollaaGreatW.PrintMore

theorem sIn_val (a b c : Int) : spec_l1In.f a b c = some (decide (b ≤ a ∧ a ≤ c)) := by
  unfold spec_l1In.f
  by_cases h : b ≤ a <;> simp [h]
theorem sHas_l0 (l : List Int) (a : Int) (hl : l.length ≤ 1048576) (d : Nat) : ∀ (k i : Nat), i + d = l.length → d < k →
    spec_l1Has.l0 k a l (l.length : Int) (i : Int) = some (decide (a ∈ l.drop i)) := by
  induction d with
  | zero =>
    intro k i hi hk
    obtain ⟨k, rfl⟩ : ∃ m, k = m + 1 := ⟨k - 1, by omega⟩
    rw [spec_l1Has.l0, if_neg (by omega), List.drop_of_length_le (by omega)]; simp
  | succ d ih =>
    intro k i hi hk
    obtain ⟨k, rfl⟩ : ∃ m, k = m + 1 := ⟨k - 1, by omega⟩
    have hlt : i < l.length := by omega
    rw [spec_l1Has.l0, if_pos (by omega), if_pos (by omega), if_pos (by omega), rd_get hlt, wrap_succ (by omega), ih k (i + 1) (by omega) (by omega), List.drop_eq_getElem_cons hlt]
    by_cases e : l[i] = a
    · rw [if_pos e]; congr 1; symm; rw [decide_eq_true_eq, List.mem_cons]; exact .inl e.symm
    · rw [if_neg e]; congr 1; rw [decide_eq_decide, List.mem_cons]
      exact ⟨.inr, fun g => g.resolve_left fun h => e h.symm⟩
theorem sHas_ev (l : List Int) (a : Int) (hl : l.length ≤ 1048576) (k : Nat) (hk : l.length < k) : spec_l1Has.f k l a = some (decide (a ∈ l)) := by
  unfold spec_l1Has.f
  have := sHas_l0 l a hl l.length k 0 (by omega) hk
  simpa using this

end Go.Proofs.YtjgkcknopnollaaGreat.Pure
