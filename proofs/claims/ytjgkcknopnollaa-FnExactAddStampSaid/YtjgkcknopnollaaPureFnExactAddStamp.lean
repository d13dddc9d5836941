/- The law FnExactAddStamp, as plain lists tell it: at every slice of whole numbers the program's AddStamp answers what the reference's does, and what it answers is of its own. No condition but the law's own guard. -/
import Derived.Test.YtjgkcknopnollaaPAdd
import Derived.Test.YtjgkcknopnollaaPLawsS
import Derived.Test.YtjgkcknopnollaaHAddStamp
import Derived.Test.YtjgkcknopnollaaA4
import Derived.Test.YtjgkcknopnollaaA8
set_option linter.unusedVariables false
set_option linter.unusedSimpArgs false
namespace Go.Proofs.Ytjgkcknopnollaa.Pure
open Go.RowKit Go.Proofs.Ytjgkcknopnollaa.A Go.Proofs.YtjgkcknopnollaaW.PrintWords Go.Proofs.YtjgkcknopnollaaW.PrintLast Go.Proofs.YtjgkcknopnollaaW.PrintMore

theorem both_ev (l : List Int) (h : l.length ≤ 1048576) : ∃ (R : List (List Int)) (b : Bool), R.length ≤ 64 ∧ (∀ x ∈ R, x.length ≤ 64) ∧ ∀ k, l.length + 2000 ≤ k → spec_AddStamp.f k l = some (R, b) ∧ impl_AddStamp.f k l = some (R, b) := by
  cases hp : stackB l with
  | false =>
    refine ⟨[], false, by simp, by simp, fun k hk => ?_⟩
    unfold spec_AddStamp.f impl_AddStamp.f
    rw [spStack_ev l h k (by omega), isStack_ev l k (by omega), hp]
    exact ⟨rfl, rfl⟩
  | true =>
    have hl := stackB_len hp
    have hw := stackB_word hp
    cases hf : foldB l with
    | false =>
      refine ⟨[], false, by simp, by simp, fun k hk => ?_⟩
      obtain ⟨e1, e2⟩ := fold_ev l hl hw k (by omega)
      unfold spec_AddStamp.f impl_AddStamp.f
      rw [spStack_ev l h k (by omega), isStack_ev l k (by omega), hp, Option.bind_some, Option.bind_some, if_pos rfl, if_pos rfl, e1, e2, hf]
      exact ⟨rfl, rfl⟩
    | true =>
      by_cases h8 : l.length = 8
      · refine ⟨[], false, by simp, by simp, fun k hk => ?_⟩
        obtain ⟨e1, e2⟩ := fold_ev l hl hw k (by omega)
        unfold spec_AddStamp.f impl_AddStamp.f
        rw [spStack_ev l h k (by omega), isStack_ev l k (by omega), hp, Option.bind_some, Option.bind_some, if_pos rfl, if_pos rfl, e1, e2, hf, Option.bind_some, Option.bind_some, if_pos rfl, if_pos rfl, if_pos (by omega), if_pos (by omega)]
        exact ⟨rfl, rfl⟩
      · refine ⟨SortL.sortL (cand l (l.length + 1) 0), true, ?_, ?_, fun k hk => ?_⟩
        · rw [SortL.sortL_length]; have := cand_len l (l.length + 1) 0; omega
        · intro x hx
          obtain ⟨j, rfl⟩ := cand_mem l _ _ x ((SortL.sortL_perm _).mem_iff.1 hx)
          rw [ins_len]; omega
        · obtain ⟨e1, e2⟩ := fold_ev l hl hw k (by omega)
          obtain ⟨e3, e4⟩ := added_ev l (by omega) hw k (by omega)
          unfold spec_AddStamp.f impl_AddStamp.f
          rw [spStack_ev l h k (by omega), isStack_ev l k (by omega), hp, Option.bind_some, Option.bind_some, if_pos rfl, if_pos rfl, e1, e2, hf, Option.bind_some, Option.bind_some, if_pos rfl, if_pos rfl, if_neg (by omega), if_neg (by omega), e3, e4]
          exact ⟨rfl, rfl⟩
theorem FnExactAddStamp : laws_FnExactAddStamp.Pure := by
  intro l _ _ _
  by_cases h : l.length ≤ 1048576
  · obtain ⟨R, b, h1, h2, hr⟩ := both_ev l h
    obtain ⟨k, hk⟩ : ∃ k, k = l.length + 3000000 := ⟨_, rfl⟩
    have hr2 : ∀ x ∈ R, x.length ≤ 1048576 := fun x hx => by have := h2 x hx; omega
    obtain ⟨e1, e2⟩ := hr k (by omega)
    have m := markIntS_ev l 1 h (by omega) k (by omega)
    rw [Int.natCast_one] at m
    exact ⟨k, .inr ⟨R, b, _, _, _, _, e1, e2, toIntS_ev l h k (by omega), eqIntSS_ev R (by omega) hr2 k (by omega), eqIntS_ev l h k (by omega), m, by omega,
      markIntSS_ev R (by omega) hr2 k (by omega), by omega, heldIntSS_ev R (by omega) hr2 k (by omega)⟩⟩
  · exact ⟨0, .inl (by omega)⟩

end Go.Proofs.Ytjgkcknopnollaa.Pure
