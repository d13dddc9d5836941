/- The word of a meander that the program tells. -/
import Derived.Test.YteflkoghligofaaPMea
import Derived.Test.YteflkoghligofaaC4
set_option linter.unusedVariables false
set_option linter.unusedSimpArgs false
namespace Go.Proofs.Yteflkoghligofaa.Pure
open Go.RowKit Go.Proofs.Yteflkoghligofaa.C Go.Proofs.YteflkoghligofaaW.PrintWords Go.Proofs.YteflkoghligofaaW.PrintLast Go.Proofs.YteflkoghligofaaW.PrintMore

theorem perm_ev (a b : List Int) (ha : a.length ≤ 1048576) (hb : b.length ≤ 1048576) (k : Nat) (hk : a.length + b.length + 1000 ≤ k) :
    impl_PermutationOf.f k a b = some (if meander a b = true then (word a b, true) else ([], false)) := by
  unfold impl_PermutationOf.f
  rw [isPair_ev a b k (by omega)]
  simp only [Option.bind_some]
  cases h : meander a b with
  | false =>
    simp only [Bool.false_eq_true, if_false]
    unfold meander at h
    cases h1 : pairB a b with
    | false => simp
    | true =>
      rw [h1, Bool.true_and] at h
      rw [if_pos rfl, isOne_ev (pairB_pair h1) k (by omega), h]
      rfl
  | true =>
    obtain ⟨hP, h0, _⟩ := meander_one h
    have hw2 := iway_ev hP 0 h0 k (by omega)
    rw [show ((0 : Nat) : Int) = 0 from rfl] at hw2
    unfold meander at h
    simp only [Bool.and_eq_true] at h
    simp only [if_true, hw2, h.1, isOne_ev hP k (by omega : 900 ≤ k), h.2, Option.bind_some]
    rfl
theorem word_len {a b : List Int} (h : meander a b = true) : (word a b).length ≤ 24 := by
  obtain ⟨hP, h0, _⟩ := meander_one h
  have := (hP.two.way_length 0 h0).2
  have hn := (good_len hP.gp).1
  unfold word
  rw [ints_length]; omega

end Go.Proofs.Yteflkoghligofaa.Pure
