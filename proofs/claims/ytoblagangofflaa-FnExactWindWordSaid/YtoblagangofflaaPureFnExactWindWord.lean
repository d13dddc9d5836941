/- The law FnExactWindWord, as plain lists tell it: at every pair of slices of whole numbers the program's WindWord answers what the reference's does. No condition but the law's own guard. -/
import Derived.Test.YtoblagangofflaaPWind
import Derived.Test.YtoblagangofflaaW4
import Derived.Test.YtoblagangofflaaW6
set_option linter.unusedVariables false
set_option linter.unusedSimpArgs false
namespace Go.Proofs.Ytoblagangofflaa.Pure
open Go.RowKit Go.Proofs.Ytoblagangofflaa.W Go.Proofs.YtoblagangofflaaW.PrintWords Go.Proofs.YtoblagangofflaaW.PrintLast Go.Proofs.YtoblagangofflaaW.PrintMore

theorem both_ev (a b : List Int) (ha : a.length ≤ 1048576) (hb : b.length ≤ 1048576) : ∃ (r : ByteArray) (q : Bool), ∀ k, a.length + b.length + 100 ≤ k → spec_WindWord.f k a b = some (r, q) ∧ impl_WindWord.f k a b = some (r, q) := by
  cases h : weed a b with
  | false =>
    refine ⟨⟨#[]⟩, false, fun k hk => ?_⟩
    unfold spec_WindWord.f impl_WindWord.f
    rw [swGood_ev a b ha hb k (by omega), isSeaweed_ev a b ha hb k (by omega), h]
    exact ⟨rfl, rfl⟩
  | true =>
    have hI := inv_of_weed h
    have hm := meas_le a b hI
    refine ⟨lets ⟨#[]⟩ ((tr 50 a b).map (·.2)), true, fun k hk => ?_⟩
    unfold spec_WindWord.f impl_WindWord.f impl_Seaweed_run.f
    rw [swGood_ev a b ha hb k (by omega), isSeaweed_ev a b ha hb k (by omega), h]
    obtain ⟨fin, hf⟩ := run_l0 50 a b ⟨#[]⟩ [] k hI hm (by omega) (by decide) (by decide)
    simp only [Option.bind_some, if_true]
    rw [word_l0 50 a b ⟨#[]⟩ k hI hm (by omega) (by decide)]
    rw [List.nil_append] at hf
    rw [hf]
    exact ⟨rfl, rfl⟩
theorem FnExactWindWord : laws_FnExactWindWord.Pure := by
  intro a b ha _ hb _
  by_cases h : a.length + b.length ≤ 1048576
  · obtain ⟨r, q, hr⟩ := both_ev a b (by omega) (by omega)
    have hs : ∀ k, a.length + b.length + 100 ≤ k → spec_WindWord.f k a b = some (r, q) := fun k hk => (hr k hk).1
    have hi : ∀ k, a.length + b.length + 100 ≤ k → impl_WindWord.f k a b = some (r, q) := fun k hk => (hr k hk).2
    have T1 := fun k hk => toSeaweed_ev a b (by omega) (by omega) k hk
    have E1 := fun k hk => eqSeaweed_ev a b (by omega) (by omega) k hk
    obtain ⟨n, hn0⟩ : ∃ n, n = a.length + b.length + 2000 := ⟨_, rfl⟩
    refine ⟨n + 4, ?_⟩
    unfold laws_FnExactWindWord.f
    rw [szSeaweed_val a b ha hb, if_pos h, Option.bind_some, if_neg (by omega)]
    simp (disch := omega) only [T1, hs, hi, Option.bind_some, if_true, bne_self_eq_false]
    rw [laws_FnExactWindWord.j0]
    simp (disch := omega) only [T1, E1, Option.bind_some, if_true, if_false, bne_self_eq_false, Bool.false_eq_true]
  · refine ⟨1, ?_⟩
    unfold laws_FnExactWindWord.f
    rw [szSeaweed_val a b ha hb, if_neg h, Option.bind_some, if_pos (by omega)]

end Go.Proofs.Ytoblagangofflaa.Pure
