/- The law FnExactFoldingsOnTop, as plain lists tell it: at every number of Go's int the program's FoldingsOnTop answers what the reference's does, and what it answers is of its own. No condition. -/
import Derived.Test.YtjgkcknopnollaaPTop
import Derived.Test.YtjgkcknopnollaaPLawsSB
import Derived.Test.YtjgkcknopnollaaHFoldingsOnTop
import Derived.Test.YtjgkcknopnollaaF1
import Derived.Test.YtjgkcknopnollaaF3
import Derived.Test.YtjgkcknopnollaaF5
import Derived.Test.YtjgkcknopnollaaF6
set_option linter.unusedVariables false
set_option linter.unusedSimpArgs false
namespace Go.Proofs.Ytjgkcknopnollaa.Pure
open Go.RowKit Go.Proofs.Ytjgkcknopnollaa.F Go.Proofs.YtjgkcknopnollaaW.PrintWords Go.Proofs.YtjgkcknopnollaaW.PrintLast Go.Proofs.YtjgkcknopnollaaW.PrintMore

theorem sIn_val' (a b c : Int) : spec_l1In.f a b c = some (decide (b ≤ a ∧ a ≤ c)) := by
  unfold spec_l1In.f
  by_cases h : b ≤ a <;> simp [h]
theorem iIn_val' (a b c : Int) : impl_in.f a b c = some (decide (b ≤ a ∧ a ≤ c)) := by
  unfold impl_in.f
  by_cases h : b ≤ a <;> simp [h]
set_option maxRecDepth 100000 in
theorem grown : ∀ a : Fin 8, (impl_foldings.go 3000 true a.val [[0]]).isSome = true := by decide +kernel
theorem up' {α : Type} {g : Nat → Option α} (hm : ∀ k, LeO (g k) (g (k + 1))) {r : α} {k : Nat} (h : g k = some r) : ∀ d, g (k + d) = some r
  | 0 => h
  | d + 1 => hm _ r (up' hm h d)
theorem FnExactFoldingsOnTop : laws_FnExactFoldingsOnTop.Pure := by
  intro n _
  by_cases h : 1 ≤ n ∧ n ≤ 8
  · obtain ⟨m, rfl⟩ : ∃ m : Nat, n = (m : Int) + 1 := ⟨(n - 1).toNat, by omega⟩
    obtain ⟨fin, hf⟩ := Option.isSome_iff_exists.1 (grown ⟨m, by omega⟩)
    have hf : impl_foldings.go 3000 true m [[0]] = some fin := hf
    obtain ⟨⟨K, hK⟩, hr, hl⟩ := top_l0 3000 (by omega) (m + 1) (by omega) m 1 [[0]] fin (by omega) (by omega) (by intro x hx; obtain rfl := List.mem_singleton.1 hx; exact ⟨rfl, by decide⟩) (by decide) hf
    have hl : fin.length ≤ 40320 := Nat.le_trans hl (fac_le ⟨m + 1, by omega⟩)
    have hsm : ∀ x ∈ fin, small x ∧ x.length ≤ 1000 := by
      intro x hx
      obtain ⟨h1, h2⟩ := hr x hx
      refine ⟨?_, by omega⟩
      intro y hy
      unfold wordB inR at h2
      rw [Bool.and_eq_true] at h2
      have := of_decide_eq_true (List.all_eq_true.1 h2.1 y hy)
      omega
    have hlr : ∀ x ∈ SortL.sortL fin, x.length ≤ 1048576 := fun x hx => by have := (hsm x ((SortL.sortL_perm _).mem_iff.1 hx)).2; omega
    have hll : (SortL.sortL fin).length ≤ 1048576 := by rw [SortL.sortL_length]; omega
    have hif : impl_foldings.f 3000 ((m : Int) + 1) true = some (SortL.sortL fin) := by
      unfold impl_foldings.f slices_SortFunc_int_int_at_slices_Compare_int_int.f
      rw [if_pos (by omega), show ((m : Int) + 1).toNat - 1 = m by omega, hf, Option.bind_some, if_pos (by omega)]
    have hi : impl_FoldingsOnTop.f 3000 ((m : Int) + 1) = some (SortL.sortL fin, true) := by
      unfold impl_FoldingsOnTop.f
      rw [iIn_val', decide_eq_true h, Option.bind_some, if_pos rfl, hif]; rfl
    obtain ⟨k, hk⟩ : ∃ k, k = K + 4000000 := ⟨_, rfl⟩
    have hs : spec_FoldingsOnTop.f k ((m : Int) + 1) = some (SortL.sortL fin, true) := by
      unfold spec_FoldingsOnTop.f spec_spStamps.f spec_spTop.f
      have h1 : spec_spTop.l0 k ((m + 1 : Nat) : Int) [[0]] ((1 : Nat) : Int) = some fin := hK k (by omega)
      rw [sIn_val', decide_eq_true h, Option.bind_some]
      simp only [Option.bind_some, if_true]
      have h2 : spec_spTop.l0 k ((m : Int) + 1) [[0]] 1 = some fin := h1
      rw [h2, Option.bind_some, ← insAll_sort]
      have := puts_l0 fin hsm (by omega) fin.length k 0 [] (by omega) (by simp) (by simp) (by omega)
      rw [List.drop_zero] at this
      exact this
    obtain ⟨d, hd⟩ : ∃ d, k = 3000 + d := ⟨k - 3000, by omega⟩
    have hi2 : impl_FoldingsOnTop.f k ((m : Int) + 1) = some (SortL.sortL fin, true) := by
      rw [hd]
      exact up' (g := fun k => impl_FoldingsOnTop.f k ((m : Int) + 1)) (fun k => impl_FoldingsOnTop.mono _ k) hi d
    exact ⟨k, ⟨SortL.sortL fin, true, _, _, hs, hi2, eqIntSS_ev _ hll hlr _ (by omega),
      markIntSS_ev _ hll hlr _ (by omega), by omega, heldIntSS_ev _ hll hlr _ (by omega)⟩⟩
  · refine ⟨3000000, ⟨[], false, _, _, ?_, ?_, eqIntSS_ev _ (by simp) (by simp) _ (by omega), markIntSS_ev _ (by simp) (by simp) _ (by omega), by omega, heldIntSS_ev _ (by simp) (by simp) _ (by omega)⟩⟩
    · unfold spec_FoldingsOnTop.f spec_spStamps.f
      rw [sIn_val', decide_eq_false h]; rfl
    · unfold impl_FoldingsOnTop.f
      rw [iIn_val', decide_eq_false h]; rfl

end Go.Proofs.Ytjgkcknopnollaa.Pure
