/- The law FnExactCountFoldings, as plain lists tell it: at every number of Go's int the program's CountFoldings answers what the reference's does. No condition. -/
import Derived.Test.YtjgkcknopnollaaPCount
import Derived.Test.YtjgkcknopnollaaF1
import Derived.Test.YtjgkcknopnollaaF3
import Derived.Test.YtjgkcknopnollaaF5
import Derived.Test.YtjgkcknopnollaaF6
set_option linter.unusedVariables false
set_option linter.unusedSimpArgs false
namespace Go.Proofs.Ytjgkcknopnollaa.Pure
open Go.RowKit Go.Proofs.Ytjgkcknopnollaa.F Go.Proofs.YtjgkcknopnollaaW.PrintWords Go.Proofs.YtjgkcknopnollaaW.PrintLast Go.Proofs.YtjgkcknopnollaaW.PrintMore

set_option maxRecDepth 100000 in
theorem topCounts : ∀ a : Fin 8, ((impl_foldings.go 3000 true a.val [[0]]).map List.length) = some (tops.getD a.val 0) := by decide +kernel
theorem topSmall : ∀ a : Fin 8, tops.getD a.val 0 ≤ 1000 := by decide
theorem madeSome : ∀ a : Fin 8, (a.val + 1) * tops.getD a.val 0 ≠ 0 := by decide
theorem sIn_val' (a b c : Int) : spec_l1In.f a b c = some (decide (b ≤ a ∧ a ≤ c)) := by
  unfold spec_l1In.f
  by_cases h : b ≤ a <;> simp [h]
theorem iIn_val' (a b c : Int) : impl_in.f a b c = some (decide (b ≤ a ∧ a ≤ c)) := by
  unfold impl_in.f
  by_cases h : b ≤ a <;> simp [h]
theorem gp_len (m : Nat) (h : m ≤ 7) : (GP m).length = (m + 1) * tops.getD m 0 := by
  rw [← lenC_eq 100 (GP m)]
  exact counts ⟨m, by omega⟩
theorem up' {α : Type} {g : Nat → Option α} (hm : ∀ k, LeO (g k) (g (k + 1))) {r : α} {k : Nat} (h : g k = some r) : ∀ d, g (k + d) = some r
  | 0 => h
  | d + 1 => hm _ r (up' hm h d)
theorem FnExactCountFoldings : laws_FnExactCountFoldings.Pure := by
  intro n _
  by_cases h : 1 ≤ n ∧ n ≤ 8
  · obtain ⟨m, rfl⟩ : ∃ m : Nat, n = (m : Int) + 1 := ⟨(n - 1).toNat, by omega⟩
    have hm : m ≤ 7 := by omega
    obtain ⟨fin, hf, hfl⟩ := Option.map_eq_some_iff.1 (topCounts ⟨m, by omega⟩)
    have hf : impl_foldings.go 3000 true m [[0]] = some fin := hf
    have hfl : fin.length = tops.getD m 0 := hfl
    have hts : tops.getD m 0 ≤ 1000 := topSmall ⟨m, by omega⟩
    have one : rowsOf 1 [[0]] := by intro x hx; obtain rfl := List.mem_singleton.1 hx; exact ⟨rfl, by decide⟩
    obtain ⟨⟨K, hK⟩, _, _⟩ := top_l0 3000 (by omega) (m + 1) (by omega) m 1 [[0]] fin (by omega) (by omega) one (by decide) hf
    obtain ⟨fin2, hg, hgl⟩ := go_made 3000 (by omega) (fun q hq => by rw [gp_len q hq]; exact madeSome ⟨q, by omega⟩) m 0 [[0]] (by omega) one (by decide) (List.Perm.refl _)
    rw [Nat.zero_add, gp_len m hm, ← hfl] at hgl
    have hlt : fin2.length ≤ 8000 := by
      rw [hgl, hfl]
      exact Nat.mul_le_mul (show m + 1 ≤ 8 by omega) hts
    have hi : impl_CountFoldings.f 3000 ((m : Int) + 1) = some ((((m + 1) * fin.length : Nat) : Int), true) := by
      unfold impl_CountFoldings.f impl_foldings.f slices_SortFunc_int_int_at_slices_Compare_int_int.f
      rw [iIn_val', decide_eq_true h, Option.bind_some, if_pos rfl, if_pos (by omega), show ((m : Int) + 1).toNat - 1 = m by omega, hg, Option.bind_some, if_pos (by omega), Option.bind_some, SortL.sortL_length, hgl]
    obtain ⟨k, hk⟩ : ∃ k, k = K + 4000 := ⟨_, rfl⟩
    have hs : spec_CountFoldings.f k ((m : Int) + 1) = some ((((m + 1) * fin.length : Nat) : Int), true) := by
      unfold spec_CountFoldings.f spec_spStamps.f spec_spTop.f
      have h2 : spec_spTop.l0 k ((m : Int) + 1) [[0]] 1 = some fin := hK k (by omega)
      rw [sIn_val', decide_eq_true h, Option.bind_some]
      simp only [Option.bind_some, if_true]
      rw [h2, Option.bind_some]
      have e : ((m : Int) + 1) * (fin.length : Int) = (((m + 1) * fin.length : Nat) : Int) := by
        rw [Int.natCast_mul, Int.natCast_add]; rfl
      rw [hgl] at hlt
      rw [e, wrap_id (by omega) (by omega)]
    obtain ⟨d, hd⟩ : ∃ d, k = 3000 + d := ⟨k - 3000, by omega⟩
    have hi2 : impl_CountFoldings.f k ((m : Int) + 1) = some ((((m + 1) * fin.length : Nat) : Int), true) := by
      rw [hd]
      exact up' (g := fun k => impl_CountFoldings.f k ((m : Int) + 1)) (fun k => impl_CountFoldings.mono _ k) hi d
    refine ⟨k, ?_⟩
    unfold laws_FnExactCountFoldings.f
    rw [hs, hi2, Option.bind_some, Option.bind_some, if_pos rfl]
    rfl
  · refine ⟨1, ?_⟩
    unfold laws_FnExactCountFoldings.f spec_CountFoldings.f impl_CountFoldings.f spec_spStamps.f
    rw [sIn_val', iIn_val', decide_eq_false h]
    rfl

end Go.Proofs.Ytjgkcknopnollaa.Pure
