/- The law FnExactClosedToOpen, as plain lists tell it: at every pair of slices of whole numbers the program's ClosedToOpen answers what the reference's does, and what it answers is of its own. No condition but the law's own guard. -/
import Derived.Test.YteflkoghligofaaPPermI
import Derived.Test.YteflkoghligofaaHClosedToOpenW
import Derived.Test.YteflkoghligofaaC2
import Derived.Test.YteflkoghligofaaC3
import Derived.Test.YteflkoghligofaaC4
set_option linter.unusedVariables false
set_option linter.unusedSimpArgs false
namespace Go.Proofs.Yteflkoghligofaa.Pure
open Go.RowKit Go.Proofs.Yteflkoghligofaa.C Go.Proofs.YteflkoghligofaaW.PrintWords Go.Proofs.YteflkoghligofaaW.PrintLast Go.Proofs.YteflkoghligofaaW.PrintMore

theorem own_val (l : List Int) (h : l.length ≤ 30) : spec_l1Own.f l = some l := by
  unfold spec_l1Own.f
  rw [Option.bind_some, if_pos (by simp; omega)]; rfl
theorem both_ev (a b : List Int) (ha : a.length ≤ 1048576) (hb : b.length ≤ 1048576) : ∃ (full r : List Int) (q : Bool), full.length ≤ 24 ∧ r.length ≤ full.length ∧ full.take r.length = r ∧ ∀ k, a.length + b.length + 1000 ≤ k → spec_ClosedToOpen.f k a b = some (r, q) ∧ CutTold k a b full r.length q := by
  cases h : meander a b with
  | false =>
    refine ⟨[], [], false, by simp, by simp, rfl, fun k hk => ?_⟩
    have hp := perm_ev a b ha hb k hk
    rw [h] at hp
    refine ⟨?_, .inl ⟨rfl, rfl, rfl, .inl (by simpa using hp)⟩⟩
    unfold spec_ClosedToOpen.f
    rw [peSingle_ev a b ha hb k hk, h]; rfl
  | true =>
    obtain ⟨hP, h0, hall⟩ := meander_one h
    have hwl := word_len h
    obtain ⟨R, hR⟩ : ∃ R, R = word a b := ⟨_, rfl⟩
    have hs := fun k hk => sway_ev hP 0 h0 k hk
    have hne : 1 ≤ R.length := by
      have h1 := List.length_pos_of_mem (hall 0 h0)
      rw [hR]; unfold word; rw [ints_length]; omega
    obtain ⟨m, hm⟩ : ∃ m, R.length = m + 1 := ⟨R.length - 1, by omega⟩
    rw [← hR] at hwl
    have hw : wrap64 ((R.length : Int) - 1) = (m : Int) := by rw [wrap_id (by omega) (by omega)]; omega
    have hspec : ∀ k, a.length + b.length + 1000 ≤ k → spec_ClosedToOpen.f k a b = if rd R (m : Int) = (m : Int) then some (R.take m, true) else some ([], false) := by
      intro k hk
      have h1 := hs k (by omega)
      rw [Int.natCast_zero] at h1
      unfold spec_ClosedToOpen.f
      rw [peSingle_ev a b ha hb k hk, h, Option.bind_some, if_pos rfl, h1, Option.bind_some]
      rw [show ints (wayOf (qof a) (qof b) a.length 0) = R from hR.symm]
      rw [hw, if_pos (by omega), if_pos (by omega)]
      by_cases hc : rd R (m : Int) = (m : Int)
      · rw [if_pos hc, if_pos hc, if_pos (by omega), Int.toNat_natCast, own_val _ (by rw [List.length_take]; omega)]; rfl
      · rw [if_neg hc, if_neg hc]
    have himpl : ∀ k, a.length + b.length + 1000 ≤ k → impl_PermutationOf.f k a b = some (R, true) := by
      intro k hk
      have hp := perm_ev a b ha hb k hk
      rw [h] at hp
      rw [hR]; simpa using hp
    have hrd : rd R (m : Int) = R.getD m 0 := rd_nat R m
    by_cases hc : rd R (m : Int) = (m : Int)
    · have hl : (R.take m).length = m := by rw [List.length_take]; omega
      refine ⟨R, R.take m, true, by omega, by rw [hl]; omega, by rw [hl], fun k hk => ⟨by rw [hspec k hk, if_pos hc], .inr ⟨rfl, by rw [hl]; exact hm, by rw [hl, ← hrd]; exact hc, by rw [hl]; omega, himpl k hk⟩⟩⟩
    · refine ⟨[], [], false, by simp, by simp, rfl, fun k hk => ⟨by rw [hspec k hk, if_neg hc], .inl ⟨rfl, rfl, rfl, .inr ⟨R, m, himpl k hk, hm, by rw [← hrd]; exact hc, by omega⟩⟩⟩⟩
theorem FnExactClosedToOpen : laws_FnExactClosedToOpen.Pure := by
  intro a b ha _ hb _
  by_cases h : a.length + b.length ≤ 1048576
  case neg => exact ⟨1, .inl ⟨-1, by rw [szMeander_val a b ha hb, if_neg h], by omega⟩⟩
  obtain ⟨full, r, q, h24, hle, ht, hr⟩ := both_ev a b (by omega) (by omega)
  obtain ⟨n, hn⟩ : ∃ n, n = a.length + b.length + 2000 := ⟨_, rfl⟩
  obtain ⟨hs, hi⟩ := hr n (by omega)
  have M2 := markIntS_ev r 1 (by omega) (by omega) n (by omega)
  have H2 := heldIntS_ev r.length 1 (by omega) (by omega) n (by omega)
  rw [Int.natCast_one] at M2 H2
  refine ⟨n, .inr ⟨_, full, r, q, _, _, _, _, _, by rw [szMeander_val a b ha hb, if_pos h], by omega, hi, ht, hle, hs, toMeander_ev a b (by omega) (by omega) n (by omega), eqIntS_ev r (by omega) n (by omega), eqMeander_ev a b (by omega) (by omega) n (by omega), markMeander_ev a b (by omega) (by omega) n (by omega), by omega, M2, marks_length 1 r.length, by omega, H2⟩⟩

end Go.Proofs.Yteflkoghligofaa.Pure
