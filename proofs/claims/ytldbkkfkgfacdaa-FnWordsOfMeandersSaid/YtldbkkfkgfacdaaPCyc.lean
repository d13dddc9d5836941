/- The cycle and the positions of a meander's word, told outright. -/
import Derived.Test.YtldbkkfkgfacdaaPN3
import Derived.Test.YtldbkkfkgfacdaaQD0
set_option linter.unusedVariables false
set_option linter.unusedSimpArgs false
namespace Go.Proofs.Ytldbkkfkgfacdaa.Pure
open Go.RowKit Go.Proofs.Ytldbkkfkgfacdaa.P Go.Proofs.YtldbkkfkgfacdaaW.PrintWords Go.Proofs.YtldbkkfkgfacdaaW.PrintLast Go.Proofs.YtldbkkfkgfacdaaW.PrintMore

def evens (x : List Int) : List Int := x.map fun v => Int.tmod v 2
theorem pos_l0 (l : List Int) (hl : l.length ≤ 12) (hw : wordB l = true) (d : Nat) : ∀ (i : Nat) (x : List Int), i + d = l.length → x.length = l.length → (∀ j, j < i → x.getD (wv l j) 0 = (j : Int)) →
    ∃ r, r.length = l.length ∧ (∀ j, j < l.length → r.getD (wv l j) 0 = (j : Int)) ∧ ∀ k, d < k → spec_PositionsOf.l0 k (evens x) l (l.length : Int) (i : Int) = some (evens r, true) ∧ impl_inverse.l0 k x l (l.length : Int) (i : Int) = some r := by
  induction d with
  | zero =>
    intro i x hi hx hv
    refine ⟨x, hx, fun j hj => hv j (by omega), fun k hk => ?_⟩
    obtain ⟨k, rfl⟩ : ∃ m, k = m + 1 := ⟨k - 1, by omega⟩
    rw [spec_PositionsOf.l0, impl_inverse.l0, if_neg (by omega), if_neg (by omega)]
    exact ⟨rfl, rfl⟩
  | succ d ih =>
    intro i x hi hx hv
    have hr := wordB_in hw i (by omega)
    obtain ⟨ve, vl⟩ := wv_val hw i (by omega)
    have hri : (rd l (i : Int)).toNat = wv l i := by rw [rd_nat]; rfl
    obtain ⟨r, h1, h3, h2⟩ := ih (i + 1) (x.set (rd l (i : Int)).toNat (i : Int)) (by omega) (by simpa using hx) (fun j hj => by
      rw [hri, getD_set _ _ _ _ (by omega)]
      by_cases e : j = i
      · subst e; rw [if_pos rfl]
      · rw [if_neg (fun c => e (wv_inj hw j i (by omega) (by omega) c))]; exact hv j (by omega))
    refine ⟨r, h1, h3, fun k hk => ?_⟩
    obtain ⟨k, rfl⟩ : ∃ m, k = m + 1 := ⟨k - 1, by omega⟩
    have c1 : (i : Int) < (l.length : Int) := by omega
    have c2 : (0 : Int) ≤ (i : Int) := by omega
    have c3 : 0 ≤ rd l (i : Int) := hr.1
    have c4 : rd l (i : Int) < (x.length : Int) := by omega
    have c5 : rd l (i : Int) < ((evens x).length : Int) := by simp [evens]; omega
    have e : (evens x).set (rd l (i : Int)).toNat (Int.tmod (i : Int) 2) = evens (x.set (rd l (i : Int)).toNat (i : Int)) := by simp [evens, List.map_set]
    rw [spec_PositionsOf.l0, impl_inverse.l0]
    simp only [c1, c2, c3, c4, c5, if_true, e]
    rw [wrap_succ (by omega)]
    exact h2 k (by omega)
theorem even_l0 (r : List Int) (hl : r.length ≤ 12) (d : Nat) : ∀ (k i : Nat), i + d = r.length → d < k →
    impl_PositionsOf.l0 k ((evens r).take i) r (r.length : Int) (i : Int) = some (evens r, true) := by
  have hll : (evens r).length = r.length := by simp [evens]
  induction d with
  | zero =>
    intro k i hi hk
    obtain ⟨k, rfl⟩ : ∃ m, k = m + 1 := ⟨k - 1, by omega⟩
    rw [impl_PositionsOf.l0, if_neg (by omega), List.take_of_length_le (by omega)]
  | succ d ih =>
    intro k i hi hk
    obtain ⟨k, rfl⟩ : ∃ m, k = m + 1 := ⟨k - 1, by omega⟩
    have e : (evens r).take i ++ [Int.tmod (rd r (i : Int)) 2] = (evens r).take (i + 1) := by
      rw [List.take_add_one, rd_get (show i < r.length by omega)]
      simp [evens, show i < r.length by omega]
    rw [impl_PositionsOf.l0, if_pos (by omega), if_pos (by omega), if_pos (by omega), if_pos (by simp; omega), e, wrap_succ (by omega)]
    exact ih k (i + 1) (by omega) (by omega)
theorem pos_no (l : List Int) (hl : l.length ≤ 1000) (hp : closedB l = false) (k : Nat) (hk : 3000 ≤ k) : spec_PositionsOf.f k l = some ([], false) ∧ impl_PositionsOf.f k l = some ([], false) := by
  unfold spec_PositionsOf.f impl_PositionsOf.f
  rw [peClosed_ev l (by omega) k (by omega), isMeanderWord_ev l k (by omega), hp]
  exact ⟨rfl, rfl⟩
theorem pos_yes (l : List Int) (hp : closedB l = true) : ∃ r : List Int, r.length = l.length ∧ (∀ j, j < l.length → r.getD (wv l j) 0 = (j : Int)) ∧ ∀ k, 3000 ≤ k → spec_PositionsOf.f k l = some (evens r, true) ∧ impl_PositionsOf.f k l = some (evens r, true) := by
  have hl := ptsB_len (closedB_pts hp)
  obtain ⟨r, h1, h6, h2⟩ := pos_l0 l hl (ptsB_word (closedB_pts hp)) l.length 0 (List.replicate l.length 0) (by omega) (by simp) (fun j hj => by omega)
  refine ⟨r, h1, h6, fun k hk => ?_⟩
  obtain ⟨h3, h4⟩ := h2 k (by omega)
  have h5 := even_l0 r (by omega) r.length k 0 (by omega) (by omega)
  have ez : evens (List.replicate l.length 0) = List.replicate l.length 0 := by simp [evens]
  rw [Int.natCast_zero] at h3 h4 h5
  rw [ez] at h3
  rw [List.take_zero] at h5
  unfold spec_PositionsOf.f impl_PositionsOf.f impl_inverse.f
  rw [peClosed_ev l (by omega) k (by omega), isMeanderWord_ev l k (by omega), hp]
  simp only [Option.bind_some, if_true]
  have c1 : (0 : Int) ≤ (l.length : Int) := by omega
  have c2 : l.length ≤ 35184372088832 := by omega
  simp only [c1, c2, if_true, Int.toNat_natCast, h3, h4, Option.bind_some, h5, and_self]
theorem cyc_l0 (l : List Int) (hl : 1 ≤ l.length ∧ l.length ≤ 12) (hw : wordB l = true) (d : Nat) : ∀ (i : Nat) (x : List Int), i + d = l.length → x.length = l.length → (∀ j, j < i → x.getD (wv l j) 0 = l.getD ((j + 1) % l.length) 0) →
    ∃ r, r.length = l.length ∧ (∀ j, j < l.length → r.getD (wv l j) 0 = l.getD ((j + 1) % l.length) 0) ∧ ∀ k, d < k → spec_CycleOf.l0 k l x l (l.length : Int) (i : Int) = some (r, true) ∧ impl_CycleOf.l0 k l x l (l.length : Int) (i : Int) = some (r, true) := by
  induction d with
  | zero =>
    intro i x hi hx hv
    refine ⟨x, hx, fun j hj => hv j (by omega), fun k hk => ?_⟩
    obtain ⟨k, rfl⟩ : ∃ m, k = m + 1 := ⟨k - 1, by omega⟩
    rw [spec_CycleOf.l0, impl_CycleOf.l0, if_neg (by omega), if_neg (by omega)]
    exact ⟨rfl, rfl⟩
  | succ d ih =>
    intro i x hi hx hv
    have hr := wordB_in hw i (by omega)
    have hri : (rd l (i : Int)).toNat = wv l i := by rw [rd_nat]; rfl
    have hm : Int.tmod ((i + 1 : Nat) : Int) (l.length : Int) = (((i + 1) % l.length : Nat) : Int) := by rw [Int.tmod_eq_emod_of_nonneg (by omega)]; omega
    have hml : (i + 1) % l.length < l.length := Nat.mod_lt _ (by omega)
    obtain ⟨r, h1, h3, h2⟩ := ih (i + 1) (x.set (rd l (i : Int)).toNat (rd l (((i + 1) % l.length : Nat) : Int))) (by omega) (by simpa using hx) (fun j hj => by
      rw [hri, getD_set _ _ _ _ (by have := (wv_val hw i (by omega)).2; omega)]
      by_cases e : j = i
      · subst e; rw [if_pos rfl, rd_nat]
      · rw [if_neg (fun c => e (wv_inj hw j i (by omega) (by omega) c))]; exact hv j (by omega))
    refine ⟨r, h1, h3, fun k hk => ?_⟩
    obtain ⟨k, rfl⟩ : ∃ m, k = m + 1 := ⟨k - 1, by omega⟩
    have c1 : (i : Int) < (l.length : Int) := by omega
    have c2 : (0 : Int) ≤ (i : Int) := by omega
    have c3 : 0 ≤ rd l (i : Int) := hr.1
    have c4 : rd l (i : Int) < (x.length : Int) := by omega
    have c5 : ¬ (l.length : Int) = 0 := by omega
    have c6 : (0 : Int) ≤ (((i + 1) % l.length : Nat) : Int) := by omega
    have c7 : (((i + 1) % l.length : Nat) : Int) < (l.length : Int) := by omega
    rw [spec_CycleOf.l0, impl_CycleOf.l0, wrap_succ (by omega), hm]
    simp only [if_pos c1, if_pos c2, if_pos c3, if_pos c4, if_neg c5, if_pos c6, if_pos c7]
    exact h2 k (by omega)
theorem cyc_no (a b : List Int) (ha : a.length ≤ 1000) (hb : b.length ≤ 1000) (h : meander a b = false) (k : Nat) (hk : 4000 ≤ k) : spec_CycleOf.f k a b = some ([], false) ∧ impl_CycleOf.f k a b = some ([], false) := by
  have hp := perm_ev a b (by omega) (by omega) k (by omega)
  unfold spec_CycleOf.f impl_CycleOf.f
  rw [peSingle_ev a b (by omega) (by omega) k (by omega), hp, h]
  exact ⟨rfl, rfl⟩
theorem cyc_yes (a b : List Int) (h : meander a b = true) : ∃ r, r.length = (word a b).length ∧ (∀ j, j < (word a b).length → r.getD (wv (word a b) j) 0 = (word a b).getD ((j + 1) % (word a b).length) 0) ∧ ∀ k, 4000 ≤ k → spec_CycleOf.f k a b = some (r, true) ∧ impl_CycleOf.f k a b = some (r, true) := by
  obtain ⟨hwl, hcl, _, _⟩ := meander_closed h
  obtain ⟨hP, h0, hall⟩ := meander_one h
  have hn := (good_len hP.gp).1
  have h2 := hcl.len
  obtain ⟨r, h1, h3, h4⟩ := cyc_l0 (word a b) (by omega) hcl.word (word a b).length 0 (List.replicate (word a b).length 0) (by omega) (by simp) (fun j hj => by omega)
  refine ⟨r, h1, h3, fun k hk => ?_⟩
  obtain ⟨h5, h6⟩ := h4 k (by omega)
  have hp := perm_ev a b (by have := hP.len; omega) (by have := hP.len; omega) k (by have := hP.len; omega)
  have hs := sway_ev hP 0 h0 k (by omega)
  have hs2 : spec_meWay.f k a b 0 = some (word a b) := hs
  rw [Int.natCast_zero] at h5 h6
  unfold spec_CycleOf.f impl_CycleOf.f
  rw [peSingle_ev a b (by have := hP.len; omega) (by have := hP.len; omega) k (by have := hP.len; omega), hp, h, Option.bind_some, if_pos rfl, if_pos rfl, hs2, Option.bind_some, Option.bind_some]
  have c1 : (0 : Int) ≤ ((word a b).length : Int) := by omega
  have c2 : (word a b).length ≤ 35184372088832 := by omega
  simp only [if_pos c1, Int.toNat_natCast, if_pos c2, if_true, h5, h6, and_self]
theorem isPerm_ans (l : List Int) (hl : l.length ≤ 1000) (k : Nat) (hk : 3000 ≤ k) : spec_IsPermutation.f k l = some (closedB l, decide ((l.length : Int) ≤ 12)) ∧ impl_IsPermutation.f k l = some (closedB l, decide ((l.length : Int) ≤ 12)) := by
  unfold spec_IsPermutation.f impl_IsPermutation.f
  rw [isMeanderWord_ev l k (by omega), peClosed_ev l (by omega) k (by omega)]
  refine ⟨?_, rfl⟩
  by_cases h12 : l.length ≤ 12
  · rw [if_neg (by omega), decide_eq_true (show (l.length : Int) ≤ 12 by omega)]; rfl
  · have : closedB l = false := by
      cases hc : closedB l with
      | false => rfl
      | true => exact absurd (ptsB_len (closedB_pts hc)) h12
    rw [if_pos (by omega), this, decide_eq_false (show ¬ (l.length : Int) ≤ 12 by omega)]
theorem crossing_closed (l : List Int) (hp : closedB l = true) (k : Nat) (hk : 2000 ≤ k) : impl_CrossingOf.f k l = some ([], false) := by
  have hpt := closedB_pts hp
  have hc : (crs l).1 = [] := by
    unfold closedB openB at hp
    simp only [Bool.and_eq_true, decide_eq_true_eq] at hp
    exact hp.1.2
  unfold impl_CrossingOf.f
  rw [isPoints_ev l k (by omega), hpt, Option.bind_some, if_pos rfl, icrossing_ev l (ptsB_len hpt) k (by omega), hc]; rfl

end Go.Proofs.Ytldbkkfkgfacdaa.Pure
