/- The law FnExactCycleOf, as plain lists tell it: at every pair of slices of whole numbers the program's CycleOf answers what the reference's does, and what it answers is of its own. No condition but the law's own guard. -/
import Derived.Test.YtnhegojnbdcpdaaPPermI
import Derived.Test.YtnhegojnbdcpdaaXC4
import Derived.Test.YtnhegojnbdcpdaaXC6
import Derived.Test.YtnhegojnbdcpdaaXC7
set_option linter.unusedVariables false
set_option linter.unusedSimpArgs false
namespace Go.Proofs.Ytnhegojnbdcpdaa.Pure
open Go.RowKit Go.Proofs.Ytnhegojnbdcpdaa.XC Go.Proofs.YtnhegojnbdcpdaaW.PrintWords Go.Proofs.YtnhegojnbdcpdaaW.PrintLast Go.Proofs.YtnhegojnbdcpdaaW.PrintMore

theorem cycle_same (k : Nat) : ∀ w x y n i, impl_CycleOf.l0 k w x y n i = spec_CycleOf.l0 k w x y n i := by
  induction k with
  | zero => intros; rfl
  | succ k ih => intro w x y n i; simp only [impl_CycleOf.l0, spec_CycleOf.l0, ih]
theorem word_full (n : Nat) : ∀ (w : List Nat), (∀ j, j < n → j ∈ w) → n ≤ w.length := by
  induction n with
  | zero => intros; omega
  | succ n ih =>
    intro w h
    have hm := h n (by omega)
    have h1 := ih (w.erase n) (fun j hj => (List.mem_erase_of_ne (by omega)).2 (h j (by omega)))
    have h2 := List.length_erase_of_mem hm
    have h3 := List.length_pos_of_mem hm
    omega
theorem cycle_l0 (w : List Nat) (hw : ∀ x ∈ w, x < w.length) (hl : w.length ≤ 1000) (d : Nat) : ∀ (k i : Nat) (x : List Int), i + d = w.length → x.length = w.length → d < k →
    ∃ r, spec_CycleOf.l0 k (ints w) x (ints w) (w.length : Int) (i : Int) = some (r, true) ∧ r.length = w.length := by
  induction d with
  | zero =>
    intro k i x hi hx hk
    obtain ⟨k, rfl⟩ : ∃ m, k = m + 1 := ⟨k - 1, by omega⟩
    rw [spec_CycleOf.l0, if_neg (by omega)]
    exact ⟨x, rfl, hx⟩
  | succ d ih =>
    intro k i x hi hx hk
    obtain ⟨k, rfl⟩ : ∃ m, k = m + 1 := ⟨k - 1, by omega⟩
    have hlt : i < w.length := by omega
    have hwi := hw w[i] (List.getElem_mem hlt)
    have hm := Int.tmod_lt_of_pos ((i + 1 : Nat) : Int) (show (0 : Int) < (w.length : Int) by omega)
    have hm0 := Int.tmod_nonneg (a := ((i + 1 : Nat) : Int)) (w.length : Int) (by omega)
    rw [spec_CycleOf.l0, if_pos (by omega), if_pos (by omega), if_pos (by rw [ints_length]; omega), if_neg (by rw [ints_length]; omega), wrap_succ (by omega), ints_length, if_pos hm0, if_pos hm, rd_ints w i hlt, if_pos (by omega), if_pos (by omega)]
    exact ih k (i + 1) _ (by omega) (by simpa using hx) (by omega)
theorem both_ev (a b : List Int) (ha : a.length ≤ 1048576) (hb : b.length ≤ 1048576) : ∃ (r1 : List Int) (r3 : Bool), r1.length ≤ 24 ∧ ∀ k, a.length + b.length + 1000 ≤ k → spec_CycleOf.f k a b = some (r1, r3) ∧ impl_CycleOf.f k a b = some (r1, r3) := by
  cases h : meander a b with
  | false =>
    refine ⟨[], false, by simp, fun k hk => ?_⟩
    have hp := perm_ev a b ha hb k hk
    unfold spec_CycleOf.f impl_CycleOf.f
    rw [peSingle_ev a b ha hb k hk, hp, h]
    exact ⟨rfl, rfl⟩
  | true =>
    obtain ⟨hP, h0, hall⟩ := meander_one h
    have hwl := word_len h
    have hn := (good_len hP.gp).1
    obtain ⟨w, hw⟩ : ∃ w, w = wayOf (qof a) (qof b) a.length 0 := ⟨_, rfl⟩
    have hword : word a b = ints w := by rw [hw]; rfl
    rw [← hw] at hall
    have hfull := word_full _ w hall
    have hlt : ∀ x ∈ w, x < w.length := fun x hx => by have := hP.two.way_lt 0 h0 x (by rw [← hw]; exact hx); omega
    rw [hword, ints_length] at hwl
    obtain ⟨r, hr, hrl⟩ := cycle_l0 w hlt (by omega) w.length 900 0 (List.replicate w.length 0) (by omega) (by simp) (by omega)
    refine ⟨r, true, by omega, fun k hk => ?_⟩
    have hr' : spec_CycleOf.l0 k (ints w) (List.replicate w.length 0) (ints w) (w.length : Int) 0 = some (r, true) :=
      at_rounds (g := fun k => spec_CycleOf.l0 k (ints w) (List.replicate w.length 0) (ints w) (w.length : Int) 0) (fun k => spec_CycleOf.mono_l k _ _ _ _ _) (by omega : 900 ≤ k) hr
    have hp := perm_ev a b ha hb k hk
    have hs := sway_ev hP 0 h0 k (by omega)
    rw [show ((0 : Nat) : Int) = 0 from rfl, ← hw] at hs
    unfold spec_CycleOf.f impl_CycleOf.f
    rw [peSingle_ev a b ha hb k hk, hp, h]
    simp only [Option.bind_some, if_true, hs, hword, ints_length]
    rw [if_pos (by omega), if_pos (by omega), if_pos (by omega), if_pos (by omega), Int.toNat_natCast, cycle_same, hr']
    exact ⟨rfl, rfl⟩

theorem FnExactCycleOf : laws_FnExactCycleOf.Pure := by
  intro a b ha _ hb _
  by_cases h : a.length + b.length ≤ 1048576
  · obtain ⟨r1, r3, hn1, hr⟩ := both_ev a b (by omega) (by omega)
    have hs : ∀ k, a.length + b.length + 1000 ≤ k → spec_CycleOf.f k a b = some (r1, r3) := fun k hk => (hr k hk).1
    have hi : ∀ k, a.length + b.length + 1000 ≤ k → impl_CycleOf.f k a b = some (r1, r3) := fun k hk => (hr k hk).2
    have M1 := fun k hk => markMeander_ev a b (by omega) (by omega) k hk
    have M2 := fun k hk => markIntS_ev r1 1 (by omega) (by omega) k hk
    have H2 := fun k hk => heldIntS_ev r1.length 1 (by omega) (by omega) k hk
    have T1 := fun k hk => toMeander_ev a b (by omega) (by omega) k hk
    have E1 := fun k hk => eqMeander_ev a b (by omega) (by omega) k hk
    have E2 := fun k hk => eqIntS_ev r1 (by omega) k hk
    simp only [Int.natCast_one] at M2 H2
    obtain ⟨n, hn0⟩ : ∃ n, n = a.length + b.length + 2000 := ⟨_, rfl⟩
    have N1 : ¬ ((1 + a.length + b.length : Nat) : Int) < 0 := by omega
    have N2 : ¬ ((1 + r1.length : Nat) : Int) < 0 := by omega
    refine ⟨n + 4, ?_⟩
    unfold laws_FnExactCycleOf.f
    rw [szMeander_val a b ha hb, if_pos h, Option.bind_some, if_neg (by omega)]
    simp (disch := omega) only [T1, hs, hi, E2, Option.bind_some, if_true, bne_self_eq_false]
    rw [laws_FnExactCycleOf.j0]
    simp (disch := omega) only [T1, E1, M1, N1, E2, Option.bind_some, if_true, if_false, bne_self_eq_false, Bool.false_eq_true]
    rw [laws_FnExactCycleOf.j1]
    simp (disch := omega) only [T1, hi, M2, H2, N2, E2, Option.bind_some, if_true, if_false, bne_self_eq_false, Bool.false_eq_true]
    rw [laws_FnExactCycleOf.j2]
    simp (disch := omega) only [H2, N2, Option.bind_some, if_true, if_false, Bool.false_eq_true]
  · refine ⟨1, ?_⟩
    unfold laws_FnExactCycleOf.f
    rw [szMeander_val a b ha hb, if_neg h, Option.bind_some, if_pos (by omega)]

end Go.Proofs.Ytnhegojnbdcpdaa.Pure
