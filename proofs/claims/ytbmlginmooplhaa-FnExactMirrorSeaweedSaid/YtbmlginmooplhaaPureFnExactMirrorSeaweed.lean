/- The law FnExactMirrorSeaweed, as plain lists tell it: at every pair of slices of whole numbers the program's MirrorSeaweed answers what the reference's does, and what it answers is of its own. No condition but the law's own guard. -/
import Derived.Test.YtbmlginmooplhaaPWeed2
import Derived.Test.YtbmlginmooplhaaPRev
import Derived.Test.YtbmlginmooplhaaX2
import Derived.Test.YtbmlginmooplhaaX5
import Derived.Test.YtbmlginmooplhaaX6
import Derived.Test.YtbmlginmooplhaaX7
set_option linter.unusedVariables false
set_option linter.unusedSimpArgs false
namespace Go.Proofs.Ytbmlginmooplhaa.Pure
open Go.RowKit Go.Proofs.Ytbmlginmooplhaa.X Go.Proofs.YtbmlginmooplhaaW.PrintWords Go.Proofs.YtbmlginmooplhaaW.PrintLast Go.Proofs.YtbmlginmooplhaaW.PrintMore

theorem clone_val (l : List Int) (h : l.length ≤ 20) : slices_Clone_int_int.f l = some l := by
  unfold slices_Clone_int_int.f
  rw [if_pos (by omega)]
theorem back_l0 (l : List Int) (h : l.length ≤ 20) (d : Nat) : ∀ (k : Nat), d ≤ l.length → d < k →
    spec_swBack.l0 k l ((l.drop d).reverse) ((d : Int) - 1) = some l.reverse := by
  induction d with
  | zero =>
    intro k _ hk
    obtain ⟨k, rfl⟩ : ∃ m, k = m + 1 := ⟨k - 1, by omega⟩
    rw [spec_swBack.l0, if_neg (by omega)]; rfl
  | succ d ih =>
    intro k hd hk
    obtain ⟨k, rfl⟩ : ∃ m, k = m + 1 := ⟨k - 1, by omega⟩
    have e : ((d + 1 : Nat) : Int) - 1 = (d : Int) := by omega
    rw [e, spec_swBack.l0, if_pos (by omega), if_pos (by omega), if_pos (by omega), if_pos (by simp; omega), rd_get (by omega), wrap_id (by omega) (by omega)]
    have e2 : (l.drop (d + 1)).reverse ++ [l[d]] = (l.drop d).reverse := by
      rw [List.drop_eq_getElem_cons (by omega : d < l.length), List.reverse_cons]
    rw [e2]
    exact ih k (by omega) (by omega)
theorem back_ev (l : List Int) (h : l.length ≤ 20) (k : Nat) (hk : 30 ≤ k) : spec_swBack.f k l = some l.reverse := by
  unfold spec_swBack.f
  have := back_l0 l h l.length k (by omega) (by omega)
  rw [List.drop_length, List.reverse_nil] at this
  rw [wrap_id (by omega) (by omega)]
  exact this
theorem both_ev (a b : List Int) (ha : a.length ≤ 1048576) (hb : b.length ≤ 1048576) : ∃ (r1 r2 : List Int) (r3 : Bool), r1.length ≤ 20 ∧ r2.length ≤ 20 ∧ ∀ k, a.length + b.length + 100 ≤ k → spec_MirrorSeaweed.f k a b = some (r1, r2, r3) ∧ impl_MirrorSeaweed.f k a b = some (r1, r2, r3) := by
  cases h : weed a b with
  | false =>
    refine ⟨[], [], false, by simp, by simp, fun k hk => ?_⟩
    unfold spec_MirrorSeaweed.f impl_MirrorSeaweed.f
    rw [swGood_ev a b ha hb k (by omega), isSeaweed_ev a b ha hb k (by omega), h]
    exact ⟨rfl, rfl⟩
  | true =>
    obtain ⟨h1, h2⟩ := weed_len h
    refine ⟨a.reverse, b.reverse, true, by simpa using h1, by simpa using h2, fun k hk => ?_⟩
    unfold spec_MirrorSeaweed.f impl_MirrorSeaweed.f
    rw [swGood_ev a b ha hb k (by omega), isSeaweed_ev a b ha hb k (by omega), h, clone_val a h1, clone_val b h2, back_ev a h1 k (by omega), back_ev b h2 k (by omega)]
    simp only [if_true, Option.bind_some]
    rw [rev_ev a ha k (by omega), rev_ev b hb k (by omega)]
    simp only [Option.bind_some, and_self]
theorem FnExactMirrorSeaweed : laws_FnExactMirrorSeaweed.Pure := by
  intro a b ha _ hb _
  by_cases h : a.length + b.length ≤ 1048576
  · obtain ⟨r1, r2, r3, hn1, hn2, hr⟩ := both_ev a b (by omega) (by omega)
    have hs : ∀ k, a.length + b.length + 100 ≤ k → spec_MirrorSeaweed.f k a b = some (r1, r2, r3) := fun k hk => (hr k hk).1
    have hi : ∀ k, a.length + b.length + 100 ≤ k → impl_MirrorSeaweed.f k a b = some (r1, r2, r3) := fun k hk => (hr k hk).2
    have M1 := fun k hk => markSeaweed_ev a b (by omega) (by omega) k hk
    have M2 := fun k hk => markSeaweed_ev r1 r2 (by omega) (by omega) k hk
    have H2 := fun k hk => heldSeaweed_ev r1.length r2.length (by omega) (by omega) k hk
    have T1 := fun k hk => toSeaweed_ev a b (by omega) (by omega) k hk
    have E1 := fun k hk => eqSeaweed_ev a b (by omega) (by omega) k hk
    have E2 := fun k hk => eqSeaweed_ev r1 r2 (by omega) (by omega) k hk
    obtain ⟨n, hn0⟩ : ∃ n, n = a.length + b.length + 2000 := ⟨_, rfl⟩
    have N1 : ¬ ((1 + a.length + b.length : Nat) : Int) < 0 := by omega
    have N2 : ¬ ((1 + r1.length + r2.length : Nat) : Int) < 0 := by omega
    refine ⟨n + 4, ?_⟩
    unfold laws_FnExactMirrorSeaweed.f
    rw [szSeaweed_val a b ha hb, if_pos h, Option.bind_some, if_neg (by omega)]
    simp (disch := omega) only [T1, hs, hi, E2, Option.bind_some, if_true, bne_self_eq_false]
    rw [laws_FnExactMirrorSeaweed.j0]
    simp (disch := omega) only [T1, E1, M1, N1, E2, Option.bind_some, if_true, if_false, bne_self_eq_false, Bool.false_eq_true]
    rw [laws_FnExactMirrorSeaweed.j1]
    simp (disch := omega) only [T1, hi, M2, H2, N2, E2, Option.bind_some, if_true, if_false, bne_self_eq_false, Bool.false_eq_true]
    rw [laws_FnExactMirrorSeaweed.j2]
    simp (disch := omega) only [H2, N2, Option.bind_some, if_true, if_false, Bool.false_eq_true]
  · refine ⟨1, ?_⟩
    unfold laws_FnExactMirrorSeaweed.f
    rw [szSeaweed_val a b ha hb, if_neg h, Option.bind_some, if_pos (by omega)]

end Go.Proofs.Ytbmlginmooplhaa.Pure
