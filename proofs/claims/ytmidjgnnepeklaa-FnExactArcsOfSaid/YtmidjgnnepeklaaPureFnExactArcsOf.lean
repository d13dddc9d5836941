/- The law FnExactArcsOf, as plain lists tell it: at every slice of whole numbers the program's ArcsOf answers what the reference's does, and what it answers is of its own. No condition but the law's own guard. -/
import Derived.Test.YtmidjgnnepeklaaPWeed
import Derived.Test.YtmidjgnnepeklaaX3
import Derived.Test.YtmidjgnnepeklaaX4
set_option linter.unusedVariables false
set_option linter.unusedSimpArgs false
namespace Go.Proofs.Ytmidjgnnepeklaa.Pure
open Go.RowKit Go.Proofs.Ytmidjgnnepeklaa.X Go.Proofs.YtmidjgnnepeklaaW.PrintWords Go.Proofs.YtmidjgnnepeklaaW.PrintLast Go.Proofs.YtmidjgnnepeklaaW.PrintMore

theorem arcs_same (l : List Int) (hl : l.length ≤ 20) (hp : ∀ x ∈ l, 1 ≤ x ∧ x ≤ 20) (k : Nat) :
    (∀ (x : List Int) (i : Nat), x.length ≤ 20 * i → i ≤ l.length → impl_arcs.l0 k x l (l.length : Int) (i : Int) = spec_swArcs.l0 k x (x.length : Int) l (l.length : Int) (i : Int)) ∧
    (∀ (x : List Int) (o j i : Nat) (m : Int), x.length = o + j → 1 ≤ m → m ≤ 20 → (j : Int) ≤ m → o ≤ 20 * i → i < l.length →
      impl_arcs.l1 k x m (o : Int) l (l.length : Int) (i : Int) m (j : Int) = spec_swArcs.l1 k x (o : Int) m (j : Int) l (l.length : Int) (i : Int)) := by
  induction k with
  | zero => exact ⟨fun _ _ _ _ => rfl, fun _ _ _ _ _ _ _ _ _ _ _ => rfl⟩
  | succ k ih =>
    obtain ⟨ih0, ih1⟩ := ih
    refine ⟨fun x i hx hi => ?_, fun x o j i m hx h1 h20 hj ho hi => ?_⟩
    · simp only [impl_arcs.l0, spec_swArcs.l0]
      by_cases h : (i : Int) < l.length
      · have hi' : i < l.length := by omega
        rw [if_pos h, if_pos h]
        have hm := hp l[i] (List.getElem_mem hi')
        rw [if_pos (by omega), if_pos (by omega), if_pos (by omega), if_pos (by omega), rd_get hi']
        have := ih1 x x.length 0 i l[i] (by omega) hm.1 hm.2 (by omega) hx hi'
        simpa using this
      · rw [if_neg h, if_neg h]
    · simp only [impl_arcs.l1, spec_swArcs.l1]
      by_cases h : (j : Int) < m
      · rw [if_pos h, if_pos h]
        have hb : x.length < 17592186044416 := by omega
        rw [if_pos hb, if_pos hb, wrap_succ (by omega)]
        exact ih1 _ o (j + 1) i m (by simp; omega) h1 h20 (by omega) ho hi
      · rw [if_neg h, if_neg h]
        have e : wrap64 ((o : Int) + m) = (x.length : Int) := by rw [wrap_id (by omega) (by omega)]; omega
        rw [e, wrap_succ (by omega)]
        exact ih0 x (i + 1) (by omega) (by omega)
theorem arcs_ends (l : List Int) (hl : l.length ≤ 20) (hp : ∀ x ∈ l, 1 ≤ x ∧ x ≤ 20) (e : Nat) :
    ∀ (k : Nat) (x : List Int) (i : Nat), 23 * e + 1 ≤ k → i + e = l.length → x.length ≤ 20 * i → ∃ r, spec_swArcs.l0 k x (x.length : Int) l (l.length : Int) (i : Int) = some r ∧ r.length ≤ 400 := by
  induction e with
  | zero =>
    intro k x i hk hi hx
    obtain ⟨k, rfl⟩ : ∃ m, k = m + 1 := ⟨k - 1, by omega⟩
    simp only [spec_swArcs.l0]
    rw [if_neg (by omega)]
    exact ⟨x, rfl, by omega⟩
  | succ e ih =>
    intro k x i hk hi hx
    obtain ⟨k, rfl⟩ : ∃ m, k = m + 1 := ⟨k - 1, by omega⟩
    simp only [spec_swArcs.l0]
    have hi' : i < l.length := by omega
    rw [if_pos (by omega), if_pos (by omega), if_pos (by omega), rd_get hi']
    have hm := hp l[i] (List.getElem_mem hi')
    have inner : ∀ (d k : Nat) (y : List Int) (j : Nat), d + 1 + (23 * e + 1) ≤ k → (j : Int) + d = l[i] → y.length = x.length + j →
        ∃ r, spec_swArcs.l1 k y (x.length : Int) l[i] (j : Int) l (l.length : Int) (i : Int) = some r ∧ r.length ≤ 400 := by
      intro d
      induction d with
      | zero =>
        intro k y j hk hj hy
        obtain ⟨k, rfl⟩ : ∃ m, k = m + 1 := ⟨k - 1, by omega⟩
        simp only [spec_swArcs.l1]
        rw [if_neg (by omega), show wrap64 ((x.length : Int) + l[i]) = (y.length : Int) by rw [wrap_id (by omega) (by omega)]; omega, wrap_succ (by omega)]
        exact ih k y (i + 1) (by omega) (by omega) (by omega)
      | succ d ihd =>
        intro k y j hk hj hy
        obtain ⟨k, rfl⟩ : ∃ m, k = m + 1 := ⟨k - 1, by omega⟩
        simp only [spec_swArcs.l1]
        rw [if_pos (by omega), if_pos (by omega), wrap_succ (by omega)]
        exact ihd k _ (j + 1) (by omega) (by omega) (by simp; omega)
    exact inner (l[i]).toNat k x 0 (by omega) (by omega) (by omega)
theorem arcs_ev (l : List Int) (h : parts l = true) : ∃ r : List Int, r.length ≤ 400 ∧ ∀ k, 1000 ≤ k → spec_swArcs.f k l = some r ∧ impl_arcs.f k l = some r := by
  have hl := parts_len h
  have hp := parts_in h
  obtain ⟨r, hr, hn⟩ := arcs_ends l hl hp l.length 1000 [] 0 (by omega) (by omega) (by simp)
  refine ⟨r, hn, fun k hk => ?_⟩
  have h1 : spec_swArcs.f k l = some r := by
    have : spec_swArcs.f 1000 l = some r := hr
    exact at_rounds (g := fun k => spec_swArcs.f k l) (fun k => spec_swArcs.mono l k) hk this
  refine ⟨h1, ?_⟩
  unfold impl_arcs.f
  rw [show (0 : Int) = ((0 : Nat) : Int) from rfl, (arcs_same l hl hp k).1 [] 0 (by simp) (by omega)]
  exact h1
theorem arcsOf_ev (l : List Int) (hl : l.length ≤ 1048576) : ∃ (r : List Int) (b : Bool), r.length ≤ 400 ∧ ∀ k, l.length + 1000 ≤ k → spec_ArcsOf.f k l = some (r, b) ∧ impl_ArcsOf.f k l = some (r, b) := by
  cases h : parts l with
  | false =>
    refine ⟨[], false, by simp, fun k hk => ?_⟩
    unfold spec_ArcsOf.f impl_ArcsOf.f
    rw [swParts_ev l hl k (by omega), areParts_ev l hl k (by omega), h]
    exact ⟨rfl, rfl⟩
  | true =>
    obtain ⟨r, hn, hr⟩ := arcs_ev l h
    refine ⟨r, true, hn, fun k hk => ?_⟩
    unfold spec_ArcsOf.f impl_ArcsOf.f
    rw [swParts_ev l hl k (by omega), areParts_ev l hl k (by omega), h, (hr k (by omega)).1, (hr k (by omega)).2]
    exact ⟨rfl, rfl⟩
theorem FnExactArcsOf : laws_FnExactArcsOf.Pure := by
  intro l hm _ _
  by_cases h : l.length ≤ 1048576
  · obtain ⟨r, b, hn, hr⟩ := arcsOf_ev l h
    have hs : ∀ k, l.length + 1000 ≤ k → spec_ArcsOf.f k l = some (r, b) := fun k hk => (hr k hk).1
    have hi : ∀ k, l.length + 1000 ≤ k → impl_ArcsOf.f k l = some (r, b) := fun k hk => (hr k hk).2
    have M1 := fun k hk => markIntS_ev l 1 h (by omega) k hk
    have M2 := fun k hk => markIntS_ev r 1 (by omega) (by omega) k hk
    have H2 := fun k hk => heldIntS_ev r.length 1 (by omega) (by omega) k hk
    have T1 := fun k hk => toIntS_ev l h k hk
    have E1 := fun k hk => eqIntS_ev l h k hk
    have E2 := fun k hk => eqIntS_ev r (by omega) k hk
    simp only [Int.natCast_one] at M1 M2 H2
    obtain ⟨n, hn0⟩ : ∃ n, n = l.length + 2000 := ⟨_, rfl⟩
    have N1 : ¬ ((1 + l.length : Nat) : Int) < 0 := by omega
    have N2 : ¬ ((1 + r.length : Nat) : Int) < 0 := by omega
    refine ⟨n + 4, ?_⟩
    unfold laws_FnExactArcsOf.f
    rw [if_neg (by omega)]
    simp (disch := omega) only [T1, hs, hi, E2, Option.bind_some, if_true, bne_self_eq_false]
    rw [laws_FnExactArcsOf.j0]
    simp (disch := omega) only [T1, E1, M1, N1, E2, Option.bind_some, if_true, if_false, bne_self_eq_false, Bool.false_eq_true]
    rw [laws_FnExactArcsOf.j1]
    simp (disch := omega) only [T1, hi, M2, H2, N2, E2, Option.bind_some, if_true, if_false, bne_self_eq_false, Bool.false_eq_true]
    rw [laws_FnExactArcsOf.j2]
    simp (disch := omega) only [H2, N2, Option.bind_some, if_true, if_false, Bool.false_eq_true]
  · refine ⟨1, ?_⟩
    unfold laws_FnExactArcsOf.f
    rw [if_pos (by omega)]

end Go.Proofs.Ytmidjgnnepeklaa.Pure
