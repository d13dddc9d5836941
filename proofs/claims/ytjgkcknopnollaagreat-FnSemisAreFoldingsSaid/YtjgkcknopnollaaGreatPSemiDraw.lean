/- The reference's drawn semi-meanders and foldings: each draw has an answer, a short row. -/
import Derived.Test.YtjgkcknopnollaaGreatPAllSys
import Derived.Test.YtjgkcknopnollaaGreatPDrawStackS
import Derived.Test.YtjgkcknopnollaaGreatPDrawSysJ
import Derived.Test.YtjgkcknopnollaaGreatPFoldIs
import Derived.Test.YtjgkcknopnollaaGreatQA2
set_option linter.unusedVariables false
set_option linter.unusedSimpArgs false
namespace Go.Proofs.YtjgkcknopnollaaGreat.Pure
open Go.RowKit Go.Proofs.YtjgkcknopnollaaGreat.D Go.Proofs.YtjgkcknopnollaaGreatW.PrintWords Go.Proofs.YtjgkcknopnollaaGreatW.PrintLast Go.Proofs.YtjgkcknopnollaaGreatW.PrintMore

theorem rest_mod (a n : Int) (hn : 1 ≤ n ∧ n ≤ 8) (ha : -1000 ≤ a ∧ a ≤ 1000) : Int.tmod (wrap64 (Int.tmod (wrap64 a) n + n)) n = a % n := by
  rw [wrap_id (x := a) (by omega) (by omega)]
  have key : Int.tmod a n = if 0 ≤ a then a % n else -((-a) % n) := by
    by_cases h : 0 ≤ a
    · rw [if_pos h, Int.tmod_eq_emod_of_nonneg h]
    · rw [if_neg h, ← Int.tmod_eq_emod_of_nonneg (by omega : 0 ≤ -a), Int.neg_tmod, Int.neg_neg]
  have b1 := Int.emod_nonneg a (by omega : n ≠ 0)
  have b2 := Int.emod_lt_of_pos a (by omega : 0 < n)
  have b3 := Int.emod_nonneg (-a) (by omega : n ≠ 0)
  have b4 := Int.emod_lt_of_pos (-a) (by omega : 0 < n)
  rw [key]
  have h0 : 0 ≤ (if 0 ≤ a then a % n else -((-a) % n)) + n := by split <;> omega
  have h1 : (if 0 ≤ a then a % n else -((-a) % n)) + n ≤ 100 := by split <;> omega
  rw [wrap_id (by omega) (by omega), Int.tmod_eq_emod_of_nonneg h0]
  have hc : n = 1 ∨ n = 2 ∨ n = 3 ∨ n = 4 ∨ n = 5 ∨ n = 6 ∨ n = 7 ∨ n = 8 := by omega
  rcases hc with rfl | rfl | rfl | rfl | rfl | rfl | rfl | rfl <;> split <;> omega
theorem set_in {x : List Int} {n : Nat} (h : ∀ v ∈ x, 0 ≤ v ∧ v < (n : Int)) (i : Nat) (w : Int) (hw : 0 ≤ w ∧ w < (n : Int)) : ∀ v ∈ x.set i w, 0 ≤ v ∧ v < (n : Int) := by
  intro v hv
  rcases List.mem_or_eq_of_mem_set hv with h1 | h1
  · exact h v h1
  · rw [h1]; exact hw
theorem rd_in {l : List Int} {n : Nat} (h : ∀ v ∈ l, 0 ≤ v ∧ v < (n : Int)) (i : Nat) (hi : i < l.length) : 0 ≤ rd l (i : Int) ∧ rd l (i : Int) < (n : Int) := by
  rw [rd_get hi]; exact h _ (List.getElem_mem hi)
theorem turn_l0 (l : List Int) (y : Int) (hl : 1 ≤ l.length ∧ l.length ≤ 8) (hb : -100 ≤ y ∧ y ≤ 100) (hv : ∀ v ∈ l, 0 ≤ v ∧ v < (l.length : Int)) (d : Nat) : ∀ (k i : Nat) (x : List Int), i + d = l.length → x.length = l.length → d < k → (∀ v ∈ x, 0 ≤ v ∧ v < (l.length : Int)) →
    ∃ r, spec_spTurn.l0 k y (l.length : Int) x l (l.length : Int) (i : Int) = some r ∧ r.length = l.length ∧ ∀ v ∈ r, 0 ≤ v ∧ v < (l.length : Int) := by
  induction d with
  | zero =>
    intro k i x hi hx hk h
    obtain ⟨k, rfl⟩ : ∃ m, k = m + 1 := ⟨k - 1, by omega⟩
    rw [spec_spTurn.l0, if_neg (by omega)]
    exact ⟨x, rfl, hx, h⟩
  | succ d ih =>
    intro k i x hi hx hk h
    obtain ⟨k, rfl⟩ : ∃ m, k = m + 1 := ⟨k - 1, by omega⟩
    have h1 := Int.emod_nonneg ((i : Int) + y) (show (l.length : Int) ≠ 0 by omega)
    have h2 := Int.emod_lt_of_pos ((i : Int) + y) (show 0 < (l.length : Int) by omega)
    rw [spec_spTurn.l0, if_pos (by omega), if_pos (by omega), if_pos (by omega), if_neg (by omega), rest_mod _ _ (by omega) (by omega), if_pos h1, if_pos (by omega), wrap_succ (by omega)]
    exact ih k (i + 1) _ (by omega) (by simpa using hx) (by omega) (set_in h _ _ (rd_in hv i (by omega)))
theorem turn_ok (l : List Int) (y : Int) (hl : 1 ≤ l.length ∧ l.length ≤ 8) (hb : -100 ≤ y ∧ y ≤ 100) (hv : ∀ v ∈ l, 0 ≤ v ∧ v < (l.length : Int)) (k : Nat) (hk : 100 ≤ k) :
    ∃ r, spec_spTurn.f k l y = some r ∧ r.length = l.length ∧ ∀ v ∈ r, 0 ≤ v ∧ v < (l.length : Int) := by
  obtain ⟨r, h1, h2⟩ := turn_l0 l y hl hb hv l.length k 0 (List.replicate l.length 0) (by omega) (by simp) (by omega) (fun v hv => by
    have := (List.mem_replicate.1 hv).2
    omega)
  refine ⟨r, ?_, h2⟩
  unfold spec_spTurn.f
  rw [if_pos (by omega), if_pos (by omega), Int.toNat_natCast]
  exact h1
theorem sys_l0 (l : List Int) (hl : 1 ≤ l.length ∧ l.length ≤ 8) (hv : ∀ v ∈ l, 0 ≤ v ∧ v < (l.length : Int)) (d : Nat) : ∀ (k i : Nat) (x : List Int), i + d = l.length → x.length = 2 * l.length → d < k →
    ∃ r, spec_spSystem.l0 k l (l.length : Int) x l (l.length : Int) (i : Int) = some r ∧ r.length = 2 * l.length := by
  induction d with
  | zero =>
    intro k i x hi hx hk
    obtain ⟨k, rfl⟩ : ∃ m, k = m + 1 := ⟨k - 1, by omega⟩
    rw [spec_spSystem.l0, if_neg (by omega)]
    exact ⟨x, rfl, hx⟩
  | succ d ih =>
    intro k i x hi hx hk
    obtain ⟨k, rfl⟩ : ∃ m, k = m + 1 := ⟨k - 1, by omega⟩
    have hA := rd_in hv i (by omega)
    obtain ⟨j, hj, hjn⟩ : ∃ j : Nat, Int.tmod (wrap64 ((i : Int) + 1)) (l.length : Int) = (j : Int) ∧ j < l.length := by
      rw [wrap_succ (by omega), Int.tmod_eq_emod_of_nonneg (by omega)]
      have h1 := Int.emod_nonneg ((i + 1 : Nat) : Int) (show (l.length : Int) ≠ 0 by omega)
      have h2 := Int.emod_lt_of_pos ((i + 1 : Nat) : Int) (show 0 < (l.length : Int) by omega)
      exact ⟨(((i + 1 : Nat) : Int) % (l.length : Int)).toNat, by omega, by omega⟩
    have hB := rd_in hv j hjn
    have w1 : wrap64 ((l.length : Int) - 1) = (l.length : Int) - 1 := wrap_id (by omega) (by omega)
    have e : ∀ x' : List Int, x'.length = 2 * l.length → ∃ r, spec_spSystem.l0 k l (l.length : Int) x' l (l.length : Int) (wrap64 ((i : Int) + 1)) = some r ∧ r.length = 2 * l.length := fun x' h => by
      rw [wrap_succ (by omega)]; exact ih k (i + 1) x' (by omega) h (by omega)
    rw [spec_spSystem.l0, if_pos (by omega), if_pos (by omega), if_pos (by omega), if_neg (by omega), hj, if_pos (by omega), if_pos (by omega), w1]
    generalize rd l (i : Int) = a at hA ⊢
    generalize rd l (j : Int) = b at hB ⊢
    have wa : wrap64 ((l.length : Int) - 1 - a) = (l.length : Int) - 1 - a := wrap_id (by omega) (by omega)
    have wb : wrap64 ((l.length : Int) - 1 - b) = (l.length : Int) - 1 - b := wrap_id (by omega) (by omega)
    have va : wrap64 ((l.length : Int) + a) = (l.length : Int) + a := wrap_id (by omega) (by omega)
    have vb : wrap64 ((l.length : Int) + b) = (l.length : Int) + b := wrap_id (by omega) (by omega)
    rw [wa, wb, va, vb]
    have c1 : 0 ≤ (l.length : Int) - 1 - a := by omega
    have c2 : (l.length : Int) - 1 - a < (x.length : Int) := by omega
    have c3 : 0 ≤ (l.length : Int) - 1 - b := by omega
    have c4 : (l.length : Int) - 1 - b < (x.length : Int) := by omega
    have c5 : 0 ≤ (l.length : Int) + a := by omega
    have c6 : (l.length : Int) + a < (x.length : Int) := by omega
    have c7 : 0 ≤ (l.length : Int) + b := by omega
    have c8 : (l.length : Int) + b < (x.length : Int) := by omega
    rw [if_pos c1, if_pos c2, if_pos c7, if_pos c8, if_pos c1, if_pos c2, if_pos c3, if_pos c4, if_pos c5, if_pos c6, if_pos c7, if_pos c8, if_pos c5, if_pos c6, if_pos c3, if_pos c4]
    split <;> split <;> exact e _ (by simpa using hx)
theorem sys_ok (l : List Int) (hl : 1 ≤ l.length ∧ l.length ≤ 8) (hv : ∀ v ∈ l, 0 ≤ v ∧ v < (l.length : Int)) (k : Nat) (hk : 100 ≤ k) :
    ∃ r, spec_spSystem.f k l = some r ∧ r.length = 2 * l.length := by
  obtain ⟨r, h1, h2⟩ := sys_l0 l hl hv l.length k 0 (List.replicate (2 * l.length) 0) (by omega) (by simp) (by omega)
  refine ⟨r, ?_, h2⟩
  have hw : wrap64 (2 * (l.length : Int)) = ((2 * l.length : Nat) : Int) := by rw [wrap_id (by omega) (by omega)]; omega
  unfold spec_spSystem.f
  rw [hw, if_pos (by omega), if_pos (by omega), Int.toNat_natCast]
  exact h1
theorem word_vals {l : List Int} (hw : wordB l = true) : ∀ v ∈ l, 0 ≤ v ∧ v < (l.length : Int) := fun v hv => by
  obtain ⟨i, hi, rfl⟩ := List.getElem_of_mem hv
  have := wordB_in hw i hi
  rwa [rd_get hi] at this
/-- a stack turned so that its first stamp lies on top -/
theorem top_ok (l : List Int) (h : stackB l = true) (k : Nat) (hk : 100 ≤ k) : ∃ P r, spec_spPlaces.f k l = some P ∧ P.length = l.length ∧ spec_spTurn.f k l (wrap64 (-(rd P 0))) = some r ∧ r.length = l.length ∧ ∀ v ∈ r, 0 ≤ v ∧ v < (l.length : Int) := by
  have hl := stackB_len h
  have hw := stackB_word h
  obtain ⟨P, h1, h2, h3⟩ := places l (by omega) hw l.length 0 (List.replicate l.length 0) (by omega) (by simp) (fun j hj => by omega)
  have hP : spec_spPlaces.f k l = some P := by
    have := (h3 k (by omega)).1
    rw [Int.natCast_zero] at this
    unfold spec_spPlaces.f
    rw [if_pos (by omega), if_pos (by omega), Int.toNat_natCast]
    exact this
  obtain ⟨i, hi, e⟩ := word_all l (by omega) hw 0 (by omega)
  have h4 := h2 i hi
  rw [e] at h4
  have h5 : rd P 0 = (i : Int) := by
    rw [show (0 : Int) = ((0 : Nat) : Int) from rfl, rd_nat]; exact h4
  have hy : wrap64 (-(rd P 0)) = -(i : Int) := by rw [h5, wrap_id (by omega) (by omega)]
  obtain ⟨r, g1, g2, g3⟩ := turn_ok l (wrap64 (-(rd P 0))) hl (by rw [hy]; omega) (word_vals hw) k hk
  exact ⟨P, r, hP, h1, g1, g2, g3⟩
theorem semi_ok {l : List Int} (h : Bytes l) (k : Nat) (hk : 3000 ≤ k) : ∃ p, p.length ≤ 198 ∧ spec_DrawIsSemi.f k l = some p := by
  have fin : ∀ (x : List Int) (b : Bool) (j s : Int), (b = true → stackB x = true ∧ x.length ≤ 6) → 0 ≤ j → j ≤ 500 → ∃ p j' s', p.length ≤ 198 ∧ spec_l1Cur_semi.j0 k x b l j s = some (p, j', s') := by
    intro x b j s hb h1 h2
    obtain ⟨k, rfl⟩ : ∃ m, k = m + 1 := ⟨k - 1, by omega⟩
    cases b with
    | true =>
      obtain ⟨hs, h6⟩ := hb rfl
      have hl := stackB_len hs
      obtain ⟨P, r, e1, e2, e3, e4, e5⟩ := top_ok x hs k (by omega)
      obtain ⟨q, g1, g2⟩ := sys_ok r (by omega) (by rw [e4]; exact e5) k (by omega)
      refine ⟨q, j, s, by omega, ?_⟩
      rw [spec_l1Cur_semi.j0, if_pos rfl, e1, Option.bind_some, if_pos (by omega), e3, Option.bind_some, g1]; rfl
    | false =>
      obtain ⟨p, j', s', e, hp, _⟩ := (system_ok h k (by omega) j s h1 (by omega)).ok
      have e' : spec_l1Cur_system.f k l j s 6 = some (p, j', s') := e
      refine ⟨p, j', s', hp, ?_⟩
      rw [spec_l1Cur_semi.j0, if_neg (by simp), e']; rfl
  obtain ⟨x, j, s, e, hx, a1, b1⟩ := (stack_ok h 6 (by omega) (by omega) k (by omega) 0 0 (by omega) (by omega)).ok
  have hx : x.length ≤ 9 := hx
  have e : spec_l1Cur_stack.f k l 0 0 6 = some (x, j, s) := e
  have : ∃ p j' s', p.length ≤ 198 ∧ spec_l1Cur_semi.f k l 0 0 = some (p, j', s') := by
    unfold spec_l1Cur_semi.f
    rw [e, Option.bind_some, spStack_ev x (by omega) k (by omega), Option.bind_some]
    cases hs : stackB x with
    | false => exact fin x false j s (fun c => by cases c) (by omega) (by omega)
    | true =>
      rw [if_pos rfl, (fold_ev x (stackB_len hs) (stackB_word hs) k (by omega)).1, Option.bind_some]
      cases hf : foldB x with
      | false => exact fin x false j s (fun c => by cases c) (by omega) (by omega)
      | true =>
        rw [if_pos rfl]
        by_cases h6 : x.length ≤ 6
        · rw [if_pos (show (x.length : Int) ≤ 6 by omega)]
          obtain ⟨b, j2, s2, e2, _, a2, b2⟩ := (one_ok h j s 4 (by omega) (by omega) (by omega)).ok
          rw [e2, Option.bind_some]
          exact fin x (!b) j2 s2 (fun _ => ⟨hs, h6⟩) (by omega) (by omega)
        · rw [if_neg (show ¬ (x.length : Int) ≤ 6 by omega)]
          exact fin x false j s (fun c => by cases c) (by omega) (by omega)
  obtain ⟨p, j', s', hp, e3⟩ := this
  exact ⟨p, hp, by unfold spec_DrawIsSemi.f; rw [e3]; rfl⟩
theorem drawFold_ok {l : List Int} (h : Bytes l) (k : Nat) (hk : 3000 ≤ k) : ∃ p, p.length ≤ 9 ∧ spec_DrawSemiOfFolding.f k l = some p := by
  have fin : ∀ (x : List Int) (b : Bool), x.length ≤ 9 → (b = true → stackB x = true) → ∃ p, p.length ≤ 9 ∧ spec_DrawSemiOfFolding.j0 k x b = some p := by
    intro x b hx hb
    obtain ⟨k, rfl⟩ : ∃ m, k = m + 1 := ⟨k - 1, by omega⟩
    cases b with
    | true =>
      have hs := hb rfl
      have hl := stackB_len hs
      obtain ⟨P, r, e1, e2, e3, e4, e5⟩ := top_ok x hs k (by omega)
      refine ⟨r, by omega, ?_⟩
      rw [spec_DrawSemiOfFolding.j0, if_pos rfl, e1, Option.bind_some, if_pos (by omega), e3]; rfl
    | false => exact ⟨x, hx, by rw [spec_DrawSemiOfFolding.j0, if_neg (by simp)]⟩
  obtain ⟨x, j, s, e, hx, a1, b1⟩ := (stack_ok h 7 (by omega) (by omega) k (by omega) 0 0 (by omega) (by omega)).ok
  have hx : x.length ≤ 9 := hx
  have e : spec_l1Cur_stack.f k l 0 0 7 = some (x, j, s) := e
  unfold spec_DrawSemiOfFolding.f
  rw [e, Option.bind_some, spStack_ev x (by omega) k (by omega), Option.bind_some]
  cases hs : stackB x with
  | false => exact fin x false hx (fun c => by cases c)
  | true =>
    rw [if_pos rfl]
    obtain ⟨b, j2, s2, e2, _, a2, b2⟩ := (one_ok h j s 6 (by omega) (by omega) (by omega)).ok
    rw [e2, Option.bind_some]
    exact fin x (!b) hx (fun _ => hs)
theorem drawN_ok {l : List Int} (h : Bytes l) : ∃ n, n ∈ ([1, 2, 3, 4, 5, 6, 7, 0] : List Int) ∧ spec_DrawSpreadOfWindings.f l = some n := by
  obtain ⟨v, j, s, e, hv, _⟩ := (among_ok h 0 0 [1, 2, 3, 4, 5, 6, 7, 0] (by simp) (by simp) (by omega) (by omega)).ok
  refine ⟨v, hv, ?_⟩
  unfold spec_DrawSpreadOfWindings.f spec_DrawAllSemis.f
  rw [e]; rfl

end Go.Proofs.YtjgkcknopnollaaGreat.Pure
