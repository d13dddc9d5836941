/- Rows and columns exchanged: the determinant and the rank stay. -/
import Derived.Test.YtbphdjnainlbhaaPRankMax
set_option linter.unusedVariables false
set_option linter.unusedSimpArgs false
namespace Go.Proofs.Ytbphdjnainlbhaa.Pure
open Go.RowKit Go.Proofs.Ytbphdjnainlbhaa.R Go.Proofs.YtbphdjnainlbhaaW.PrintWords Go.Proofs.YtbphdjnainlbhaaW.PrintLast Go.Proofs.YtbphdjnainlbhaaW.PrintMore

/-- the first n rows of a table -/
def rowsOf (n : Nat) (a : Nat → Nat → Int) : List (Nat → Int) := (List.range n).map a
def turnT (a : Nat → Nat → Int) : Nat → Nat → Int := fun i j => a j i
/-- a place left out -/
def skip (i : Nat) (x : Nat) : Nat := if x < i then x else x + 1
/-- along the first column -/
def cs : List (Nat → Int) → List (Nat → Int) → List Bool → Int
  | _, [], _ => 0
  | A, v :: L, t => v 0 * wedges ((A ++ L).map tl) one t - cs (A ++ [v]) L t
theorem wedges_sub (A : List (Nat → Int)) (c : Int) (w x : List Bool → Int) : wedges A (fun t => c * w t - x t) = fun t => c * wedges A w t - wedges A x t := by
  have h := wedges_lin A c (fun t => - x t) w
  have h2 := wedges_lin A (-1) (fun t => 0) x
  rw [wedges_zero] at h2
  have e1 : (fun t => - x t + c * w t) = fun t => c * w t - x t := by funext t; omega
  have e2 : (fun t => (0 : Int) + -1 * x t) = fun t => - x t := by funext t; omega
  rw [e1] at h
  rw [e2] at h2
  rw [h, h2]; funext t; dsimp only; omega
theorem cs_ev (L : List (Nat → Int)) : ∀ (A : List (Nat → Int)) (t : List Bool), wedges (A.map tl) (fun t => wedges L one (true :: t)) t = cs A L t := by
  induction L with
  | nil =>
    intro A t
    have : (fun t => wedges [] one (true :: t)) = fun _ => 0 := rfl
    rw [this, wedges_zero]; rfl
  | cons v L ih =>
    intro A t
    have e : (fun t => wedges (v :: L) one (true :: t)) = fun t => v 0 * wedges (L.map tl) one t - wedge (tl v) (fun t => wedges L one (true :: t)) t := by
      funext t
      have e1 : wedges L one (false :: t) = wedges (L.map tl) one t := congrFun (wedges_false L one) t
      rw [← e1]; rfl
    rw [e, wedges_sub]
    have g := ih (A ++ [v]) t
    rw [List.map_append, wedges_append] at g
    show v 0 * wedges (A.map tl) (wedges (L.map tl) one) t - wedges (A.map tl) (wedge (tl v) fun t => wedges L one (true :: t)) t = _
    rw [← wedges_append, ← List.map_append]
    exact congrArg (v 0 * wedges ((A ++ L).map tl) one t - ·) g
/-- along the first row -/
def rs : Nat → (Nat → Int) → (List Bool → Int) → Int
  | 0, _, _ => 0
  | m + 1, v, w => v 0 * w (false :: List.replicate m true) - rs m (tl v) (fun t => w (true :: t))
theorem rs_ev (m : Nat) : ∀ (v : Nat → Int) (w : List Bool → Int), wedge v w (List.replicate m true) = rs m v w := by
  induction m with
  | zero => intro v w; rfl
  | succ m ih => intro v w; rw [List.replicate_succ, rs, ← ih]; rfl
/-- a column left out -/
theorem wedge_del (i m : Nat) : ∀ (v : Nat → Int) (w x : List Bool → Int), (∀ s, s.length = i + m → w (s.take i ++ false :: s.drop i) = x s) → ∀ s, s.length = i + m → wedge v w (s.take i ++ false :: s.drop i) = wedge (fun j => v (skip i j)) x s := by
  induction i with
  | zero =>
    intro v w x h s hs
    have e : (fun j => v (skip 0 j)) = fun j => v (j + 1) := by funext j; simp [skip]
    rw [e]
    show wedge (fun i => v (i + 1)) (fun t => w (false :: t)) s = _
    have h1 := wedge_congr 0 s (fun i => v (i + 1)) (fun i => v (i + 1)) (fun t => w (false :: t)) x (fun i _ => ⟨0, by omega⟩) (fun r hr => ⟨0, by have := h r (by omega); simp at this; omega⟩)
    have := Int.zero_dvd.1 h1
    omega
  | succ i ih =>
    intro v w x h s hs
    cases s with
    | nil => rw [List.length_nil] at hs; omega
    | cons b s =>
      have hs' : s.length = i + m := by simp only [List.length_cons] at hs; omega
      have e : ∀ j, v (skip (i + 1) (j + 1)) = v (skip i j + 1) := by
        intro j; unfold skip
        by_cases c : j < i
        · rw [if_pos c, if_pos (by omega)]
        · rw [if_neg c, if_neg (by omega)]
      have e0 : skip (i + 1) 0 = 0 := by simp [skip]
      have e' : (fun j => v (skip (i + 1) (j + 1))) = fun j => (fun k => v (k + 1)) (skip i j) := funext e
      cases b with
      | false =>
        show wedge (fun i => v (i + 1)) (fun t => w (false :: t)) (s.take i ++ false :: s.drop i) = wedge (fun j => v (skip (i + 1) (j + 1))) (fun t => x (false :: t)) s
        rw [e']
        exact ih _ _ _ (fun r hr => h (false :: r) (by simp only [List.length_cons]; omega)) s hs'
      | true =>
        show v 0 * w (false :: (s.take i ++ false :: s.drop i)) - wedge (fun i => v (i + 1)) (fun t => w (true :: t)) (s.take i ++ false :: s.drop i) = v (skip (i + 1) 0) * x (false :: s) - wedge (fun j => v (skip (i + 1) (j + 1))) (fun t => x (true :: t)) s
        rw [e', e0, ih _ _ (fun t => x (true :: t)) (fun r hr => h (true :: r) (by simp only [List.length_cons]; omega)) s hs']
        have := h (false :: s) (by simp only [List.length_cons]; omega)
        simp only [List.take_succ_cons, List.drop_succ_cons, List.cons_append] at this
        rw [this]
theorem one_del (i m : Nat) (s : List Bool) (hs : s.length = i + m) : one (s.take i ++ false :: s.drop i) = one s := by
  induction i generalizing s with
  | zero => rfl
  | succ i ih =>
    cases s with
    | nil => rw [List.length_nil] at hs; omega
    | cons b s =>
      cases b with
      | false => exact ih s (by simp only [List.length_cons] at hs; omega)
      | true => rfl
theorem wedges_del (i m : Nat) (L : List (Nat → Int)) : ∀ s, s.length = i + m → wedges L one (s.take i ++ false :: s.drop i) = wedges (L.map fun v j => v (skip i j)) one s := by
  induction L with
  | nil => intro s hs; exact one_del i m s hs
  | cons v L ih => intro s hs; exact wedge_del i m v _ _ ih s hs
theorem det_turn (n : Nat) : ∀ a : Nat → Nat → Int, det n (rowsOf n a) = det n (rowsOf n (turnT a)) := by
  induction n with
  | zero => intro a; rfl
  | succ n ih =>
    intro a
    have h1 : det (n + 1) (rowsOf (n + 1) a) = cs [] (rowsOf (n + 1) a) (List.replicate n true) := by
      rw [← cs_ev]; rfl
    have hr : rowsOf (n + 1) (turnT a) = turnT a 0 :: rowsOf n (fun j => turnT a (j + 1)) := by
      unfold rowsOf; rw [List.range_succ_eq_map, List.map_cons, List.map_map]; rfl
    have h2 : det (n + 1) (rowsOf (n + 1) (turnT a)) = rs (n + 1) (turnT a 0) (wedges (rowsOf n (fun j => turnT a (j + 1))) one) := by
      rw [hr, ← rs_ev]; rfl
    rw [h1, h2]
    -- from the i-th row on
    have key : ∀ d i, i + d = n + 1 → cs ((List.range i).map a) ((List.range d).map fun k => a (i + k)) (List.replicate n true) = rs d (fun k => turnT a 0 (i + k)) (fun t => wedges (rowsOf n (fun j => turnT a (j + 1))) one (List.replicate i true ++ t)) := by
      intro d
      induction d with
      | zero => intro i _; rfl
      | succ d ihd =>
        intro i hi
        have e1 : (List.range (d + 1)).map (fun k => a (i + k)) = a i :: (List.range d).map fun k => a (i + 1 + k) := by
          rw [List.range_succ_eq_map, List.map_cons, List.map_map, Nat.add_zero]
          congr 1
          refine List.map_congr_left fun k _ => ?_
          show a (i + (k + 1)) = a (i + 1 + k)
          rw [show i + (k + 1) = i + 1 + k by omega]
        rw [e1, cs, rs]
        have e2 : (List.range i).map a ++ [a i] = (List.range (i + 1)).map a := by rw [List.range_succ, List.map_append]; rfl
        rw [e2, ihd (i + 1) (by omega)]
        have e3 : (fun k => turnT a 0 (i + 1 + k)) = tl (fun k => turnT a 0 (i + k)) := by
          funext k; show turnT a 0 (i + 1 + k) = turnT a 0 (i + (k + 1)); rw [show i + 1 + k = i + (k + 1) by omega]
        have e4 : (fun t => wedges (rowsOf n (fun j => turnT a (j + 1))) one (List.replicate (i + 1) true ++ t)) = fun t => wedges (rowsOf n (fun j => turnT a (j + 1))) one (List.replicate i true ++ true :: t) := by
          funext t; rw [List.replicate_succ']; simp
        rw [e3, e4]
        congr 1
        show a i 0 * _ = a (i + 0) 0 * _
        rw [Nat.add_zero]
        congr 1
        have hd := wedges_del i d (rowsOf n (fun j => turnT a (j + 1))) (List.replicate n true) (by simp; omega)
        rw [List.take_replicate, List.drop_replicate, Nat.min_eq_left (by omega), show n - i = d by omega] at hd
        rw [hd]
        have g := ih (fun x y => a (skip i x) (y + 1))
        have e5 : ((List.range i).map a ++ (List.range d).map fun k => a (i + 1 + k)).map tl = rowsOf n (fun x y => a (skip i x) (y + 1)) := by
          refine List.ext_getElem (by simp [rowsOf]; omega) fun k hk1 hk2 => ?_
          have hk : k < n := by simpa [rowsOf] using hk2
          simp only [rowsOf, List.getElem_map, List.getElem_range]
          rw [List.getElem_append]
          unfold skip
          by_cases c : k < i
          · rw [dif_pos (by simpa using c), if_pos c]; simp [tl]; rfl
          · rw [dif_neg (by simpa using c), if_neg c]
            simp only [List.getElem_map, List.getElem_range, List.length_map, List.length_range]
            rw [show i + 1 + (k - i) = k + 1 by omega]; rfl
        have e6 : (rowsOf n (fun j => turnT a (j + 1))).map (fun v j => v (skip i j)) = rowsOf n (turnT (fun x y => a (skip i x) (y + 1))) := by
          unfold rowsOf
          rw [List.map_map]; rfl
        rw [e5, e6]
        exact g
    have := key (n + 1) 0 (by omega)
    have e7 : (fun k => a (0 + k)) = a := by funext k; rw [Nat.zero_add]
    have e8 : (fun k => turnT a 0 (0 + k)) = turnT a 0 := by funext k; rw [Nat.zero_add]
    rw [e7, e8] at this
    exact this

end Go.Proofs.Ytbphdjnainlbhaa.Pure
