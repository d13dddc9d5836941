/- The exterior algebra over the whole numbers (a form is told by its value at each set of columns): rows' wedge, Hadamard's bound, and what depends on what. No program in sight. -/
import Derived.Test.YtbphdjnainlbhaaQA2
set_option linter.unusedVariables false
set_option linter.unusedSimpArgs false
namespace Go.Proofs.Ytbphdjnainlbhaa.Pure
open Go.RowKit Go.Proofs.Ytbphdjnainlbhaa.R Go.Proofs.YtbphdjnainlbhaaW.PrintWords Go.Proofs.YtbphdjnainlbhaaW.PrintLast Go.Proofs.YtbphdjnainlbhaaW.PrintMore

theorem self_nonneg (x : Int) : 0 ≤ x * x := by
  rcases Int.le_total 0 x with h | h
  · exact Int.mul_nonneg h h
  · exact Int.mul_nonneg_of_nonpos_of_nonpos h h
/-- a row before a form -/
def wedge : (Nat → Int) → (List Bool → Int) → List Bool → Int
  | _, _, [] => 0
  | v, w, false :: t => wedge (fun i => v (i + 1)) (fun t => w (false :: t)) t
  | v, w, true :: t => v 0 * w (false :: t) - wedge (fun i => v (i + 1)) (fun t => w (true :: t)) t
/-- a row taken out of a form -/
def inter : (Nat → Int) → (List Bool → Int) → List Bool → Int
  | _, _, [] => 0
  | v, w, false :: t => inter (fun i => v (i + 1)) (fun t => w (false :: t)) t + v 0 * w (true :: t)
  | v, w, true :: t => - inter (fun i => v (i + 1)) (fun t => w (true :: t)) t
def one : List Bool → Int
  | [] => 1
  | false :: t => one t
  | true :: _ => 0
def inner : Nat → (List Bool → Int) → (List Bool → Int) → Int
  | 0, w, x => w [] * x []
  | n + 1, w, x => inner n (fun t => w (false :: t)) (fun t => x (false :: t)) + inner n (fun t => w (true :: t)) (fun t => x (true :: t))
def sq : Nat → (Nat → Int) → Int
  | 0, _ => 0
  | n + 1, v => v 0 * v 0 + sq n (fun i => v (i + 1))
theorem wedge_add (t : List Bool) : ∀ (u v : Nat → Int) (w : List Bool → Int), wedge (fun i => u i + v i) w t = wedge u w t + wedge v w t := by
  induction t with
  | nil => intro u v w; rfl
  | cons b t ih =>
    intro u v w
    cases b with
    | false => exact ih _ _ _
    | true => simp only [wedge]; rw [ih, Int.add_mul]; omega
theorem wedge_smul (t : List Bool) : ∀ (c : Int) (v : Nat → Int) (w : List Bool → Int), wedge (fun i => c * v i) w t = c * wedge v w t := by
  induction t with
  | nil => intro c v w; simp [wedge]
  | cons b t ih =>
    intro c v w
    cases b with
    | false => exact ih _ _ _
    | true => simp only [wedge]; rw [ih, Int.mul_sub, Int.mul_assoc]
theorem wedge_addw (t : List Bool) : ∀ (v : Nat → Int) (w x : List Bool → Int), wedge v (fun t => w t + x t) t = wedge v w t + wedge v x t := by
  induction t with
  | nil => intro v w x; rfl
  | cons b t ih =>
    intro v w x
    cases b with
    | false => exact ih _ _ _
    | true => simp only [wedge]; rw [ih, Int.mul_add]; omega
theorem wedge_smulw (t : List Bool) : ∀ (c : Int) (v : Nat → Int) (w : List Bool → Int), wedge v (fun t => c * w t) t = c * wedge v w t := by
  induction t with
  | nil => intro c v w; simp [wedge]
  | cons b t ih =>
    intro c v w
    cases b with
    | false => exact ih _ _ _
    | true => simp only [wedge]; rw [ih, Int.mul_sub, Int.mul_left_comm]
theorem wedge_subw (t : List Bool) (v : Nat → Int) (w x : List Bool → Int) : wedge v (fun t => w t - x t) t = wedge v w t - wedge v x t := by
  have h := wedge_addw t v w (fun t => (-1) * x t)
  rw [wedge_smulw] at h
  have e : (fun t => w t + (-1) * x t) = fun t => w t - x t := by funext t; omega
  rw [e] at h; omega
theorem wedge_twice (t : List Bool) : ∀ (v : Nat → Int) (w : List Bool → Int), wedge v (wedge v w) t = 0 := by
  induction t with
  | nil => intro v w; rfl
  | cons b t ih =>
    intro v w
    cases b with
    | false => exact ih _ _
    | true =>
      show v 0 * wedge (fun i => v (i + 1)) (fun t => w (false :: t)) t - wedge (fun i => v (i + 1)) (fun t => v 0 * w (false :: t) - wedge (fun i => v (i + 1)) (fun t => w (true :: t)) t) t = 0
      rw [wedge_subw, wedge_smulw, ih]; omega
theorem wedge_swap (t : List Bool) (u v : Nat → Int) (w : List Bool → Int) : wedge u (wedge v w) t = - wedge v (wedge u w) t := by
  have h := wedge_twice t (fun i => u i + v i) w
  have e : wedge (fun i => u i + v i) w = fun t => wedge u w t + wedge v w t := by funext t; exact wedge_add t u v w
  rw [e, wedge_addw, wedge_add, wedge_add, wedge_twice, wedge_twice] at h
  omega
theorem inner_add (n : Nat) : ∀ (w x y : List Bool → Int), inner n (fun t => w t + x t) y = inner n w y + inner n x y := by
  induction n with
  | zero => intro w x y; exact Int.add_mul _ _ _
  | succ n ih => intro w x y; simp only [inner]; rw [ih, ih]; omega
theorem inner_smul (n : Nat) : ∀ (c : Int) (w y : List Bool → Int), inner n (fun t => c * w t) y = c * inner n w y := by
  induction n with
  | zero => intro c w y; exact Int.mul_assoc _ _ _
  | succ n ih => intro c w y; simp only [inner]; rw [ih, ih, Int.mul_add]
theorem inner_comm (n : Nat) : ∀ (w y : List Bool → Int), inner n w y = inner n y w := by
  induction n with
  | zero => intro w y; exact Int.mul_comm _ _
  | succ n ih => intro w y; simp only [inner]; rw [ih, ih (fun t => w (true :: t))]
theorem inner_zero (n : Nat) : ∀ (y : List Bool → Int), inner n (fun _ => 0) y = 0 := by
  induction n with
  | zero => intro y; exact Int.zero_mul _
  | succ n ih => intro y; simp only [inner]; rw [ih, ih]; rfl
theorem inner_nonneg (n : Nat) : ∀ (w : List Bool → Int), 0 ≤ inner n w w := by
  induction n with
  | zero => intro w; exact self_nonneg _
  | succ n ih => intro w; simp only [inner]; have := ih (fun t => w (false :: t)); have := ih (fun t => w (true :: t)); omega
theorem inner_comp (n : Nat) : ∀ (w : List Bool → Int) (t : List Bool), t.length = n → w t * w t ≤ inner n w w := by
  induction n with
  | zero => intro w t h; rw [List.eq_nil_of_length_eq_zero h]; exact Int.le_refl _
  | succ n ih =>
    intro w t h
    cases t with
    | nil => cases h
    | cons b t =>
      have h' : t.length = n := by simpa using h
      simp only [inner]
      have n1 := inner_nonneg n (fun t => w (false :: t))
      have n2 := inner_nonneg n (fun t => w (true :: t))
      cases b with
      | false => have := ih (fun t => w (false :: t)) t h'; omega
      | true => have := ih (fun t => w (true :: t)) t h'; omega
theorem inner_adj (n : Nat) : ∀ (v : Nat → Int) (w x : List Bool → Int), inner n (wedge v w) x = inner n w (inter v x) := by
  induction n with
  | zero => intro v w x; simp [inner, wedge, inter]
  | succ n ih =>
    intro v w x
    show inner n (wedge (fun i => v (i + 1)) (fun t => w (false :: t))) (fun t => x (false :: t)) + inner n (fun t => v 0 * w (false :: t) - wedge (fun i => v (i + 1)) (fun t => w (true :: t)) t) (fun t => x (true :: t))
      = inner n (fun t => w (false :: t)) (fun t => inter (fun i => v (i + 1)) (fun t => x (false :: t)) t + v 0 * x (true :: t)) + inner n (fun t => w (true :: t)) (fun t => - inter (fun i => v (i + 1)) (fun t => x (true :: t)) t)
    have e1 : (fun t => v 0 * w (false :: t) - wedge (fun i => v (i + 1)) (fun t => w (true :: t)) t) = fun t => v 0 * w (false :: t) + (-1) * wedge (fun i => v (i + 1)) (fun t => w (true :: t)) t := by funext t; omega
    have e2 : (fun t => - inter (fun i => v (i + 1)) (fun t => x (true :: t)) t) = fun t => (-1) * inter (fun i => v (i + 1)) (fun t => x (true :: t)) t := by funext t; omega
    rw [e1, e2, inner_add, inner_smul, inner_smul, ih, ih, inner_comm n (fun t => w (false :: t)) (fun t => inter (fun i => v (i + 1)) (fun t => x (false :: t)) t + v 0 * x (true :: t)), inner_add, inner_smul,
      inner_comm n (fun t => w (true :: t)) (fun t => (-1) * inter (fun i => v (i + 1)) (fun t => x (true :: t)) t), inner_smul]
    rw [inner_comm n (inter (fun i => v (i + 1)) fun t => x (false :: t)), inner_comm n (fun t => x (true :: t)), inner_comm n (inter (fun i => v (i + 1)) fun t => x (true :: t))]
    omega
theorem inner_sub2 (n : Nat) : ∀ (c : Int) (w x : List Bool → Int), inner n (fun t => c * w t - x t) (fun t => c * w t - x t) = c * c * inner n w w - 2 * (c * inner n w x) + inner n x x := by
  induction n with
  | zero => intro c w x; simp only [inner]; grind
  | succ n ih => intro c w x; simp only [inner]; rw [ih, ih]; grind
theorem inner_add2 (n : Nat) : ∀ (c : Int) (w x : List Bool → Int), inner n (fun t => w t + c * x t) (fun t => w t + c * x t) = inner n w w + 2 * (c * inner n w x) + c * c * inner n x x := by
  induction n with
  | zero => intro c w x; simp only [inner]; grind
  | succ n ih => intro c w x; simp only [inner]; rw [ih, ih]; grind
theorem inner_neg2 (n : Nat) : ∀ (w : List Bool → Int), inner n (fun t => - w t) (fun t => - w t) = inner n w w := by
  induction n with
  | zero => intro w; simp only [inner]; grind
  | succ n ih => intro w; simp only [inner]; rw [ih, ih]
theorem pyth (n : Nat) : ∀ (v : Nat → Int) (w : List Bool → Int), inner n (wedge v w) (wedge v w) + inner n (inter v w) (inter v w) = sq n v * inner n w w := by
  induction n with
  | zero => intro v w; simp [inner, wedge, inter, sq]
  | succ n ih =>
    intro v w
    have h1 := ih (fun i => v (i + 1)) (fun t => w (false :: t))
    have h2 := ih (fun i => v (i + 1)) (fun t => w (true :: t))
    have h3 := inner_adj n (fun i => v (i + 1)) (fun t => w (true :: t)) (fun t => w (false :: t))
    show inner n (wedge (fun i => v (i + 1)) (fun t => w (false :: t))) (wedge (fun i => v (i + 1)) (fun t => w (false :: t))) + inner n (fun t => v 0 * w (false :: t) - wedge (fun i => v (i + 1)) (fun t => w (true :: t)) t) (fun t => v 0 * w (false :: t) - wedge (fun i => v (i + 1)) (fun t => w (true :: t)) t)
      + (inner n (fun t => inter (fun i => v (i + 1)) (fun t => w (false :: t)) t + v 0 * w (true :: t)) (fun t => inter (fun i => v (i + 1)) (fun t => w (false :: t)) t + v 0 * w (true :: t)) + inner n (fun t => - inter (fun i => v (i + 1)) (fun t => w (true :: t)) t) (fun t => - inter (fun i => v (i + 1)) (fun t => w (true :: t)) t))
      = (v 0 * v 0 + sq n (fun i => v (i + 1))) * (inner n (fun t => w (false :: t)) (fun t => w (false :: t)) + inner n (fun t => w (true :: t)) (fun t => w (true :: t)))
    rw [inner_sub2, inner_add2, inner_neg2]
    rw [inner_comm n (fun t => w (false :: t)) (wedge _ _), h3, inner_comm n (inter (fun i => v (i + 1)) fun t => w (false :: t)) (fun t => w (true :: t))]
    generalize inner n (wedge (fun i => v (i + 1)) (fun t => w (false :: t))) (wedge (fun i => v (i + 1)) (fun t => w (false :: t))) = A1 at *
    generalize inner n (wedge (fun i => v (i + 1)) (fun t => w (true :: t))) (wedge (fun i => v (i + 1)) (fun t => w (true :: t))) = A2 at *
    generalize inner n (inter (fun i => v (i + 1)) (fun t => w (false :: t))) (inter (fun i => v (i + 1)) (fun t => w (false :: t))) = A3 at *
    generalize inner n (inter (fun i => v (i + 1)) (fun t => w (true :: t))) (inter (fun i => v (i + 1)) (fun t => w (true :: t))) = A4 at *
    generalize inner n (fun t => w (false :: t)) (fun t => w (false :: t)) = A5 at *
    generalize inner n (fun t => w (true :: t)) (fun t => w (true :: t)) = A6 at *
    generalize inner n (fun t => w (true :: t)) (inter (fun i => v (i + 1)) fun t => w (false :: t)) = A7 at *
    clear ih h3
    grind
theorem wedge_norm (n : Nat) (v : Nat → Int) (w : List Bool → Int) : inner n (wedge v w) (wedge v w) ≤ sq n v * inner n w w := by
  have h := pyth n v w
  have h2 := inner_nonneg n (inter v w)
  omega
/-- rows before a form, the first one foremost -/
def wedges (L : List (Nat → Int)) (w : List Bool → Int) : List Bool → Int := L.foldr wedge w
theorem one_norm (n : Nat) : inner n one one = 1 := by
  induction n with
  | zero => rfl
  | succ n ih =>
    show inner n one one + inner n (fun _ => 0) (fun _ => 0) = 1
    rw [ih, inner_zero]; rfl
theorem sq_nonneg (n : Nat) : ∀ v : Nat → Int, 0 ≤ sq n v := by
  induction n with
  | zero => intro v; exact Int.le_refl _
  | succ n ih => intro v; have := ih (fun i => v (i + 1)); have := self_nonneg (v 0); simp only [sq]; omega
theorem sq_le (n : Nat) (B : Int) : ∀ v : Nat → Int, (∀ i, i < n → v i * v i ≤ B) → sq n v ≤ n * B := by
  induction n with
  | zero => intro v _; simp [sq]
  | succ n ih =>
    intro v h
    have h1 := ih (fun i => v (i + 1)) (fun i hi => h (i + 1) (by omega))
    have h2 := h 0 (by omega)
    simp only [sq]
    have e : ((n + 1 : Nat) : Int) * B = (n : Int) * B + B := by rw [Int.natCast_add, Int.add_mul]; simp
    omega
/-- Hadamard's bound -/
theorem hadamard (n : Nat) (B : Int) (hB : 0 ≤ B) (L : List (Nat → Int)) (h : ∀ v ∈ L, sq n v ≤ B) : inner n (wedges L one) (wedges L one) ≤ B ^ L.length := by
  induction L with
  | nil => rw [List.length_nil, Int.pow_zero]; exact Int.le_of_eq (one_norm n)
  | cons v L ih =>
    have h1 := ih (fun u hu => h u (List.mem_cons_of_mem _ hu))
    have h2 := wedge_norm n v (wedges L one)
    have h3 := h v (List.mem_cons_self ..)
    have h4 := inner_nonneg n (wedges L one)
    show inner n (wedge v (wedges L one)) (wedge v (wedges L one)) ≤ B ^ (L.length + 1)
    rw [Int.pow_succ, Int.mul_comm]
    refine Int.le_trans h2 (Int.le_trans (Int.mul_le_mul_of_nonneg_right h3 h4) (Int.mul_le_mul_of_nonneg_left h1 hB))

end Go.Proofs.Ytbphdjnainlbhaa.Pure
