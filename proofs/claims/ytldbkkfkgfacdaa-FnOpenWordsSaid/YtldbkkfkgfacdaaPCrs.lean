/- Joins that cross: the program's search for the first pair and the reference's are one. -/
import Derived.Test.YtldbkkfkgfacdaaPNum
import Derived.Test.YtldbkkfkgfacdaaQD0
set_option linter.unusedVariables false
set_option linter.unusedSimpArgs false
namespace Go.Proofs.Ytldbkkfkgfacdaa.Pure
open Go.RowKit Go.Proofs.Ytldbkkfkgfacdaa.P Go.Proofs.YtldbkkfkgfacdaaW.PrintWords Go.Proofs.YtldbkkfkgfacdaaW.PrintLast Go.Proofs.YtldbkkfkgfacdaaW.PrintMore

theorem nil_beq (x : List Int) : (x == []) = decide (x = []) := by cases x <;> simp
theorem nil_bne (x : List Int) : (x != []) = !decide (x = []) := by cases x <;> simp
def crB (a b c d : Int) : Bool := (decide (min a b < c) && decide (c < max a b)) != (decide (min a b < d) && decide (d < max a b))
theorem scross_val (a b c d : Int) : spec_peCross.f a b c d = some (crB a b c d) := by
  have between : ∀ x, spec_peBetween.f x a b = some (decide (min a b < x) && decide (x < max a b)) := by
    intro x
    have h1 : spec_l1Least.f a b = some (min a b) := by unfold spec_l1Least.f; split <;> congr 1 <;> omega
    have h2 : spec_l1Most.f a b = some (max a b) := by unfold spec_l1Most.f; split <;> congr 1 <;> omega
    unfold spec_peBetween.f
    rw [h1, h2]
    by_cases h : min a b < x
    · simp only [Option.bind_some, if_pos h]; rw [decide_eq_true h, Bool.true_and]
    · simp only [if_neg h, Option.bind_some]; rw [decide_eq_false h, Bool.false_and]
  unfold spec_peCross.f crB
  rw [between, between]; rfl
theorem icross_val (a b c d : Int) : impl_cross.f a b c d = some (crB a b c d) := rfl
def c4 (l : List Int) (i j : Nat) : Bool := crB (l.getD i 0) (l.getD (i + 1) 0) (l.getD j 0) (l.getD (j + 1) 0)
def four (i j : Nat) : List Int := [(i : Int), ((i + 1 : Nat) : Int), (j : Int), ((j + 1 : Nat) : Int)]
/-- the first join ahead of join j that crosses it -/
def innerF (l : List Int) (j : Nat) : Nat → Nat → Option Nat
  | 0, _ => none
  | d + 1, i => if i < j then (if c4 l i j = true then some i else innerF l j d (i + 2)) else none
def outF (l : List Int) : Nat → Nat → List Int × Bool
  | 0, _ => ([], false)
  | e + 1, j => if j + 1 < l.length then (match innerF l j l.length (j % 2) with | some i => (four i j, true) | none => outF l e (j + 1)) else ([], false)
def crs (l : List Int) : List Int × Bool := outF l l.length 0
theorem outF_snd (l : List Int) (e : Nat) : ∀ j, (outF l e j).2 = !decide ((outF l e j).1 = []) := by
  induction e with
  | zero => intro j; rfl
  | succ e ih =>
    intro j
    rw [outF]
    split
    · split
      · rfl
      · exact ih _
    · rfl
theorem outF_len (l : List Int) (e : Nat) : ∀ j, (outF l e j).1.length ≤ 4 := by
  induction e with
  | zero => intro j; simp [outF]
  | succ e ih =>
    intro j
    rw [outF]
    split
    · split
      · simp [four]
      · exact ih _
    · simp
theorem tmod2 (j : Nat) : Int.tmod (j : Int) 2 = ((j % 2 : Nat) : Int) := by
  rw [Int.tmod_eq_emod_of_nonneg (by omega)]; omega
theorem sinner (l : List Int) (j K : Nat) (hl : l.length ≤ 12) (hj : j + 1 < l.length) (N : List Int × Bool) (next : ∀ k, K ≤ k → spec_peCrossing.l0 k l ((j + 1 : Nat) : Int) = some N) (d : Nat) :
    ∀ (i k : Nat), j ≤ i + 2 * d → i ≤ j + 1 → K + d + 1 ≤ k → spec_peCrossing.l1 k l (j : Int) (i : Int) = some (match innerF l j d i with | some i => (four i j, true) | none => N) := by
  induction d with
  | zero =>
    intro i k hi hi2 hk
    obtain ⟨k, rfl⟩ : ∃ m, k = m + 1 := ⟨k - 1, by omega⟩
    rw [spec_peCrossing.l1, if_neg (by omega), wrap_succ (by omega), next k (by omega)]; rfl
  | succ d ih =>
    intro i k hi hi2 hk
    obtain ⟨k, rfl⟩ : ∃ m, k = m + 1 := ⟨k - 1, by omega⟩
    rw [spec_peCrossing.l1, innerF, wrap_succ (i := i) (by omega), wrap_succ (i := j) (by omega)]
    by_cases h : i < j
    · rw [if_pos (by omega), if_pos (by omega), if_pos (by omega), if_pos (by omega), if_pos (by omega), if_pos (by omega), if_pos (by omega), if_pos (by omega), if_pos (by omega), scross_val, Option.bind_some, rd_nat, rd_nat, rd_nat, rd_nat, if_pos h]
      show (if c4 l i j = true then _ else _) = _
      by_cases hc : c4 l i j = true
      · rw [if_pos hc, if_pos hc]; rfl
      · rw [if_neg hc, if_neg hc, wrap_id (by omega) (by omega)]
        exact ih (i + 2) k (by omega) (by omega) (by omega)
    · rw [if_neg (by omega), if_neg h, next k (by omega)]
theorem scrossing (l : List Int) (hl : l.length ≤ 12) (e : Nat) : ∀ (j k : Nat), j + e = l.length → 20 * e + 1 ≤ k → spec_peCrossing.l0 k l (j : Int) = some (outF l e j) := by
  induction e with
  | zero =>
    intro j k hj hk
    obtain ⟨k, rfl⟩ : ∃ m, k = m + 1 := ⟨k - 1, by omega⟩
    rw [spec_peCrossing.l0, wrap_succ (by omega), if_neg (by omega)]; rfl
  | succ e ih =>
    intro j k hj hk
    obtain ⟨k, rfl⟩ : ∃ m, k = m + 1 := ⟨k - 1, by omega⟩
    rw [spec_peCrossing.l0, outF, wrap_succ (by omega)]
    by_cases h : j + 1 < l.length
    · rw [if_pos (by omega), if_pos h, tmod2]
      exact sinner l j (20 * e + 1) hl h (outF l e (j + 1)) (fun k hk => ih (j + 1) k (by omega) hk) l.length (j % 2) k (by omega) (by omega) (by omega)
    · rw [if_neg (by omega), if_neg h]
theorem iinner (l : List Int) (j K : Nat) (hl : l.length ≤ 12) (hj : j + 1 < l.length) (N : List Int) (next : ∀ k, K ≤ k → impl_crossing.l0 k l (l.length : Int) ((j + 1 : Nat) : Int) = some N) (d : Nat) :
    ∀ (i k : Nat), j ≤ i + 2 * d → i ≤ j + 1 → K + 2 * d + 2 ≤ k → impl_crossing.l1 k l (j : Int) (i : Int) (l.length : Int) (j : Int) = some (match innerF l j d i with | some i => four i j | none => N) := by
  induction d with
  | zero =>
    intro i k hi hi2 hk
    obtain ⟨k, rfl⟩ : ∃ m, k = m + 2 := ⟨k - 2, by omega⟩
    rw [impl_crossing.l1, if_neg (by omega), impl_crossing.j2, if_neg (by simp), wrap_succ (by omega), next k (by omega)]; rfl
  | succ d ih =>
    intro i k hi hi2 hk
    obtain ⟨k, rfl⟩ : ∃ m, k = m + 2 := ⟨k - 2, by omega⟩
    have hd : decide (((j + 1 : Nat) : Int) < (l.length : Int)) = true := decide_eq_true (by omega)
    rw [impl_crossing.l1, innerF, impl_crossing.j2, impl_crossing.j2, wrap_succ (i := i) (by omega), wrap_succ (i := j) (by omega), hd]
    by_cases h : i < j
    · rw [if_pos (by omega), if_pos rfl, if_pos (by omega), if_pos (by omega), if_pos (by omega), if_pos (by omega), if_pos (by omega), if_pos (by omega), if_pos (by omega), if_pos (by omega), icross_val, Option.bind_some, rd_nat, rd_nat, rd_nat, rd_nat, if_pos h]
      show (if c4 l i j = true then _ else _) = _
      by_cases hc : c4 l i j = true
      · rw [if_pos hc, if_pos hc]; rfl
      · rw [if_neg hc, if_neg hc, wrap_id (by omega) (by omega)]
        exact ih (i + 2) k (by omega) (by omega) (by omega)
    · rw [if_neg (by omega), if_neg (by simp), if_neg h, next k (by omega)]
theorem icrossing (l : List Int) (hl : l.length ≤ 12) (e : Nat) : ∀ (j k : Nat), j + e = l.length → 40 * e + 1 ≤ k → impl_crossing.l0 k l (l.length : Int) (j : Int) = some (outF l e j).1 := by
  induction e with
  | zero =>
    intro j k hj hk
    obtain ⟨k, rfl⟩ : ∃ m, k = m + 1 := ⟨k - 1, by omega⟩
    rw [impl_crossing.l0, if_neg (by omega)]; rfl
  | succ e ih =>
    intro j k hj hk
    obtain ⟨k, rfl⟩ : ∃ m, k = m + 1 := ⟨k - 1, by omega⟩
    rw [impl_crossing.l0, outF, if_pos (by omega), tmod2]
    by_cases h : j + 1 < l.length
    · rw [if_pos h, iinner l j (40 * e + 1) hl h (outF l e (j + 1)).1 (fun k hk => ih (j + 1) k (by omega) hk) l.length (j % 2) k (by omega) (by omega) (by omega)]
      congr 1
      split <;> rfl
    · rw [if_neg h]
      obtain ⟨k, rfl⟩ : ∃ m, k = m + 3 := ⟨k - 3, by omega⟩
      have hd : decide (((j + 1 : Nat) : Int) < (l.length : Int)) = false := decide_eq_false (by omega)
      obtain rfl : e = 0 := by omega
      have hn := ih (j + 1) (k + 1) (by omega) (by omega)
      have hj2 : impl_crossing.j2 (k + 2) l (j : Int) ((j % 2 : Nat) : Int) (l.length : Int) (j : Int) false = some [] := by
        rw [impl_crossing.j2, if_neg (by simp), wrap_succ (i := j) (by omega), hn]; rfl
      rw [impl_crossing.l1, wrap_succ (i := j) (by omega), hd, hj2]
      split <;> rfl
theorem scrossing_ev (l : List Int) (hl : l.length ≤ 12) (k : Nat) (hk : 500 ≤ k) : spec_peCrossing.f k l = some (crs l) := by
  have := scrossing l hl l.length 0 k (by omega) (by omega)
  unfold spec_peCrossing.f crs
  exact this
theorem icrossing_ev (l : List Int) (hl : l.length ≤ 12) (k : Nat) (hk : 500 ≤ k) : impl_crossing.f k l = some (crs l).1 := by
  have := icrossing l hl l.length 0 k (by omega) (by omega)
  unfold impl_crossing.f crs
  exact this
theorem crs_snd (l : List Int) : (crs l).2 = !decide ((crs l).1 = []) := outF_snd _ _ _
theorem crs_len (l : List Int) : (crs l).1.length ≤ 4 := outF_len _ _ _

end Go.Proofs.Ytldbkkfkgfacdaa.Pure
