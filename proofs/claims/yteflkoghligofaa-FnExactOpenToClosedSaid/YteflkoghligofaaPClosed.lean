/- Words that close: the program's test of a meander's word and the reference's are one. -/
import Derived.Test.YteflkoghligofaaPCross
import Derived.Test.YteflkoghligofaaM2
import Derived.Test.YteflkoghligofaaM8
set_option linter.unusedVariables false
set_option linter.unusedSimpArgs false
namespace Go.Proofs.Yteflkoghligofaa.Pure
open Go.RowKit Go.Proofs.Yteflkoghligofaa.M Go.Proofs.YteflkoghligofaaW.PrintWords Go.Proofs.YteflkoghligofaaW.PrintLast Go.Proofs.YteflkoghligofaaW.PrintMore

/-- does the last join, back to 0, cross none below -/
def clF (l : List Int) : Nat → Nat → Bool
  | 0, _ => true
  | d + 1, i => if i + 1 < l.length then (if crB (l.getD i 0) (l.getD (i + 1) 0) (l.getD (l.length - 1) 0) 0 = true then false else clF l d (i + 2)) else true
theorem sclosed_l0 (l : List Int) (hl : l.length ≤ 12) (d : Nat) : ∀ (i k : Nat), l.length ≤ i + 2 * d + 1 → i ≤ l.length + 1 → d < k →
    spec_peClosed.l0 k l (l.length : Int) (i : Int) = some (clF l d i) := by
  induction d with
  | zero =>
    intro i k h1 h2 hk
    obtain ⟨k, rfl⟩ : ∃ m, k = m + 1 := ⟨k - 1, by omega⟩
    rw [spec_peClosed.l0, wrap_succ (by omega), if_neg (by omega)]; rfl
  | succ d ih =>
    intro i k h1 h2 hk
    obtain ⟨k, rfl⟩ : ∃ m, k = m + 1 := ⟨k - 1, by omega⟩
    have e : (1 ≤ l.length) → wrap64 ((l.length : Int) - 1) = ((l.length - 1 : Nat) : Int) := fun _ => by rw [wrap_id (by omega) (by omega)]; omega
    rw [spec_peClosed.l0, clF, wrap_succ (by omega)]
    by_cases h : i + 1 < l.length
    · rw [e (by omega), if_pos (by omega), if_pos (by omega), if_pos (by omega), if_pos (by omega), if_pos (by omega), if_pos (by omega), if_pos (by omega), scross_val, Option.bind_some, rd_nat, rd_nat, rd_nat, if_pos h]
      by_cases hc : crB (l.getD i 0) (l.getD (i + 1) 0) (l.getD (l.length - 1) 0) 0 = true
      · rw [if_pos hc, if_pos hc]
      · rw [if_neg hc, if_neg hc, wrap_id (by omega) (by omega)]
        exact ih (i + 2) k (by omega) (by omega) (by omega)
    · rw [if_neg (by omega), if_neg h]
theorem icloses_l0 (l : List Int) (hl : l.length ≤ 12) (d : Nat) : ∀ (i k : Nat), l.length ≤ i + 2 * d + 1 → i ≤ l.length + 1 → d < k →
    impl_closes.l0 k l (l.length : Int) (i : Int) = some (clF l d i) := by
  induction d with
  | zero =>
    intro i k h1 h2 hk
    obtain ⟨k, rfl⟩ : ∃ m, k = m + 1 := ⟨k - 1, by omega⟩
    rw [impl_closes.l0, wrap_succ (by omega), if_neg (by omega)]; rfl
  | succ d ih =>
    intro i k h1 h2 hk
    obtain ⟨k, rfl⟩ : ∃ m, k = m + 1 := ⟨k - 1, by omega⟩
    have e : (1 ≤ l.length) → wrap64 ((l.length : Int) - 1) = ((l.length - 1 : Nat) : Int) := fun _ => by rw [wrap_id (by omega) (by omega)]; omega
    rw [impl_closes.l0, clF, wrap_succ (by omega)]
    by_cases h : i + 1 < l.length
    · rw [e (by omega), if_pos (by omega), if_pos (by omega), if_pos (by omega), if_pos (by omega), if_pos (by omega), if_pos (by omega), if_pos (by omega), icross_val, Option.bind_some, rd_nat, rd_nat, rd_nat, if_pos h]
      by_cases hc : crB (l.getD i 0) (l.getD (i + 1) 0) (l.getD (l.length - 1) 0) 0 = true
      · rw [if_pos hc, if_pos hc]
      · rw [if_neg hc, if_neg hc, wrap_id (by omega) (by omega)]
        exact ih (i + 2) k (by omega) (by omega) (by omega)
    · rw [if_neg (by omega), if_neg h]
def clB (l : List Int) : Bool := decide (2 ≤ l.length ∧ l.length % 2 = 0 ∧ l.getD 0 0 = 0) && clF l l.length 1
def closedB (l : List Int) : Bool := openB l && clB l
theorem bne_zero (x : Int) : (x != 0) = !decide (x = 0) := by
  by_cases h : x = 0 <;> simp [h]
theorem closes_ev (l : List Int) (hl : l.length ≤ 12) (k : Nat) (hk : 100 ≤ k) : impl_closes.f k l = some (clB l) := by
  obtain ⟨k, rfl⟩ : ∃ m, k = m + 1 := ⟨k - 1, by omega⟩
  unfold impl_closes.f clB
  have j1 : ∀ n, impl_closes.j0 (k + 1) l n true = some false := fun n => by rw [impl_closes.j0, if_pos rfl]
  by_cases h1 : l.length < 2
  · rw [if_pos (by omega), j1]
    simp [show ¬ 2 ≤ l.length by omega]
  · rw [if_neg (by omega)]
    by_cases h2 : l.length % 2 = 0
    · rw [if_pos (by omega), if_pos (by omega), impl_closes.j0, bne_zero]
      have hz : rd l 0 = l.getD 0 0 := rd_nat l 0
      rw [hz]
      generalize l.getD 0 0 = z
      by_cases h3 : z = 0
      · have := icloses_l0 l hl l.length 1 k (by omega) (by omega) (by omega)
        rw [if_neg (by simp [h3]), show (1 : Int) = ((1 : Nat) : Int) from rfl, this]
        simp [h2, h3, show 2 ≤ l.length by omega]
      · rw [if_pos (by simp [h3])]
        simp [h3]
    · rw [if_neg (by omega), j1]
      simp [h2]
theorem isMeanderWord_ev (l : List Int) (k : Nat) (hk : 500 ≤ k) : impl_isMeanderWord.f k l = some (closedB l) := by
  unfold impl_isMeanderWord.f closedB openB
  rw [isPoints_ev l k (by omega), Option.bind_some]
  cases hp : ptsB l with
  | false => rfl
  | true =>
    rw [if_pos rfl, icrossing_ev l (ptsB_len hp) k (by omega), Option.bind_some]
    by_cases h : (crs l).1 = []
    · rw [if_pos h, closes_ev l (ptsB_len hp) k (by omega)]; simp [h]
    · rw [if_neg h]; simp [h]
theorem peClosed_ev (l : List Int) (hl : l.length ≤ 1048576) (k : Nat) (hk : l.length + 600 ≤ k) : spec_peClosed.f k l = some (closedB l) := by
  obtain ⟨k, rfl⟩ : ∃ m, k = m + 1 := ⟨k - 1, by omega⟩
  unfold spec_peClosed.f closedB clB
  have j1 : ∀ n, spec_peClosed.j0 (k + 1) l n true = some false := fun n => by rw [spec_peClosed.j0, if_pos rfl]
  by_cases h1 : l.length < 2
  · rw [if_pos (by omega), j1]
    simp [show ¬ 2 ≤ l.length by omega]
  · rw [if_neg (by omega)]
    by_cases h2 : l.length % 2 = 0
    · rw [if_neg (by omega), peOpen_ev l hl (k + 1) (by omega), Option.bind_some]
      cases ho : openB l with
      | false => rw [if_neg (by simp), j1]; simp
      | true =>
        have hp : ptsB l = true := by unfold openB at ho; simp only [Bool.and_eq_true] at ho; exact ho.1
        have hl12 := ptsB_len hp
        rw [if_pos rfl, if_pos (by omega), spec_peClosed.j0, bne_zero]
        have hz : rd l 0 = l.getD 0 0 := rd_nat l 0
        rw [hz]
        generalize l.getD 0 0 = z
        by_cases h3 : z = 0
        · have := sclosed_l0 l hl12 l.length 1 k (by omega) (by omega) (by omega)
          rw [if_neg (by simp [h3]), show (1 : Int) = ((1 : Nat) : Int) from rfl, this]
          simp [h2, h3, show 2 ≤ l.length by omega]
        · rw [if_pos (by simp [h3])]
          simp [h3]
    · rw [if_pos (by omega), j1]
      simp [h2]
theorem closedB_pts {l : List Int} (h : closedB l = true) : ptsB l = true := by
  unfold closedB openB at h
  simp only [Bool.and_eq_true] at h
  exact h.1.1

end Go.Proofs.Yteflkoghligofaa.Pure
