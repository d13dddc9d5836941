/- The program's test of an arch system and the reference's answer alike: both as 'good', in plain Lean. -/
import Derived.Test.YtldbkkfkgfacdaaPWord
import Derived.Test.YtldbkkfkgfacdaaPSys
import Derived.Test.YtldbkkfkgfacdaaQD0
set_option linter.unusedVariables false
set_option linter.unusedSimpArgs false
namespace Go.Proofs.Ytldbkkfkgfacdaa.Pure
open Go.RowKit Go.Proofs.Ytldbkkfkgfacdaa.P Go.Proofs.YtldbkkfkgfacdaaW.PrintWords Go.Proofs.YtldbkkfkgfacdaaW.PrintLast Go.Proofs.YtldbkkfkgfacdaaW.PrintMore

def qof (p : List Int) (i : Nat) : Nat := (p.getD i 0).toNat
def inr (p : List Int) : Bool := p.all fun x => decide (0 ≤ x ∧ x ≤ (p.length : Int) - 1)
def good (p : List Int) : Bool := decide (p.length % 2 = 0) && (decide (p.length ≤ 12) && (inr p && scan (qof p) p.length 0 []))
theorem inr_get {p : List Int} (h : inr p = true) (i : Nat) (hi : i < p.length) : rd p (i : Int) = (qof p i : Int) ∧ qof p i < p.length := by
  unfold inr at h
  rw [List.all_eq_true] at h
  have := h p[i] (List.getElem_mem hi)
  simp at this
  rw [rd_get hi]
  unfold qof
  simp [hi]
  omega
theorem iIn_val (a b c : Int) : impl_in.f a b c = some (decide (b ≤ a ∧ a ≤ c)) := by
  unfold impl_in.f
  by_cases h : b ≤ a <;> simp [h]
theorem ah_l0 (p : List Int) (hn : p.length ≤ 12) (h : inr p = true) (d : Nat) : ∀ (k i : Nat) (o : List Nat), i + d = p.length → 2 * d + 1 ≤ k → o.length ≤ i →
    spec_ahGood.l0 k p (o.map fun (x : Nat) => (x : Int)) p (p.length : Int) (i : Int) = some (scan (qof p) d i o) := by
  induction d with
  | zero =>
    intro k i o hi hk ho
    obtain ⟨k, rfl⟩ : ∃ m, k = m + 1 := ⟨k - 1, by omega⟩
    simp only [spec_ahGood.l0]
    rw [if_neg (by omega)]; rfl
  | succ d ih =>
    intro k i o hi hk ho
    obtain ⟨k, rfl⟩ : ∃ m, k = m + 2 := ⟨k - 2, by omega⟩
    have hin : i < p.length := by omega
    obtain ⟨e1, e2⟩ := inr_get h i hin
    obtain ⟨e3, e4⟩ := inr_get h (qof p i) e2
    rw [spec_ahGood.l0]
    rw [if_pos (by omega), if_pos (by omega), if_pos (by omega), e1]
    have push : ∀ (hk : 2 * d + 1 ≤ k), spec_ahGood.j2 (k + 1) p (o.map fun (x : Nat) => (x : Int)) (i : Int) (qof p i : Int) p (p.length : Int) (i : Int) true = some (scan (qof p) d (i + 1) (i :: o)) := by
      intro hk
      rw [spec_ahGood.j2, if_pos rfl, Option.bind_some, if_pos (by simp; omega), wrap_succ (by omega)]
      exact ih k (i + 1) (i :: o) (by omega) hk (by simp; omega)
    have pop : ∀ (hk : 2 * d + 1 ≤ k) (hc : ¬ (i < qof p i ∧ qof p (qof p i) = i)), spec_ahGood.j2 (k + 1) p (o.map fun (x : Nat) => (x : Int)) (i : Int) (qof p i : Int) p (p.length : Int) (i : Int) false = some (scan (qof p) (d + 1) i o) := by
      intro hk hc
      rw [spec_ahGood.j2, if_neg (by simp)]
      simp only [scan]
      rw [if_neg hc]
      by_cases hlt : qof p i < i
      · rw [if_pos (by omega), if_pos hlt]
        cases o with
        | nil => simp
        | cons a t =>
          have e5 : rd ((a :: t).map fun (x : Nat) => (x : Int)) 0 = (a : Int) := by simp [rd]
          have e6 : (1 : Int) ≤ (((a :: t).map fun (x : Nat) => (x : Int)).length : Int) := by simp; omega
          rw [if_pos (by omega), if_pos (by omega), e5]
          by_cases e : a = qof p i
          · rw [if_pos (by omega), if_pos (by omega), wrap_succ (by omega)]
            simp only [if_pos e]
            exact ih k (i + 1) t (by omega) hk (by simp at ho; omega)
          · rw [if_neg (by omega)]; simp [e]
      · rw [if_neg (by omega), if_neg hlt]
    by_cases hlt : i < qof p i
    · rw [if_pos (by omega), if_pos (by omega), if_pos (by omega), e3]
      by_cases e : qof p (qof p i) = i
      · simp only [scan]
        rw [if_pos ⟨hlt, e⟩, e, show ((i : Int) == (i : Int)) = true by simp]
        exact push (by omega)
      · rw [show (((qof p (qof p i) : Nat) : Int) == (i : Int)) = false by simp; omega]
        exact pop (by omega) (by omega)
    · rw [if_neg (by omega)]
      exact pop (by omega) (by omega)
theorem ahGood_ev (p : List Int) (hl : p.length ≤ 1048576) (k : Nat) (hk : p.length + 30 < k) : spec_ahGood.f k p = some (good p) := by
  obtain ⟨k, rfl⟩ : ∃ m, k = m + 1 := ⟨k - 1, by omega⟩
  unfold spec_ahGood.f good
  by_cases h1 : p.length % 2 = 0
  · rw [if_neg (by omega)]
    by_cases h2 : p.length ≤ 12
    · rw [if_neg (by omega), sAll_ev p _ _ hl _ (by omega), Option.bind_some, wrap_id (by omega) (by omega)]
      have e : (p.all fun x => decide (0 ≤ x ∧ x ≤ (p.length : Int) - 1)) = inr p := rfl
      rw [e]
      cases h3 : inr p with
      | false => rw [spec_ahGood.j0, if_pos (by rfl)]; simp
      | true =>
        rw [spec_ahGood.j0, if_neg (by simp)]
        have := ah_l0 p h2 h3 p.length k 0 [] (by omega) (by omega) (by simp)
        rw [List.map_nil, show ((0 : Nat) : Int) = 0 from rfl] at this
        rw [this]; simp [h1, h2]
    · rw [if_pos (by omega), spec_ahGood.j0, if_pos rfl]; simp [h2]
  · rw [if_pos (by omega), spec_ahGood.j0, if_pos rfl]; simp [h1]

/-- what the program's first loop asks of a point -/
def okp (p : List Int) (i : Nat) : Prop := 0 ≤ rd p (i : Int) ∧ rd p (i : Int) ≤ (p.length : Int) - 1 ∧ rd p (i : Int) ≠ i ∧ rd p (rd p (i : Int)) = i
end Go.Proofs.Ytldbkkfkgfacdaa.Pure
