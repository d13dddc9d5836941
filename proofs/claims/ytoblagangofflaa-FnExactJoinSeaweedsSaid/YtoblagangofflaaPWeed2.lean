/- Seaweeds: what the helpers of the exact laws compute, and that both tests of a seaweed are one. -/
import Derived.Test.YtoblagangofflaaPWeed
import Derived.Test.YtoblagangofflaaJ1
import Derived.Test.YtoblagangofflaaJ3
import Derived.Test.YtoblagangofflaaJ4
set_option linter.unusedVariables false
set_option linter.unusedSimpArgs false
namespace Go.Proofs.Ytoblagangofflaa.Pure
open Go.RowKit Go.Proofs.Ytoblagangofflaa.J Go.Proofs.YtoblagangofflaaW.PrintWords Go.Proofs.YtoblagangofflaaW.PrintLast Go.Proofs.YtoblagangofflaaW.PrintMore

theorem szSeaweed_val (a b : List Int) (ha : a.length ≤ maxLen) (hb : b.length ≤ maxLen) : laws_szSeaweed.f a b 1048576 = some (if a.length + b.length ≤ 1048576 then (1048576 : Int) - (a.length : Int) - (b.length : Int) else (-1 : Int)) := by
  unfold maxLen at ha hb
  unfold laws_szSeaweed.f laws_szIntS.f
  rw [wrap_id (x := 1048576 - (a.length : Int)) (by omega) (by omega)]
  by_cases h1 : 1048576 - (a.length : Int) < 0
  · rw [if_pos h1, Option.bind_some, if_pos (by omega), if_neg (by omega)]
  · rw [if_neg h1, Option.bind_some, if_neg h1, wrap_id (x := 1048576 - (a.length : Int) - (b.length : Int)) (by omega) (by omega)]
    by_cases h2 : 1048576 - (a.length : Int) - (b.length : Int) < 0
    · rw [if_pos h2, Option.bind_some, if_pos (by omega), if_neg (by omega)]
    · rw [if_neg h2, Option.bind_some, if_neg h2, if_pos (by omega)]
theorem toSeaweed_ev (a b : List Int) (ha : a.length ≤ 1048576) (hb : b.length ≤ 1048576) (k : Nat) (hk : a.length + b.length < k) : laws_toSeaweed.f k a b = some (a, b) := by
  unfold laws_toSeaweed.f
  rw [toIntS_ev a ha k (by omega), toIntS_ev b hb k (by omega)]; rfl
theorem eqSeaweed_ev (a b : List Int) (ha : a.length ≤ 1048576) (hb : b.length ≤ 1048576) (k : Nat) (hk : a.length + b.length < k) : laws_eqSeaweed.f k a b a b = some true := by
  unfold laws_eqSeaweed.f
  rw [eqIntS_ev a ha k (by omega), eqIntS_ev b hb k (by omega)]; rfl
/-- is this a seaweed -/
def weed (a b : List Int) : Bool := parts a && parts b && (sumw a == sumw b)
theorem swGood_ev (a b : List Int) (ha : a.length ≤ 1048576) (hb : b.length ≤ 1048576) (k : Nat) (hk : a.length + b.length < k) : spec_swGood.f k a b = some (weed a b) := by
  unfold spec_swGood.f weed
  rw [swParts_ev a ha k (by omega), swParts_ev b hb k (by omega), swSum_ev a ha k (by omega), swSum_ev b hb k (by omega)]
  cases parts a <;> cases parts b <;> simp
theorem isSeaweed_ev (a b : List Int) (ha : a.length ≤ 1048576) (hb : b.length ≤ 1048576) (k : Nat) (hk : a.length + b.length < k) : impl_IsSeaweed.f k a b = some (weed a b) := by
  unfold impl_IsSeaweed.f weed
  rw [areParts_ev a ha k (by omega), areParts_ev b hb k (by omega), sum_ev a ha k (by omega), sum_ev b hb k (by omega)]
  cases parts a <;> cases parts b <;> simp

theorem weed_len {a b : List Int} (h : weed a b = true) : a.length ≤ 20 ∧ b.length ≤ 20 := by
  unfold weed at h
  simp only [Bool.and_eq_true] at h
  exact ⟨parts_len h.1.1, parts_len h.1.2⟩
theorem markSeaweed_ev (a b : List Int) (ha : a.length ≤ 1048576) (hb : b.length ≤ 1048576) (k : Nat) (hk : a.length + b.length < k) : laws_markSeaweed.f k a b 1 = some (((1 + a.length + b.length : Nat) : Int), marks 1 a.length, marks (1 + a.length) b.length) := by
  unfold laws_markSeaweed.f
  have h1 := markIntS_ev a 1 ha (by omega) k (by omega)
  have h2 := markIntS_ev b (1 + a.length) hb (by omega) k (by omega)
  rw [Int.natCast_one] at h1
  rw [h1, Option.bind_some, h2]; rfl
theorem heldSeaweed_ev (n m : Nat) (ha : n ≤ 1048576) (hb : m ≤ 1048576) (k : Nat) (hk : n + m < k) : laws_heldSeaweed.f k (marks 1 n) (marks (1 + n) m) 1 = some ((1 + n + m : Nat) : Int) := by
  unfold laws_heldSeaweed.f
  have h1 := heldIntS_ev n 1 ha (by omega) k (by omega)
  have h2 := heldIntS_ev m (1 + n) hb (by omega) k (by omega)
  rw [Int.natCast_one] at h1
  rw [h1, Option.bind_some, if_neg (by omega), h2, Option.bind_some, if_neg (by omega)]

end Go.Proofs.Ytoblagangofflaa.Pure
