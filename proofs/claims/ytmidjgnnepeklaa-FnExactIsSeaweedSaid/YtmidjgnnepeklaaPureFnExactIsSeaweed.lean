/- The law FnExactIsSeaweed, as plain lists tell it: at every pair of slices of whole numbers the program's IsSeaweed answers what the reference's does. No condition but the law's own guard. -/
import Derived.Test.YtmidjgnnepeklaaPWeed
import Derived.Test.YtmidjgnnepeklaaX1
import Derived.Test.YtmidjgnnepeklaaX2
import Derived.Test.YtmidjgnnepeklaaX3
set_option linter.unusedVariables false
set_option linter.unusedSimpArgs false
namespace Go.Proofs.Ytmidjgnnepeklaa.Pure
open Go.RowKit Go.Proofs.Ytmidjgnnepeklaa.X Go.Proofs.YtmidjgnnepeklaaW.PrintWords Go.Proofs.YtmidjgnnepeklaaW.PrintLast Go.Proofs.YtmidjgnnepeklaaW.PrintMore

theorem szSeaweed_val (a b : List Int) (ha : a.length ≤ maxLen) (hb : b.length ≤ maxLen) : laws_szSeaweed.f a b 1048576 = some (if a.length + b.length ≤ 1048576 then (1048576 : Int) - (a.length : Int) - (b.length : Int) else (-1 : Int)) := by
  unfold maxLen at ha hb
  unfold laws_szSeaweed.f laws_szIntS.f
  rw [wrap_id (x := 1048576 - (a.length : Int)) (by omega) (by omega)]
  by_cases h1 : 1048576 - (a.length : Int) < 0
  · rw [if_pos h1, Option.bind_some, if_pos (by omega), if_neg (by omega)]
  · rw [if_neg h1, Option.bind_some, if_neg h1, wrap_id (x := 1048576 - (a.length : Int) - (b.length : Int)) (by omega) (by omega)]
    by_cases h2 : 1048576 - (a.length : Int) - (b.length : Int) < 0
    · rw [if_pos h2, Option.bind_some, if_pos (by omega), if_neg (by omega)]
    · rw [if_neg h2, Option.bind_some, if_neg h2, if_pos (by omega)]
theorem toSeaweed_ev (a b : List Int) (ha : a.length ≤ 1048576) (hb : b.length ≤ 1048576) (k : Nat) (hk : a.length + b.length < k) : laws_toSeaweed.f k a b = some (a, b) := by
  unfold laws_toSeaweed.f
  rw [toIntS_ev a ha k (by omega), toIntS_ev b hb k (by omega)]; rfl
theorem eqSeaweed_ev (a b : List Int) (ha : a.length ≤ 1048576) (hb : b.length ≤ 1048576) (k : Nat) (hk : a.length + b.length < k) : laws_eqSeaweed.f k a b a b = some true := by
  unfold laws_eqSeaweed.f
  rw [eqIntS_ev a ha k (by omega), eqIntS_ev b hb k (by omega)]; rfl
/-- is this a seaweed -/
def weed (a b : List Int) : Bool := parts a && parts b && (sumw a == sumw b)
theorem swGood_ev (a b : List Int) (ha : a.length ≤ 1048576) (hb : b.length ≤ 1048576) (k : Nat) (hk : a.length + b.length < k) : spec_swGood.f k a b = some (weed a b) := by
  unfold spec_swGood.f weed
  rw [swParts_ev a ha k (by omega), swParts_ev b hb k (by omega), swSum_ev a ha k (by omega), swSum_ev b hb k (by omega)]
  cases parts a <;> cases parts b <;> simp
theorem isSeaweed_ev (a b : List Int) (ha : a.length ≤ 1048576) (hb : b.length ≤ 1048576) (k : Nat) (hk : a.length + b.length < k) : impl_IsSeaweed.f k a b = some (weed a b) := by
  unfold impl_IsSeaweed.f weed
  rw [areParts_ev a ha k (by omega), areParts_ev b hb k (by omega), sum_ev a ha k (by omega), sum_ev b hb k (by omega)]
  cases parts a <;> cases parts b <;> simp
theorem FnExactIsSeaweed : laws_FnExactIsSeaweed.Pure := by
  intro a b ha _ hb _
  refine ⟨a.length + b.length + 1, ?_⟩
  unfold laws_FnExactIsSeaweed.f
  rw [szSeaweed_val a b ha hb, Option.bind_some]
  by_cases h : a.length + b.length ≤ 1048576
  · rw [if_pos h, if_neg (by omega)]
    simp (disch := omega) only [toSeaweed_ev, Option.bind_some, spec_IsSeaweed.f, swGood_ev, isSeaweed_ev, eqSeaweed_ev]
    simp
  · rw [if_neg h, if_pos (by omega)]

end Go.Proofs.Ytmidjgnnepeklaa.Pure
