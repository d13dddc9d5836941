/- What the helpers of the exact laws over a pair compute; the tests of a pair and of a single curve. -/
import Derived.Test.YteflkoghligofaaPCurves
import Derived.Test.YteflkoghligofaaC1
import Derived.Test.YteflkoghligofaaC2
import Derived.Test.YteflkoghligofaaC3
import Derived.Test.YteflkoghligofaaC5
set_option linter.unusedVariables false
set_option linter.unusedSimpArgs false
namespace Go.Proofs.Yteflkoghligofaa.Pure
open Go.RowKit Go.Proofs.Yteflkoghligofaa.C Go.Proofs.YteflkoghligofaaW.PrintWords Go.Proofs.YteflkoghligofaaW.PrintLast Go.Proofs.YteflkoghligofaaW.PrintMore

theorem szMeander_val (a b : List Int) (ha : a.length ≤ maxLen) (hb : b.length ≤ maxLen) : laws_szMeander.f a b 1048576 = some (if a.length + b.length ≤ 1048576 then (1048576 : Int) - (a.length : Int) - (b.length : Int) else (-1 : Int)) := by
  unfold maxLen at ha hb
  unfold laws_szMeander.f laws_szIntS.f
  rw [wrap_id (x := 1048576 - (a.length : Int)) (by omega) (by omega)]
  by_cases h1 : 1048576 - (a.length : Int) < 0
  · rw [if_pos h1, Option.bind_some, if_pos (by omega), if_neg (by omega)]
  · rw [if_neg h1, Option.bind_some, if_neg h1, wrap_id (x := 1048576 - (a.length : Int) - (b.length : Int)) (by omega) (by omega)]
    by_cases h2 : 1048576 - (a.length : Int) - (b.length : Int) < 0
    · rw [if_pos h2, Option.bind_some, if_pos (by omega), if_neg (by omega)]
    · rw [if_neg h2, Option.bind_some, if_neg h2, if_pos (by omega)]
theorem toMeander_ev (a b : List Int) (ha : a.length ≤ 1048576) (hb : b.length ≤ 1048576) (k : Nat) (hk : a.length + b.length < k) : laws_toMeander.f k a b = some (a, b) := by
  unfold laws_toMeander.f
  rw [toIntS_ev a ha k (by omega), toIntS_ev b hb k (by omega)]; rfl
theorem eqMeander_ev (a b : List Int) (ha : a.length ≤ 1048576) (hb : b.length ≤ 1048576) (k : Nat) (hk : a.length + b.length < k) : laws_eqMeander.f k a b a b = some true := by
  unfold laws_eqMeander.f
  rw [eqIntS_ev a ha k (by omega), eqIntS_ev b hb k (by omega)]; rfl
theorem markMeander_ev (a b : List Int) (ha : a.length ≤ 1048576) (hb : b.length ≤ 1048576) (k : Nat) (hk : a.length + b.length < k) : laws_markMeander.f k a b 1 = some (((1 + a.length + b.length : Nat) : Int), marks 1 a.length, marks (1 + a.length) b.length) := by
  unfold laws_markMeander.f
  have h1 := markIntS_ev a 1 ha (by omega) k (by omega)
  have h2 := markIntS_ev b (1 + a.length) hb (by omega) k (by omega)
  rw [Int.natCast_one] at h1
  rw [h1, Option.bind_some, h2]; rfl

/-- is this a pair -/
def pairB (p q : List Int) : Bool := good p && (good q && decide (p.length = q.length))
theorem pairB_pair {p q : List Int} (h : pairB p q = true) : Pair p q := by
  unfold pairB at h
  simp only [Bool.and_eq_true, decide_eq_true_eq] at h
  exact ⟨h.1, h.2.1, h.2.2⟩
theorem len_eq (p q : List Int) : ((p.length : Int) == (q.length : Int)) = decide (p.length = q.length) := by
  by_cases h : p.length = q.length
  · simp [h]
  · have : ¬ (p.length : Int) = (q.length : Int) := by omega
    simp [h, this]
theorem mePair_ev (p q : List Int) (hp : p.length ≤ 1048576) (hq : q.length ≤ 1048576) (k : Nat) (hk : p.length + q.length + 1000 ≤ k) : spec_mePair.f k p q = some (pairB p q) := by
  unfold spec_mePair.f pairB
  rw [ahGood_ev p hp k (by omega), ahGood_ev q hq k (by omega), len_eq]
  cases good p <;> cases good q <;> simp
theorem isPair_ev (p q : List Int) (k : Nat) (hk : 1000 ≤ k) : impl_IsPair.f k p q = some (pairB p q) := by
  unfold impl_IsPair.f pairB
  rw [isSystem_ev p k (by omega), isSystem_ev q k (by omega)]
  simp only [len_eq]
  cases good p <;> cases good q <;> simp
/-- is this a meander -/
def meander (p q : List Int) : Bool := pairB p q && single p q
theorem peSingle_ev (p q : List Int) (hp : p.length ≤ 1048576) (hq : q.length ≤ 1048576) (k : Nat) (hk : p.length + q.length + 1000 ≤ k) : spec_peSingle.f k p q = some (meander p q) := by
  unfold spec_peSingle.f meander
  rw [mePair_ev p q hp hq k hk]
  cases h : pairB p q with
  | false => simp
  | true =>
    have hP := pairB_pair h
    rw [Option.bind_some, if_pos rfl, count_ev hP k (by omega), Option.bind_some, count_single hP]
    rfl
theorem meander_one {p q : List Int} (h : meander p q = true) : Pair p q ∧ 0 < p.length ∧ ∀ j, j < p.length → j ∈ wayOf (qof p) (qof q) p.length 0 := by
  unfold meander at h
  simp only [Bool.and_eq_true] at h
  have hP := pairB_pair h.1
  have h2 := h.2
  unfold single at h2
  exact ⟨hP, one_curve hP.two (of_decide_eq_true h2)⟩
/-- the word of a pair -/
def word (p q : List Int) : List Int := ints (wayOf (qof p) (qof q) p.length 0)

end Go.Proofs.Yteflkoghligofaa.Pure
