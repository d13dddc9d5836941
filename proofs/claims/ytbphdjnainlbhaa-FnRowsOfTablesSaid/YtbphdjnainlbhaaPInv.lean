/- Numbers modulo a prime as the program and the reference reckon them: rests, a row's change, the inverse. -/
import Derived.Laws.BitsLemmas
import Derived.Test.YtbphdjnainlbhaaPNum
import Derived.Test.YtbphdjnainlbhaaPFermat
import Derived.Test.YtbphdjnainlbhaaQA2
set_option linter.unusedVariables false
set_option linter.unusedSimpArgs false
namespace Go.Proofs.Ytbphdjnainlbhaa.Pure
open Go.RowKit Go.Proofs.Ytbphdjnainlbhaa.R Go.Proofs.YtbphdjnainlbhaaW.PrintWords Go.Proofs.YtbphdjnainlbhaaW.PrintLast Go.Proofs.YtbphdjnainlbhaaW.PrintMore

theorem and_one (n : Int) : Go.bits .and .i64 n 1 = n % 2 := by
  have h1 : (BitVec.ofInt 64 1).toNat = 2 ^ 1 - 1 := by decide
  have key : (BitVec.ofInt 64 n &&& BitVec.ofInt 64 1).toNat = (n % ((2 ^ 64 : Nat) : Int)).toNat % 2 ^ 1 := by
    rw [BitVec.toNat_and, BitVec.toNat_ofInt, h1, Nat.and_two_pow_sub_one_eq_mod]
  show IntKind.i64.wrap ((BitVec.ofInt 64 n &&& BitVec.ofInt 64 1).toNat : Nat) = n % 2
  rw [key, IntKind.wrap_i64]
  omega
theorem tmod_range (x p : Int) (hp : 0 < p) : -p < Int.tmod x p ∧ Int.tmod x p < p := by
  refine ⟨?_, Int.tmod_lt_of_pos x hp⟩
  have h := Int.tmod_lt_of_pos (-x) hp
  rw [Int.neg_tmod] at h
  omega
/-- the rest of a number, from 0 on -/
theorem rest_val (x p : Int) (hp : 0 < p) (hp2 : p ≤ 2147483648) : Int.tmod (wrap64 (Int.tmod x p + p)) p = x % p := by
  obtain ⟨h1, h2⟩ := tmod_range x p hp
  rw [wrap_id (by omega) (by omega), Int.tmod_eq_emod_of_nonneg (by omega), Int.add_emod_right]
  have := Int.tmod_add_mul_tdiv x p
  conv => rhs; rw [← this]
  rw [Int.add_mul_emod_self_left]
theorem emod_in (x p : Int) (hp : 0 < p) : 0 ≤ x % p ∧ x % p < p := ⟨Int.emod_nonneg _ (by omega), Int.emod_lt_of_pos _ hp⟩
theorem emod_dvd (x p : Int) : p ∣ x % p - x := ⟨-(x / p), by have := Int.emod_add_mul_ediv x p; rw [Int.mul_neg]; omega⟩
theorem irest_ev (x p : Int) (hp : 0 < p) (hp2 : p ≤ 2147483648) : impl_rest.f x p = some (x % p) := by
  unfold impl_rest.f
  rw [if_neg (by omega), rest_val x p hp hp2]
theorem smod_ev (x p : Int) (hp : 0 < p) (hp2 : p ≤ 2147483648) : spec_taSteps.mod p x = x % p := rest_val x p hp hp2
theorem mul_small {p a b : Int} (hp2 : p ≤ 2147483648) (ha : 0 ≤ a ∧ a ≤ p) (hb : 0 ≤ b ∧ b ≤ p) : 0 ≤ a * b ∧ a * b ≤ 4611686018427387904 := by
  refine ⟨Int.mul_nonneg ha.1 hb.1, ?_⟩
  have h1 : a * b ≤ a * 2147483648 := Int.mul_le_mul_of_nonneg_left (by omega) ha.1
  omega
/-- a product modulo p -/
theorem prod_val {p a b : Int} (hp : 0 < p) (hp2 : p ≤ 2147483648) (ha : 0 ≤ a ∧ a ≤ p) (hb : 0 ≤ b ∧ b ≤ p) : Int.tmod (wrap64 (a * b)) p = (a * b) % p := by
  have := mul_small hp2 ha hb
  rw [wrap_id (by omega) (by omega), Int.tmod_eq_emod_of_nonneg this.1]
/-- a number of a row, changed as the program changes it -/
theorem ired_ev {p t x y : Int} (hp : 0 < p) (hp2 : p ≤ 2147483648) (ht : 0 ≤ t ∧ t < p) (hx : 0 ≤ x ∧ x < p) (hy : 0 ≤ y ∧ y < p) :
    impl_rest.f (wrap64 (x - Int.tmod (wrap64 (t * y)) p)) p = some ((x - t * y) % p) := by
  rw [prod_val hp hp2 (by omega) (by omega), irest_ev _ p hp hp2]
  have h := emod_in (t * y) p hp
  rw [wrap_id (by omega) (by omega), Int.sub_emod_emod]
/-- and as the reference changes it -/
theorem sone_ev {p t x y : Int} (hp : 0 < p) (hp2 : p ≤ 2147483648) (ht : 0 ≤ t ∧ t < p) (hx : 0 ≤ x ∧ x < p) (hy : 0 ≤ y ∧ y < p) :
    spec_taSteps.one p t x y = (x - t * y) % p := by
  unfold spec_taSteps.one
  have h := mul_small (a := p - t) (b := y) hp2 (by omega) (by omega)
  rw [wrap_id (x := p - t) (by omega) (by omega), wrap_id (x := (p - t) * y) (by omega) (by omega), wrap_id (by omega) (by omega), Int.tmod_eq_emod_of_nonneg (by omega)]
  rw [show x + (p - t) * y = (x - t * y) + p * y by rw [Int.sub_mul]; omega, Int.add_mul_emod_self_left]
/-- the inverse: powers by squares -/
theorem pow_dvd {p a b : Int} (h : p ∣ a - b) : ∀ n : Nat, p ∣ a ^ n - b ^ n
  | 0 => ⟨0, by simp⟩
  | n + 1 => by
    obtain ⟨u, hu⟩ := h
    obtain ⟨v, hv⟩ := pow_dvd ⟨u, hu⟩ n
    refine ⟨a ^ n * u + v * b, ?_⟩
    rw [Int.pow_succ, Int.pow_succ]
    grind
theorem half_pow {p a o r s q : Int} (n : Nat) (h1 : p ∣ s - a * a) (h2 : p ∣ q - o) (h : p ∣ r - q * s ^ n) : p ∣ r - o * a ^ (2 * n) := by
  obtain ⟨u, hu⟩ := pow_dvd h1 n
  obtain ⟨v, hv⟩ := h2
  obtain ⟨w, hw⟩ := h
  have e : a ^ (2 * n) = (a * a) ^ n := by rw [Int.pow_mul]; congr 1; rw [show (2 : Nat) = 1 + 1 from rfl, Int.pow_succ, Int.pow_succ]; simp
  rw [e]
  exact ⟨w + v * s ^ n + o * u, by grind⟩
theorem iinv_l0 (p : Int) (hp : 0 < p) (hp2 : p ≤ 2147483648) (d : Nat) : ∀ (k n : Nat) (a o : Int), n < 2 ^ d → n ≤ 4294967296 → d + 1 ≤ k → 0 ≤ a ∧ a < p → 0 ≤ o ∧ o < p →
    ∃ r, impl_inverseMod.l0 k a p o (n : Int) = some r ∧ 0 ≤ r ∧ r < p ∧ p ∣ r - o * a ^ n := by
  induction d with
  | zero =>
    intro k n a o hn hn2 hk ha ho
    obtain ⟨k, rfl⟩ : ∃ m, k = m + 1 := ⟨k - 1, by omega⟩
    obtain rfl : n = 0 := by simpa using hn
    rw [impl_inverseMod.l0, if_neg (by omega)]
    exact ⟨o, rfl, ho.1, ho.2, 0, by simp⟩
  | succ d ih =>
    intro k n a o hn hn2 hk ha ho
    obtain ⟨k, rfl⟩ : ∃ m, k = m + 1 := ⟨k - 1, by omega⟩
    by_cases h0 : n = 0
    · subst h0
      rw [impl_inverseMod.l0, if_neg (by omega)]
      exact ⟨o, rfl, ho.1, ho.2, 0, by simp⟩
    have haa := emod_in (a * a) p hp
    have e2 : (n : Int) / 2 = ((n / 2 : Nat) : Int) := by omega
    rw [impl_inverseMod.l0, if_pos (by omega), and_one]
    by_cases hb : (n : Int) % 2 = 1
    · have hoa := emod_in (o * a) p hp
      rw [if_pos hb, if_neg (by omega), prod_val hp hp2 (by omega) (by omega), prod_val hp hp2 (by omega) (by omega), e2]
      obtain ⟨r, h1, h2, h3, h4⟩ := ih k (n / 2) (a * a % p) (o * a % p) (by rw [Nat.pow_succ] at hn; omega) (by omega) (by omega) haa hoa
      refine ⟨r, h1, h2, h3, ?_⟩
      have := half_pow (n / 2) (emod_dvd (a * a) p) (emod_dvd (o * a) p) h4
      have e : n = 2 * (n / 2) + 1 := by omega
      obtain ⟨w, hw⟩ := this
      rw [show a ^ n = a ^ (2 * (n / 2)) * a by conv => lhs; rw [e, Int.pow_succ]]
      exact ⟨w, by grind⟩
    · rw [if_neg hb, if_neg (by omega), prod_val hp hp2 (by omega) (by omega), e2]
      obtain ⟨r, h1, h2, h3, h4⟩ := ih k (n / 2) (a * a % p) o (by rw [Nat.pow_succ] at hn; omega) (by omega) (by omega) haa ho
      refine ⟨r, h1, h2, h3, ?_⟩
      have := half_pow (n / 2) (emod_dvd (a * a) p) (show p ∣ o - o from ⟨0, by simp⟩) h4
      have e : n = 2 * (n / 2) := by omega
      rw [← e] at this
      exact this
theorem sinv_l0 (p : Int) (hp : 0 < p) (hp2 : p ≤ 2147483648) (d : Nat) : ∀ (k n : Nat) (a o : Int), n < 2 ^ d → n ≤ 4294967296 → d + 1 ≤ k → 0 ≤ a ∧ a < p → 0 ≤ o ∧ o < p →
    ∃ r, spec_taInverse.l0 k a p o (n : Int) = some r ∧ 0 ≤ r ∧ r < p ∧ p ∣ r - o * a ^ n := by
  induction d with
  | zero =>
    intro k n a o hn hn2 hk ha ho
    obtain ⟨k, rfl⟩ : ∃ m, k = m + 1 := ⟨k - 1, by omega⟩
    obtain rfl : n = 0 := by simpa using hn
    rw [spec_taInverse.l0, if_neg (by omega)]
    exact ⟨o, rfl, ho.1, ho.2, 0, by simp⟩
  | succ d ih =>
    intro k n a o hn hn2 hk ha ho
    obtain ⟨k, rfl⟩ : ∃ m, k = m + 1 := ⟨k - 1, by omega⟩
    by_cases h0 : n = 0
    · subst h0
      rw [spec_taInverse.l0, if_neg (by omega)]
      exact ⟨o, rfl, ho.1, ho.2, 0, by simp⟩
    have haa := emod_in (a * a) p hp
    have e2 : wrap64 (Int.tdiv (n : Int) 2) = ((n / 2 : Nat) : Int) := by rw [Int.tdiv_eq_ediv_of_nonneg (by omega), wrap_id (by omega) (by omega)]; omega
    rw [spec_taInverse.l0, if_pos (by omega), Int.tmod_eq_emod_of_nonneg (a := (n : Int)) (by omega)]
    by_cases hb : (n : Int) % 2 = 1
    · have hoa := emod_in (o * a) p hp
      rw [if_pos hb, if_neg (by omega), prod_val hp hp2 (by omega) (by omega), prod_val hp hp2 (by omega) (by omega), e2]
      obtain ⟨r, h1, h2, h3, h4⟩ := ih k (n / 2) (a * a % p) (o * a % p) (by rw [Nat.pow_succ] at hn; omega) (by omega) (by omega) haa hoa
      refine ⟨r, h1, h2, h3, ?_⟩
      have := half_pow (n / 2) (emod_dvd (a * a) p) (emod_dvd (o * a) p) h4
      have e : n = 2 * (n / 2) + 1 := by omega
      obtain ⟨w, hw⟩ := this
      rw [show a ^ n = a ^ (2 * (n / 2)) * a by conv => lhs; rw [e, Int.pow_succ]]
      exact ⟨w, by grind⟩
    · rw [if_neg hb, if_neg (by omega), prod_val hp hp2 (by omega) (by omega), e2]
      obtain ⟨r, h1, h2, h3, h4⟩ := ih k (n / 2) (a * a % p) o (by rw [Nat.pow_succ] at hn; omega) (by omega) (by omega) haa ho
      refine ⟨r, h1, h2, h3, ?_⟩
      have := half_pow (n / 2) (emod_dvd (a * a) p) (show p ∣ o - o from ⟨0, by simp⟩) h4
      have e : n = 2 * (n / 2) := by omega
      rw [← e] at this
      exact this
theorem fermat_int {p : Nat} (hp : Prime p) (a : Int) (ha : ¬ (p : Int) ∣ a) (h0 : 0 ≤ a) : (p : Int) ∣ a * a ^ (p - 2) - 1 := by
  obtain ⟨b, rfl⟩ : ∃ b : Nat, a = (b : Int) := ⟨a.toNat, by omega⟩
  have h2 := hp.1
  have h := fermat hp b (fun hd => ha (Int.natCast_dvd_natCast.2 hd))
  have e : (b : Int) * (b : Int) ^ (p - 2) = ((b ^ (p - 1) : Nat) : Int) := by
    rw [show p - 1 = (p - 2) + 1 by omega, Nat.pow_succ, Int.natCast_mul, Int.natCast_pow, Int.mul_comm]
  rw [e]
  have h3 := Nat.div_add_mod (b ^ (p - 1)) p
  rw [h] at h3
  exact ⟨((b ^ (p - 1) / p : Nat) : Int), by rw [← Int.natCast_mul]; omega⟩
theorem iinv_ev {p : Nat} (hp : Prime p) (hp2 : p ≤ 2147483648) (a : Int) (ha : 0 ≤ a ∧ a < p) (hd : ¬ (p : Int) ∣ a) (k : Nat) (hk : 40 ≤ k) : ∃ r, impl_inverseMod.f k a p = some r ∧ 0 ≤ r ∧ r < p ∧ (p : Int) ∣ a * r - 1 := by
  have h2 := hp.1
  unfold impl_inverseMod.f
  rw [wrap_id (by omega) (by omega), show (p : Int) - 2 = ((p - 2 : Nat) : Int) by omega]
  obtain ⟨r, h1, h3, h4, h5⟩ := iinv_l0 (p : Int) (by omega) (by omega) 32 k (p - 2) a 1 (by omega) (by omega) (by omega) ha (by omega)
  refine ⟨r, h1, h3, h4, ?_⟩
  obtain ⟨u, hu⟩ := fermat_int hp a hd ha.1
  obtain ⟨v, hv⟩ := h5
  exact ⟨u + a * v, by grind⟩
theorem sinv_ev {p : Nat} (hp : Prime p) (hp2 : p ≤ 2147483648) (a : Int) (ha : 0 ≤ a ∧ a < p) (hd : ¬ (p : Int) ∣ a) (k : Nat) (hk : 40 ≤ k) : ∃ r, spec_taInverse.f k a p = some r ∧ 0 ≤ r ∧ r < p ∧ (p : Int) ∣ a * r - 1 := by
  have h2 := hp.1
  unfold spec_taInverse.f
  rw [wrap_id (by omega) (by omega), show (p : Int) - 2 = ((p - 2 : Nat) : Int) by omega]
  obtain ⟨r, h1, h3, h4, h5⟩ := sinv_l0 (p : Int) (by omega) (by omega) 32 k (p - 2) a 1 (by omega) (by omega) (by omega) ha (by omega)
  refine ⟨r, h1, h3, h4, ?_⟩
  obtain ⟨u, hu⟩ := fermat_int hp a hd ha.1
  obtain ⟨v, hv⟩ := h5
  exact ⟨u + a * v, by grind⟩

end Go.Proofs.Ytbphdjnainlbhaa.Pure
