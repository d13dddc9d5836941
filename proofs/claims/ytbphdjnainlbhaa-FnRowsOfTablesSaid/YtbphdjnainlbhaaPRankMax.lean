/- The rank over the whole numbers is the greatest of the ranks modulo three primes, where all minors are small against their product. -/
import Derived.Test.YtbphdjnainlbhaaPElim
import Derived.Test.YtbphdjnainlbhaaPFermat
set_option linter.unusedVariables false
set_option linter.unusedSimpArgs false
namespace Go.Proofs.Ytbphdjnainlbhaa.Pure
open Go.RowKit Go.Proofs.Ytbphdjnainlbhaa.R Go.Proofs.YtbphdjnainlbhaaW.PrintWords Go.Proofs.YtbphdjnainlbhaaW.PrintLast Go.Proofs.YtbphdjnainlbhaaW.PrintMore

def M : Int := 3584 ^ 14
/-- rows all whose minors are small -/
def Bnd (n : Nat) (R : List (Nat → Int)) : Prop := ∃ C : Int, 1 ≤ C ∧ (∀ v ∈ R, sq n v ≤ C) ∧ C ^ R.length ≤ M
theorem pow_mono (C : Int) (hC : 1 ≤ C) (k m : Nat) (h : k ≤ m) : C ^ k ≤ C ^ m := by
  obtain ⟨d, rfl⟩ : ∃ d, m = k + d := ⟨m - k, by omega⟩
  clear h
  have pos : ∀ k : Nat, 1 ≤ C ^ k := by
    intro k
    induction k with
    | zero => simp
    | succ k ih => rw [Int.pow_succ]; have := Int.mul_le_mul ih hC (by omega) (by omega); simpa using this
  induction d with
  | zero => exact Int.le_refl _
  | succ d ih =>
    have := Int.mul_le_mul_of_nonneg_left hC (Int.le_trans (by omega) (pos (k + d)))
    rw [Int.mul_one] at this
    rw [← Nat.add_assoc, Int.pow_succ]
    exact Int.le_trans ih this
theorem bnd_sub {n : Nat} {R E : List (Nat → Int)} (h : Bnd n R) (hs : ∀ v ∈ E, v ∈ R) (hl : E.length ≤ R.length) : Bnd n E := by
  obtain ⟨C, h1, h2, h3⟩ := h
  exact ⟨C, h1, fun v hv => h2 v (hs v hv), Int.le_trans (pow_mono C h1 _ _ hl) h3⟩
theorem minor_small {n : Nat} {R : List (Nat → Int)} (h : Bnd n R) (t : List Bool) (ht : t.length = n) : wedges R one t * wedges R one t ≤ M := by
  obtain ⟨C, h1, h2, h3⟩ := h
  exact Int.le_trans (inner_comp n _ t ht) (Int.le_trans (hadamard n C (by omega) R h2) h3)
/-- three primes whose product is great against the minors -/
structure Three (p q r : Nat) : Prop where
  p1 : Prime p
  q1 : Prime q
  r1 : Prime r
  pq : p ≠ q
  pr : p ≠ r
  qr : q ≠ r
  big : M + 1 ≤ (((p * q * r : Nat) : Int) - 200000000000000000) * (((p * q * r : Nat) : Int) - 200000000000000000)
  big1 : 200000000000000000 ≤ ((p * q * r : Nat) : Int)
theorem prime_cop {p q : Nat} (hp : Prime p) (hq : Prime q) (h : p ≠ q) : Nat.Coprime p q := by
  rcases hp.2 _ (Nat.gcd_dvd_left p q) with h1 | h1
  · exact h1
  · have h2 : p ∣ q := h1 ▸ Nat.gcd_dvd_right p q
    rcases hq.2 p h2 with h3 | h3
    · have := hp.1; omega
    · exact absurd h3 h
theorem three_dvd {p q r : Nat} (h : Three p q r) {c : Int} (h1 : (p : Int) ∣ c) (h2 : (q : Int) ∣ c) (h3 : (r : Int) ∣ c) : ((p * q * r : Nat) : Int) ∣ c := by
  have g1 := Int.ofNat_dvd_left.1 h1
  have g2 := Int.ofNat_dvd_left.1 h2
  have g3 := Int.ofNat_dvd_left.1 h3
  have c1 := prime_cop h.p1 h.q1 h.pq
  have c2 : Nat.Coprime (p * q) r := Nat.Coprime.mul_left (prime_cop h.p1 h.r1 h.pr) (prime_cop h.q1 h.r1 h.qr)
  exact Int.ofNat_dvd_left.2 (Nat.Coprime.mul_dvd_of_dvd_of_dvd c2 (Nat.Coprime.mul_dvd_of_dvd_of_dvd c1 g1 g2) g3)
theorem dvd_small {N c : Int} (hN : 0 < N) (h : N ∣ c) (h1 : -N < c) (h2 : c < N) : c = 0 := by
  obtain ⟨k, rfl⟩ := h
  have a1 : k < 1 := by
    refine Int.not_le.1 fun hk => ?_
    have := Int.mul_le_mul_of_nonneg_left hk (Int.le_of_lt hN); rw [Int.mul_one] at this; omega
  have a2 : -1 < k := by
    refine Int.not_le.1 fun hk => ?_
    have := Int.mul_le_mul_of_nonneg_left hk (Int.le_of_lt hN); rw [Int.mul_neg, Int.mul_one] at this; omega
  rw [show k = 0 by omega, Int.mul_zero]
theorem sq_small {x N : Int} (hN : 0 ≤ N) (h : x * x < N * N) : -N < x ∧ x < N := by
  constructor
  · refine Int.not_le.1 fun hx => ?_
    have := Int.mul_le_mul (show N ≤ -x by omega) (show N ≤ -x by omega) hN (by omega)
    rw [Int.neg_mul_neg] at this; omega
  · refine Int.not_le.1 fun hx => ?_
    have := Int.mul_le_mul hx hx hN (by omega); omega
theorem three_small {p q r : Nat} (h : Three p q r) {x : Int} (hx : x * x ≤ M) : -(((p * q * r : Nat) : Int) - 200000000000000000) < x ∧ x < ((p * q * r : Nat) : Int) - 200000000000000000 := by
  have h1 := h.big
  have h2 := h.big1
  exact sq_small (by omega) (by omega)
theorem three_zero {p q r : Nat} (h : Three p q r) {x : Int} (hx : x * x ≤ M) (h1 : (p : Int) ∣ x) (h2 : (q : Int) ∣ x) (h3 : (r : Int) ∣ x) : x = 0 := by
  have hs := three_small h hx
  have hd := three_dvd h h1 h2 h3
  have hb := h.big1
  generalize ((p * q * r : Nat) : Int) = N at *
  exact dvd_small (by omega) hd (by omega) (by omega)
theorem rank_unique {p : Int} {n : Nat} {R : List (Nat → Int)} {r s : Nat} (h1 : IsRank p n R r) (h2 : IsRank p n R s) : r = s := by
  rcases Nat.lt_trichotomy r s with h | h | h
  · exact absurd (rk_le h2.1 h) h1.2
  · exact h
  · exact absurd (rk_le h1.1 h) h2.2
theorem rk_zero {p : Int} (h1 : ¬ p ∣ 1) (n : Nat) (R : List (Nat → Int)) : Rk p n R 0 :=
  ⟨[], rfl, fun v hv => (by cases hv), fun h => h1 (by have := h (List.replicate n false) (by simp); rw [wedges_nil, one_false] at this; exact this)⟩
theorem rank_exists {p : Int} (h1 : ¬ p ∣ 1) (n : Nat) (R : List (Nat → Int)) : ∃ r, IsRank p n R r := by
  have key : ∀ d k, k + d = R.length + 1 → Rk p n R k → ∃ r, IsRank p n R r := by
    intro d
    induction d with
    | zero => intro k hk h; have := rk_pigeon h; omega
    | succ d ih =>
      intro k hk h
      by_cases h2 : Rk p n R (k + 1)
      · exact ih (k + 1) (by omega) h2
      · exact ⟨k, h, h2⟩
  exact key (R.length + 1) 0 (by omega) (rk_zero h1 n R)
theorem rank_max {p q r : Nat} (h : Three p q r) {n : Nat} {R : List (Nat → Int)} (hB : Bnd n R) {a b c ρ : Nat} (ha : IsRank (p : Int) n R a) (hb : IsRank (q : Int) n R b) (hc : IsRank (r : Int) n R c) (hρ : IsRank 0 n R ρ) : max a (max b c) = ρ := by
  have up : ∀ (x : Int) (m : Nat), Rk x n R m → m ≤ ρ := by
    intro x m hm
    have h0 : Rk 0 n R m := by
      obtain ⟨L, h1, h2, h3⟩ := hm
      refine ⟨L, h1, h2, fun hz => h3 fun t ht => ?_⟩
      have := hz t ht
      rw [Int.zero_dvd.1 this]; exact ⟨0, by simp⟩
    refine Nat.le_of_not_lt fun hlt => hρ.2 (rk_le h0 hlt)
  have u1 := up _ _ ha.1
  have u2 := up _ _ hb.1
  have u3 := up _ _ hc.1
  obtain ⟨L, h1, h2, h3⟩ := hρ.1
  have hn := nodup_of one L h3
  have hl := pigeon R L hn h2
  have : ∃ t, t.length = n ∧ wedges L one t ≠ 0 := by
    refine Classical.byContradiction fun hc => h3 fun t ht => ?_
    refine Classical.byContradiction fun h4 => hc ⟨t, ht, fun h5 => h4 (by rw [h5]; exact ⟨0, by simp⟩)⟩
  obtain ⟨t, ht, hne⟩ := this
  have hm := minor_small (bnd_sub hB h2 hl) t ht
  have dn : ∀ (x : Nat) (m : Nat), IsRank (x : Int) n R m → ¬ (x : Int) ∣ wedges L one t → ρ ≤ m := by
    intro x m hx hnd
    have : Rk (x : Int) n R ρ := ⟨L, h1, h2, fun hz => hnd (hz t ht)⟩
    refine Nat.le_of_not_lt fun hlt => hx.2 (rk_le this hlt)
  by_cases d1 : (p : Int) ∣ wedges L one t
  · by_cases d2 : (q : Int) ∣ wedges L one t
    · by_cases d3 : (r : Int) ∣ wedges L one t
      · exact absurd (three_zero h hm d1 d2 d3) hne
      · have := dn r c hc d3; omega
    · have := dn q b hb d2; omega
  · have := dn p a ha d1; omega
theorem three_p : Three 2147483647 2147483629 2147483587 := ⟨prime_p0, prime_p1, prime_p2, by decide, by decide, by decide, by unfold M; decide +kernel, by decide +kernel⟩
theorem three_q : Three 1000000007 998244353 1000000009 := ⟨prime_q0, prime_q1, prime_q2, by decide, by decide, by decide, by unfold M; decide +kernel, by decide +kernel⟩

end Go.Proofs.Ytbphdjnainlbhaa.Pure
