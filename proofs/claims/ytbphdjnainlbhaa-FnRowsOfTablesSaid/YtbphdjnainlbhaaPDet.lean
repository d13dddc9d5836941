/- Both determinants: the number is got back out of its rests by three primes. -/
import Derived.Test.YtbphdjnainlbhaaPRk
import Derived.Test.YtbphdjnainlbhaaQA2
set_option linter.unusedVariables false
set_option linter.unusedSimpArgs false
namespace Go.Proofs.Ytbphdjnainlbhaa.Pure
open Go.RowKit Go.Proofs.Ytbphdjnainlbhaa.R Go.Proofs.YtbphdjnainlbhaaW.PrintWords Go.Proofs.YtbphdjnainlbhaaW.PrintLast Go.Proofs.YtbphdjnainlbhaaW.PrintMore

theorem two_dvd {p q r : Nat} (h : Three p q r) {c : Int} (h1 : (p : Int) ∣ c) (h2 : (q : Int) ∣ c) : ((p * q : Nat) : Int) ∣ c := by
  have g1 := Int.ofNat_dvd_left.1 h1
  have g2 := Int.ofNat_dvd_left.1 h2
  exact Int.ofNat_dvd_left.2 (Nat.Coprime.mul_dvd_of_dvd_of_dvd (prime_cop h.p1 h.q1 h.pq) g1 g2)
theorem dvd_trans_sub {p a b c : Int} (h1 : p ∣ a - b) (h2 : p ∣ b - c) : p ∣ a - c := by
  obtain ⟨u, hu⟩ := h1
  obtain ⟨v, hv⟩ := h2
  exact ⟨u + v, by rw [Int.mul_add]; omega⟩
theorem dvd_symm {p a b : Int} (h : p ∣ a - b) : p ∣ b - a := by
  obtain ⟨u, hu⟩ := h
  exact ⟨-u, by rw [Int.mul_neg]; omega⟩
theorem emod_is {r z c : Int} (hc : 0 ≤ c ∧ c < r) (h : r ∣ c - z) : z % r = c := by
  obtain ⟨u, hu⟩ := h
  have e : z = c + r * (-u) := by rw [Int.mul_neg]; omega
  rw [e, Int.add_mul_emod_self_left, Int.emod_eq_of_lt hc.1 hc.2]
theorem emod_eq_dvd {r z c : Int} (h : z % r = c) : r ∣ z - c := by
  rw [← h]; exact dvd_symm (emod_dvd z r)
theorem small_abs {N x : Int} (h : N ∣ x) (h1 : -N < x) (h2 : x < N) : x = 0 := dvd_small (by omega) h h1 h2
/-- the number that both sides tell -/
def told (D : Int) : Int × Bool := if -100000000000000000 ≤ D ∧ D ≤ 100000000000000000 then (D, true) else (0, false)
/-- the program's last test -/
theorem last_i {p q r : Nat} (h : Three p q r) (hpq : 400000000000000000 ≤ ((p * q : Nat) : Int)) {D Z c : Int} (hD : D * D ≤ M) (h1 : (p : Int) ∣ Z - D) (h2 : (q : Int) ∣ Z - D) (hZ : 2 * Z ≤ ((p * q : Nat) : Int) ∧ -((p * q : Nat) : Int) ≤ 2 * Z) (hc : 0 ≤ c ∧ c < (r : Int)) (h3 : (r : Int) ∣ c - D) :
    (if Z % (r : Int) = c then (if -100000000000000000 ≤ Z ∧ Z ≤ 100000000000000000 then some (Z, true) else some (0, false)) else some ((0 : Int), false)) = some (told D) := by
  have hb := three_small h hD
  unfold told
  by_cases g : -100000000000000000 ≤ D ∧ D ≤ 100000000000000000
  · have e : Z - D = 0 := small_abs (two_dvd h h1 h2) (by omega) (by omega)
    obtain rfl : Z = D := by omega
    rw [if_pos (emod_is hc h3), if_pos g, if_pos g]
  · rw [if_neg g]
    by_cases g1 : Z % (r : Int) = c
    · rw [if_pos g1]
      by_cases g2 : -100000000000000000 ≤ Z ∧ Z ≤ 100000000000000000
      · exfalso
        have h4 := dvd_trans_sub (emod_eq_dvd g1) h3
        have e := small_abs (three_dvd h h1 h2 h4) (by omega) (by omega)
        omega
      · rw [if_neg g2]
    · rw [if_neg g1]
/-- the reference's test of one sign -/
theorem last_s {p q r : Nat} (h : Three p q r) (hpq : 400000000000000000 ≤ ((p * q : Nat) : Int)) {E v c : Int} (hE : E * E ≤ M) (h1 : (p : Int) ∣ v - E) (h2 : (q : Int) ∣ v - E) (hv : 0 ≤ v ∧ v < ((p * q : Nat) : Int)) (hc : 0 ≤ c ∧ c < (r : Int)) (h3 : (r : Int) ∣ c - E) :
    ((v % (r : Int) = c ∧ v ≤ 100000000000000000) ↔ (0 ≤ E ∧ E ≤ 100000000000000000)) ∧ (0 ≤ E ∧ E ≤ 100000000000000000 → v = E) := by
  have hb := three_small h hE
  have key : 0 ≤ E ∧ E ≤ 100000000000000000 → v = E := fun g => by
    have e : v - E = 0 := small_abs (two_dvd h h1 h2) (by omega) (by omega)
    omega
  refine ⟨⟨fun g => ?_, fun g => ?_⟩, key⟩
  · have h4 := dvd_trans_sub (emod_eq_dvd g.1) h3
    have e := small_abs (three_dvd h h1 h2 h4) (by omega) (by omega)
    omega
  · have e := key g
    refine ⟨emod_is hc (by rw [e]; exact h3), by omega⟩
/-- the number below p q with two rests -/
theorem crt {p q : Int} {a b i t : Int} (hi : q ∣ (p % q) * i - 1) (ht : q ∣ t - (b - a) * i) : p ∣ (a + p * t) - a ∧ q ∣ (a + p * t) - b := by
  refine ⟨⟨t, by omega⟩, ?_⟩
  obtain ⟨u, hu⟩ := hi
  obtain ⟨v, hv⟩ := ht
  obtain ⟨w, hw⟩ := emod_dvd p q
  have e : a + p * t - b = p * t - (b - a) := by omega
  rw [e]
  have h1 : p * t = (p % q) * t - q * w * t := by rw [← hw]; grind
  exact ⟨(p % q) * v + (b - a) * u - w * t, by rw [h1]; grind⟩
theorem neg_sq {D : Int} (h : D * D ≤ M) : -D * -D ≤ M := by rw [Int.neg_mul_neg]; exact h
theorem idet_ev {l : List (List Int)} (h : rowsB l = true) (k : Nat) (hk : 300 ≤ k) : impl_DeterminantOf.f k l = some (told (det l.length (l.map fn))) := by
  obtain ⟨k, rfl⟩ : ∃ m, k = m + 1 := ⟨k - 1, by omega⟩
  have hl := rowsB_len h
  obtain ⟨_, a, h2, A⟩ := reduce_ans three_p.p1 (by decide) hl hl (rowsB_row h) (k + 1) (by omega)
  obtain ⟨_, b, h3, B⟩ := reduce_ans three_p.q1 (by decide) hl hl (rowsB_row h) (k + 1) (by omega)
  obtain ⟨_, c, h4, C⟩ := reduce_ans three_p.r1 (by decide) hl hl (rowsB_row h) (k + 1) (by omega)
  have hM : det l.length (l.map fn) * det l.length (l.map fn) ≤ M := minor_small (bnd_rows h) _ (by simp)
  have rA : 0 ≤ a ∧ a < 2147483647 := ⟨A.lo, A.hi⟩
  have rB : 0 ≤ b ∧ b < 2147483629 := ⟨B.lo, B.hi⟩
  have rC : 0 ≤ c ∧ c < ((2147483587 : Nat) : Int) := ⟨C.lo, C.hi⟩
  have g2 : impl_reduce.f (k + 1) l 2147483647 = some (_, a) := h2
  have g3 : impl_reduce.f (k + 1) l 2147483629 = some (_, b) := h3
  have g4 : impl_reduce.f (k + 1) l 2147483587 = some (_, c) := h4
  have Hwba : Aside0 (wrap64 (b - a) = b - a) := ⟨wrap_id (by omega) (by omega)⟩
  have Hr1 := Aside0.mk (irest_ev (b - a) 2147483629 (by omega) (by omega))
  have Hr2 := Aside0.mk (irest_ev 2147483647 2147483629 (by omega) (by omega))
  have hba := emod_in (b - a) 2147483629 (by omega)
  have Hi := Aside0.mk (iinv_ev three_p.q1 (by decide) 18 (by omega) (by omega) (k + 1) (by omega))
  have eP : (2147483647 : Int) % 2147483629 = 18 := by omega
  have z0 : ((2147483629 : Int) = 0) = False := eq_false (by omega)
  have pq : ((2147483647 * 2147483629 : Nat) : Int) = 4611685975477714963 := by omega
  obtain ⟨dA, dB, dC⟩ : Aside0 ((2147483647 : Int) ∣ a - det l.length (l.map fn)) ∧ Aside0 ((2147483629 : Int) ∣ b - det l.length (l.map fn)) ∧ Aside0 ((2147483587 : Int) ∣ c - det l.length (l.map fn)) := ⟨⟨A.det rfl⟩, ⟨B.det rfl⟩, ⟨C.det rfl⟩⟩
  generalize det l.length (l.map fn) = D at hM dA dB dC
  obtain ⟨i, hi, i0, i1, i2⟩ := Hi.out
  have I2 := Aside0.mk i2
  clear i2 Hi
  have hi : impl_inverseMod.f (k + 1) 18 2147483629 = some i := hi
  have i1 : i < 2147483629 := i1
  have ht := emod_in ((b - a) % 2147483629 * i) 2147483629 (by omega)
  have Hhtv : Aside0 (Int.tmod (wrap64 ((b - a) % 2147483629 * i)) 2147483629 = ((b - a) % 2147483629 * i) % 2147483629) := ⟨prod_val (by omega) (by omega) (by omega) (by omega)⟩
  have hdt : Aside0 ((2147483629 : Int) ∣ ((b - a) % 2147483629 * i) % 2147483629 - (b - a) * i) := ⟨by
    refine dvd_trans_sub (emod_dvd ((b - a) % 2147483629 * i) 2147483629) ?_
    obtain ⟨u, hu⟩ := emod_dvd (b - a) 2147483629
    exact ⟨u * i, by rw [← Int.sub_mul, hu]; grind⟩⟩
  generalize ((b - a) % 2147483629 * i) % 2147483629 = t at ht hdt Hhtv
  have cc := Aside0.mk (crt (p := 2147483647) (q := 2147483629) (a := a) (b := b) (i := i) (t := t) (by rw [eP]; exact I2.out) hdt.out)
  clear hba I2 hdt
  have Hw1 : Aside0 (wrap64 (a + wrap64 (2147483647 * t)) = a + 2147483647 * t) := ⟨by rw [wrap_id (x := 2147483647 * t) (by omega) (by omega), wrap_id (by omega) (by omega)]⟩
  have Hw2 : Aside0 (wrap64 (2147483647 * 2147483629) = 4611685975477714963) := ⟨by rw [wrap_id (by omega) (by omega)]; omega⟩
  have Hw3 : Aside0 (wrap64 (Int.tdiv 4611685975477714963 2) = 2305842987738857481) := ⟨by rw [Int.tdiv_eq_ediv_of_nonneg (by omega), wrap_id (by omega) (by omega)]; omega⟩
  have Hw4 : Aside0 (wrap64 (a + 2147483647 * t - 4611685975477714963) = a + 2147483647 * t - 4611685975477714963) := ⟨wrap_id (by omega) (by omega)⟩
  have e0 : rd [2147483647, 2147483629, 2147483587] 0 = 2147483647 := rfl
  have e1 : rd [2147483647, 2147483629, 2147483587] 1 = 2147483629 := rfl
  have e2 : rd [2147483647, 2147483629, 2147483587] 2 = 2147483587 := rfl
  unfold impl_DeterminantOf.f
  rw [areRows_ev, h, Option.bind_some, if_pos rfl]
  unfold impl_primes.f
  rw [Option.bind_some, if_pos (by decide), if_pos (by decide)]
  simp only [e0, e1, e2]
  rw [g2, Option.bind_some, g3, Option.bind_some, if_pos (by decide), g4, Option.bind_some]
  simp only []
  simp only [Hwba.out, Hr1.out, Hr2.out, Option.bind_some, eP, hi, z0, if_false, Hhtv.out, Hw1.out, Hw2.out, Hw3.out]
  clear Hwba Hr1 Hr2 Hhtv Hw1 Hw2 Hw3 hi g2 g3 g4 h2 h3 h4 eP z0 A B C
  have inv : ∀ x lo hi : Int, impl_in.f x lo hi = some (decide (lo ≤ x ∧ x ≤ hi)) := fun x lo hi => by
    unfold impl_in.f
    by_cases g : lo ≤ x <;> simp [g]
  have fin : ∀ Z : Int, (2147483647 : Int) ∣ Z - a → (2147483629 : Int) ∣ Z - b → 2 * Z ≤ 4611685975477714963 → -4611685975477714963 ≤ 2 * Z →
      impl_DeterminantOf.j0 (k + 1) [2147483647, 2147483629, 2147483587] c Z = some (told D) := by
    intro Z z1 z2 z3 z4
    have this := last_i three_p (by rw [pq]; decide) hM (dvd_trans_sub z1 dA.out) (dvd_trans_sub z2 dB.out) (by rw [pq]; exact ⟨z3, z4⟩) rC dC.out
    have hR := irest_ev Z 2147483587 (by decide) (by decide)
    clear z1 z2
    rw [impl_DeterminantOf.j0, if_pos (by decide), e2, hR, Option.bind_some, inv, Option.bind_some, ← this]
    show (if Z % 2147483587 = c then _ else _) = (if Z % 2147483587 = c then _ else _)
    by_cases q1 : Z % 2147483587 = c
    · rw [if_pos q1, if_pos q1]
      by_cases q2 : -100000000000000000 ≤ Z ∧ Z ≤ 100000000000000000
      · rw [if_pos q2, if_pos (decide_eq_true q2)]
      · rw [if_neg q2, if_neg (by rw [decide_eq_false q2]; decide)]
    · rw [if_neg q1, if_neg q1]
  by_cases hg : a + 2147483647 * t > 2305842987738857481
  · rw [if_pos hg, Hw4.out]
    clear Hw4
    refine fin _ ?_ ?_ (by omega) (by omega)
    · obtain ⟨u, hu⟩ := cc.out.1
      exact ⟨u - 2147483629, by omega⟩
    · obtain ⟨u, hu⟩ := cc.out.2
      exact ⟨u - 2147483647, by omega⟩
  · rw [if_neg hg]
    clear Hw4
    exact fin _ cc.out.1 cc.out.2 (by omega) (by omega)
/-- the reference's number out of three rests -/
theorem small_ev {a b c E : Int} (ra : 0 ≤ a ∧ a < 1000000007) (rb : 0 ≤ b ∧ b < 998244353) (h1 : Aside0 ((1000000007 : Int) ∣ a - E)) (h2 : Aside0 ((998244353 : Int) ∣ b - E)) (k : Nat) (hk : 100 ≤ k) :
    ∃ v, spec_taSmall.f k [a, b, c] = some (v, (v % 1000000009 == c)) ∧ 0 ≤ v ∧ v < 998244359987710471 ∧ (1000000007 : Int) ∣ v - E ∧ (998244353 : Int) ∣ v - E := by
  have Hwba : Aside0 (wrap64 (b - a) = b - a) := ⟨wrap_id (by omega) (by omega)⟩
  have Hr1 := Aside0.mk (rest_val (b - a) 998244353 (by omega) (by omega))
  have hba := emod_in (b - a) 998244353 (by omega)
  have Hi := Aside0.mk (sinv_ev three_q.q1 (by decide) 1755654 (by omega) (by omega) k (by omega))
  have eP : (1000000007 : Int) % 998244353 = 1755654 := by omega
  have eP2 : Int.tmod 1000000007 998244353 = 1755654 := by rw [Int.tmod_eq_emod_of_nonneg (by omega)]; omega
  obtain ⟨i, hi, i0, i1, i2⟩ := Hi.out
  have I2 := Aside0.mk i2
  clear i2 Hi
  have hi : spec_taInverse.f k 1755654 998244353 = some i := hi
  have i1 : i < 998244353 := i1
  have ht := emod_in ((b - a) % 998244353 * i) 998244353 (by omega)
  have Hhtv : Aside0 (Int.tmod (wrap64 ((b - a) % 998244353 * i)) 998244353 = ((b - a) % 998244353 * i) % 998244353) := ⟨prod_val (by omega) (by omega) (by omega) (by omega)⟩
  have hdt : Aside0 ((998244353 : Int) ∣ ((b - a) % 998244353 * i) % 998244353 - (b - a) * i) := ⟨by
    refine dvd_trans_sub (emod_dvd ((b - a) % 998244353 * i) 998244353) ?_
    obtain ⟨u, hu⟩ := emod_dvd (b - a) 998244353
    exact ⟨u * i, by rw [← Int.sub_mul, hu]; grind⟩⟩
  generalize ((b - a) % 998244353 * i) % 998244353 = t at ht hdt Hhtv
  have cc := Aside0.mk (crt (p := 1000000007) (q := 998244353) (a := a) (b := b) (i := i) (t := t) (by rw [eP]; exact I2.out) hdt.out)
  clear hba I2 hdt
  have hv0 : 0 ≤ a + 1000000007 * t := by omega
  have hv1 : a + 1000000007 * t < 998244359987710471 := by omega
  have Hw1 : Aside0 (wrap64 (a + wrap64 (1000000007 * t)) = a + 1000000007 * t) := ⟨by rw [wrap_id (x := 1000000007 * t) (by omega) (by omega), wrap_id (by omega) (by omega)]⟩
  have Hr2 : Aside0 (Int.tmod (a + 1000000007 * t) 1000000009 = (a + 1000000007 * t) % 1000000009) := ⟨Int.tmod_eq_emod_of_nonneg hv0⟩
  refine ⟨a + 1000000007 * t, ?_, hv0, hv1, dvd_trans_sub cc.out.1 h1.out, dvd_trans_sub cc.out.2 h2.out⟩
  have e0 : rd [1000000007, 998244353, 1000000009] 0 = 1000000007 := rfl
  have e1 : rd [1000000007, 998244353, 1000000009] 1 = 998244353 := rfl
  have e2 : rd [1000000007, 998244353, 1000000009] 2 = 1000000009 := rfl
  have l0 : rd [a, b, c] 0 = a := rfl
  have l1 : rd [a, b, c] 1 = b := rfl
  have l2 : rd [a, b, c] 2 = c := rfl
  unfold spec_taSmall.f spec_taPrimes.f
  rw [Option.bind_some, if_pos (show (1 : Int) < (([a, b, c] : List Int).length : Int) by show (1 : Int) < 3; decide), if_pos (show (0 : Int) < (([a, b, c] : List Int).length : Int) by show (0 : Int) < 3; decide), if_pos (by decide)]
  simp only [e0, e1, e2, l0, l1, l2]
  rw [if_neg (by decide), if_pos (by decide), eP2, hi, Option.bind_some, if_pos (by decide), if_neg (by decide), if_pos (show (2 : Int) < (([a, b, c] : List Int).length : Int) by show (2 : Int) < 3; decide)]
  simp only [Hwba.out, Hr1.out, Hhtv.out, Hw1.out, Hr2.out]
theorem neg_rest {p x D : Int} (hp : 0 < p) (hp2 : p ≤ 2147483648) (hx : 0 ≤ x ∧ x < p) (hd : Aside0 (p ∣ x - D)) : Aside0 (Int.tmod (wrap64 (p - x)) p = (p - x) % p) ∧ Aside0 (p ∣ (p - x) % p - -D) := by
  refine ⟨⟨by rw [wrap_id (by omega) (by omega), Int.tmod_eq_emod_of_nonneg (by omega)]⟩, ⟨?_⟩⟩
  obtain ⟨u, hu⟩ := emod_dvd (p - x) p
  obtain ⟨v, hv⟩ := hd.out
  exact ⟨u + 1 - v, by rw [Int.mul_sub, Int.mul_add]; omega⟩
theorem pick_s {D v w c c' : Int} (iffv : (v % 1000000009 = c ∧ v ≤ 100000000000000000) ↔ (0 ≤ D ∧ D ≤ 100000000000000000)) (eqv : 0 ≤ D ∧ D ≤ 100000000000000000 → v = D)
    (iffw : (w % 1000000009 = c' ∧ w ≤ 100000000000000000) ↔ (0 ≤ -D ∧ -D ≤ 100000000000000000)) (eqw : 0 ≤ -D ∧ -D ≤ 100000000000000000 → w = -D) (J : Bool → Option (Int × Bool))
    (hJ : ∀ x, J x = if x = true then some (v, true) else (if (w % 1000000009 == c') = true then (if w ≤ 100000000000000000 then some (wrap64 (-w), true) else some (0, false)) else some (0, false))) :
    (if (v % 1000000009 == c) = true then J (decide (v ≤ 100000000000000000)) else J false) = some (told D) := by
  have two : ∀ x, x = false → ¬ (0 ≤ D ∧ D ≤ 100000000000000000) → J x = some (told D) := by
    rintro x rfl g
    rw [hJ, if_neg (by decide)]
    unfold told
    by_cases g3 : 0 ≤ -D ∧ -D ≤ 100000000000000000
    · have hw := iffw.2 g3
      have e := eqw g3
      have hw4 : wrap64 (-w) = D := by
        have : -w = D := by omega
        rw [this]
        exact wrap_id (by omega) (by omega)
      rw [if_pos (beq_iff_eq.2 hw.1), if_pos hw.2, hw4, if_pos (by omega)]
    · by_cases q1 : w % 1000000009 = c'
      · rw [if_pos (beq_iff_eq.2 q1), if_neg (fun q2 => g3 (iffw.1 ⟨q1, q2⟩)), if_neg (by omega)]
      · rw [if_neg (fun e => q1 (beq_iff_eq.1 e)), if_neg (by omega)]
  by_cases g : 0 ≤ D ∧ D ≤ 100000000000000000
  · have hv := iffv.2 g
    unfold told
    rw [if_pos (beq_iff_eq.2 hv.1), hJ, if_pos (decide_eq_true hv.2), eqv g, if_pos (by omega)]
  · by_cases q1 : v % 1000000009 = c
    · rw [if_pos (beq_iff_eq.2 q1)]
      exact two _ (decide_eq_false (fun q2 => g (iffv.1 ⟨q1, q2⟩))) g
    · rw [if_neg (fun e => q1 (beq_iff_eq.1 e))]
      exact two _ rfl g
theorem sdet_ev {l : List (List Int)} (h : rowsB l = true) (k : Nat) (hk : 300 ≤ k) : spec_DeterminantOf.f k l = some (told (det l.length (l.map fn))) := by
  obtain ⟨k, rfl⟩ : ∃ m, k = m + 5 := ⟨k - 5, by omega⟩
  have hl := rowsB_len h
  obtain ⟨_, a, h2, A⟩ := steps_ans three_q.p1 (by decide) hl hl (rowsB_row h) (k + 4) (by omega)
  obtain ⟨_, b, h3, B⟩ := steps_ans three_q.q1 (by decide) hl hl (rowsB_row h) (k + 3) (by omega)
  obtain ⟨_, c, h4, C⟩ := steps_ans three_q.r1 (by decide) hl hl (rowsB_row h) (k + 2) (by omega)
  have hM : det l.length (l.map fn) * det l.length (l.map fn) ≤ M := minor_small (bnd_rows h) _ (by simp)
  obtain ⟨dA, dB, dC⟩ : Aside0 ((1000000007 : Int) ∣ a - det l.length (l.map fn)) ∧ Aside0 ((998244353 : Int) ∣ b - det l.length (l.map fn)) ∧ Aside0 ((1000000009 : Int) ∣ c - det l.length (l.map fn)) := ⟨⟨A.det rfl⟩, ⟨B.det rfl⟩, ⟨C.det rfl⟩⟩
  have rA : 0 ≤ a ∧ a < 1000000007 := ⟨A.lo, A.hi⟩
  have rB : 0 ≤ b ∧ b < 998244353 := ⟨B.lo, B.hi⟩
  have rC : 0 ≤ c ∧ c < 1000000009 := ⟨C.lo, C.hi⟩
  generalize det l.length (l.map fn) = D at hM dA dB dC
  have g2 : spec_taSteps.f (k + 4) l 1000000007 = some (a, _) := h2
  have g3 : spec_taSteps.f (k + 3) l 998244353 = some (b, _) := h3
  have g4 : spec_taSteps.f (k + 2) l 1000000009 = some (c, _) := h4
  obtain ⟨n1, n2⟩ := neg_rest (p := 1000000007) (by decide) (by decide) rA dA
  obtain ⟨m1, m2⟩ := neg_rest (p := 998244353) (by decide) (by decide) rB dB
  obtain ⟨o1, o2⟩ := neg_rest (p := 1000000009) (by decide) (by decide) rC dC
  have rna := emod_in (1000000007 - a) 1000000007 (by decide)
  have rnb := emod_in (998244353 - b) 998244353 (by decide)
  have rnc := emod_in (1000000009 - c) 1000000009 (by decide)
  generalize (1000000007 - a) % 1000000007 = a' at n1 n2 rna
  generalize (998244353 - b) % 998244353 = b' at m1 m2 rnb
  generalize (1000000009 - c) % 1000000009 = c' at o1 o2 rnc
  have pq : ((1000000007 * 998244353 : Nat) : Int) = 998244359987710471 := by decide
  obtain ⟨v, sv, v0, v1, v2, v3⟩ := small_ev (c := c) rA rB dA dB (k + 1) (by omega)
  obtain ⟨u, su, u0, u1, u2, u3⟩ := small_ev (c := c') rna rnb n2 m2 k (by omega)
  obtain ⟨iffv, eqv⟩ := last_s three_q (by rw [pq]; decide) hM v2 v3 (by rw [pq]; exact ⟨v0, v1⟩) rC dC.out
  obtain ⟨iffu, equ⟩ := last_s three_q (by rw [pq]; decide) (neg_sq hM) u2 u3 (by rw [pq]; exact ⟨u0, u1⟩) rnc o2.out
  have w1 : wrap64 (0 + 1) = 1 := wrap_id (x := 0 + 1) (by decide) (by decide)
  have w2 : wrap64 (1 + 1) = 2 := wrap_id (x := 1 + 1) (by decide) (by decide)
  have w3 : wrap64 (2 + 1) = 3 := wrap_id (x := 2 + 1) (by decide) (by decide)
  have e0 : rd [1000000007, 998244353, 1000000009] 0 = 1000000007 := rfl
  have e1 : rd [1000000007, 998244353, 1000000009] 1 = 998244353 := rfl
  have e2 : rd [1000000007, 998244353, 1000000009] 2 = 1000000009 := rfl
  have s0 : ∀ (x3 x4 : List Int), x3.length < 100 → x4.length < 100 → spec_DeterminantOf.l0 (k + 5) l x3 x4 [1000000007, 998244353, 1000000009] 3 0 = spec_DeterminantOf.l0 (k + 4) l (x3 ++ [a]) (x4 ++ [a']) [1000000007, 998244353, 1000000009] 3 1 := by
    intro x3 x4 q3 q4
    rw [spec_DeterminantOf.l0, if_pos (by decide), if_pos (by decide), if_pos (by decide), e0, g2, Option.bind_some, if_pos (Nat.lt_trans q3 (by decide)), if_neg (by decide), if_pos (Nat.lt_trans q4 (by decide)), w1]
    simp only [n1.out]
  have s1 : ∀ (x3 x4 : List Int), x3.length < 100 → x4.length < 100 → spec_DeterminantOf.l0 (k + 4) l x3 x4 [1000000007, 998244353, 1000000009] 3 1 = spec_DeterminantOf.l0 (k + 3) l (x3 ++ [b]) (x4 ++ [b']) [1000000007, 998244353, 1000000009] 3 2 := by
    intro x3 x4 q3 q4
    rw [spec_DeterminantOf.l0, if_pos (by decide), if_pos (by decide), if_pos (by decide), e1, g3, Option.bind_some, if_pos (Nat.lt_trans q3 (by decide)), if_neg (by decide), if_pos (Nat.lt_trans q4 (by decide)), w2]
    simp only [m1.out]
  have s2 : ∀ (x3 x4 : List Int), x3.length < 100 → x4.length < 100 → spec_DeterminantOf.l0 (k + 3) l x3 x4 [1000000007, 998244353, 1000000009] 3 2 = spec_DeterminantOf.l0 (k + 2) l (x3 ++ [c]) (x4 ++ [c']) [1000000007, 998244353, 1000000009] 3 3 := by
    intro x3 x4 q3 q4
    rw [spec_DeterminantOf.l0, if_pos (by decide), if_pos (by decide), if_pos (by decide), e2, g4, Option.bind_some, if_pos (Nat.lt_trans q3 (by decide)), if_neg (by decide), if_pos (Nat.lt_trans q4 (by decide)), w3]
    simp only [o1.out]
  unfold spec_DeterminantOf.f
  rw [taRows_ev l (k + 5) (by omega), h, Option.bind_some, if_pos rfl]
  unfold spec_taPrimes.f
  rw [Option.bind_some]
  show spec_DeterminantOf.l0 (k + 5) l [] [] [1000000007, 998244353, 1000000009] 3 0 = _
  rw [s0 [] [] (by decide) (by decide), s1 _ _ (by simp) (by simp), s2 _ _ (by simp) (by simp)]
  show spec_DeterminantOf.l0 (k + 2) l [a, b, c] [a', b', c'] [1000000007, 998244353, 1000000009] 3 3 = _
  rw [spec_DeterminantOf.l0, if_neg (by decide), sv, Option.bind_some]
  exact pick_s iffv eqv iffu equ (spec_DeterminantOf.j1 (k + 1) [a', b', c'] v) (fun x => by rw [spec_DeterminantOf.j1, su]; rfl)
theorem det_no {l : List (List Int)} (h : rowsB l = false) (k : Nat) (hk : 200 ≤ k) : spec_DeterminantOf.f k l = some (0, false) ∧ impl_DeterminantOf.f k l = some (0, false) := by
  unfold spec_DeterminantOf.f impl_DeterminantOf.f
  rw [taRows_ev l k (by omega), areRows_ev, h]
  exact ⟨rfl, rfl⟩

end Go.Proofs.Ytbphdjnainlbhaa.Pure
