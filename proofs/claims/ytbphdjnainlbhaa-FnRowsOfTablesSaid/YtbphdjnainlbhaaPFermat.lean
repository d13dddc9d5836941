/- Primes: Euclid's lemma, Fermat's little theorem, and that the six numbers of the program and of the reference are primes. -/
import Derived.Test.YtbphdjnainlbhaaPRank
set_option linter.unusedVariables false
set_option linter.unusedSimpArgs false
namespace Go.Proofs.Ytbphdjnainlbhaa.Pure
open Go.RowKit Go.Proofs.Ytbphdjnainlbhaa.R Go.Proofs.YtbphdjnainlbhaaW.PrintWords Go.Proofs.YtbphdjnainlbhaaW.PrintLast Go.Proofs.YtbphdjnainlbhaaW.PrintMore

theorem mod_dvd {p x y : Nat} (h : x % p = y % p) : p ∣ y - x := Nat.dvd_of_mod_eq_zero (Nat.sub_mod_eq_zero_of_mod_eq h.symm)
theorem dvd_mod {p x y : Nat} (hxy : x ≤ y) (h : p ∣ y - x) : x % p = y % p := by
  obtain ⟨c, hc⟩ := h
  rw [show y = x + p * c by omega, Nat.add_mul_mod_self_left]
def Prime (p : Nat) : Prop := 2 ≤ p ∧ ∀ d, d ∣ p → d = 1 ∨ d = p
/-- no number from d on, with a square at most p, divides p -/
def trial (p : Nat) : Nat → Nat → Bool
  | 0, _ => false
  | k + 1, d => if p < d * d then true else if p % d = 0 then false else trial p k (d + 1)
theorem trial_ok (p : Nat) (k : Nat) : ∀ d, trial p k d = true → ∀ x, d ≤ x → x * x ≤ p → ¬ x ∣ p := by
  induction k with
  | zero => intro d h; cases h
  | succ k ih =>
    intro d h x hx hxx hd
    rw [trial] at h
    by_cases h1 : p < d * d
    · have := Nat.mul_le_mul hx hx; omega
    · rw [if_neg h1] at h
      by_cases h2 : p % d = 0
      · rw [if_pos h2] at h; cases h
      · rw [if_neg h2] at h
        by_cases e : x = d
        · subst e; exact h2 (Nat.mod_eq_zero_of_dvd hd)
        · exact ih (d + 1) h x (by omega) hxx hd
theorem prime_of (p k : Nat) (h2 : 2 ≤ p) (h : trial p k 2 = true) : Prime p := by
  refine ⟨h2, fun d hd => ?_⟩
  obtain ⟨e, he⟩ := hd
  have hp : 0 < p := by omega
  have hd0 : d ≠ 0 := fun h => by subst h; omega
  have he0 : e ≠ 0 := fun h => by subst h; omega
  refine Classical.byContradiction fun hc => ?_
  have h3 : d ≠ 1 ∧ d ≠ p := by omega
  have h4 : e ≠ 1 := fun h => by subst h; omega
  by_cases hle : d ≤ e
  · have : d * d ≤ p := by rw [he]; exact Nat.mul_le_mul_left d hle
    exact trial_ok p k 2 h d (by omega) this ⟨e, he⟩
  · have : e * e ≤ p := by rw [he]; exact Nat.mul_le_mul_right e (by omega)
    exact trial_ok p k 2 h e (by omega) this ⟨d, by rw [he, Nat.mul_comm]⟩
theorem prime_mul {p : Nat} (hp : Prime p) {a b : Nat} (h : p ∣ a * b) : p ∣ a ∨ p ∣ b := by
  by_cases ha : p ∣ a
  · exact .inl ha
  · right
    have hg : Nat.gcd p a = 1 := by
      rcases hp.2 _ (Nat.gcd_dvd_left p a) with h1 | h1
      · exact h1
      · exact absurd (h1 ▸ Nat.gcd_dvd_right p a) ha
    exact Nat.Coprime.dvd_of_dvd_mul_left (k := p) (m := a) (n := b) hg h
theorem prime_int {p : Nat} (hp : Prime p) (a b : Int) (h : (p : Int) ∣ a * b) : (p : Int) ∣ a ∨ (p : Int) ∣ b := by
  have h1 : p ∣ a.natAbs * b.natAbs := by rw [← Int.natAbs_mul]; exact Int.ofNat_dvd_left.1 h
  rcases prime_mul hp h1 with h | h
  · exact .inl (Int.ofNat_dvd_left.2 h)
  · exact .inr (Int.ofNat_dvd_left.2 h)
theorem prime_one {p : Nat} (hp : Prime p) : ¬ (p : Int) ∣ 1 := by
  intro h
  have h2 : p ∣ 1 := by have := Int.ofNat_dvd_left.1 h; simpa using this
  have := Nat.le_of_dvd (by omega) h2
  have := hp.1
  omega
def prod : List Nat → Nat
  | [] => 1
  | a :: l => a * prod l
theorem prod_perm {l m : List Nat} (h : l.Perm m) : prod l = prod m := by
  induction h with
  | nil => rfl
  | cons x _ ih => simp only [prod, ih]
  | swap x y l => simp only [prod]; rw [← Nat.mul_assoc, ← Nat.mul_assoc, Nat.mul_comm y x]
  | trans _ _ h1 h2 => rw [h1, h2]
theorem perm_of {l m : List Nat} (hl : l.Nodup) (hm : m.Nodup) (h : ∀ x ∈ l, x ∈ m) (hlen : l.length = m.length) : l.Perm m := by
  have h2 : ∀ x ∈ m, x ∈ l := by
    intro x hx
    refine Classical.byContradiction fun hc => ?_
    have := pigeon m (x :: l) (List.nodup_cons.2 ⟨hc, hl⟩) (fun y hy => by
      rcases List.mem_cons.1 hy with rfl | hy
      · exact hx
      · exact h y hy)
    simp only [List.length_cons] at this; omega
  refine List.perm_iff_count.2 fun a => ?_
  rw [hl.count, hm.count]
  by_cases ha : a ∈ l
  · rw [if_pos ha, if_pos (h a ha)]
  · rw [if_neg ha, if_neg (fun hc => ha (h2 a hc))]
def ones (p : Nat) : List Nat := (List.range (p - 1)).map (· + 1)
theorem prod_mul (a p : Nat) (l : List Nat) : prod (l.map fun i => a * i % p) % p = a ^ l.length * prod l % p := by
  induction l with
  | nil => rfl
  | cons x l ih =>
    simp only [List.map_cons, prod, List.length_cons]
    rw [Nat.mul_mod, ih, Nat.mod_mod, ← Nat.mul_mod, Nat.pow_succ]
    congr 1
    simp only [Nat.mul_assoc, Nat.mul_comm, Nat.mul_left_comm]
theorem prod_nz {p : Nat} (hp : Prime p) (l : List Nat) (h : ∀ x ∈ l, ¬ p ∣ x) : ¬ p ∣ prod l := by
  induction l with
  | nil =>
    intro hc
    have := Nat.le_of_dvd (by simp [prod]) hc
    have := hp.1
    simp [prod] at *; omega
  | cons x l ih =>
    intro hc
    rcases prime_mul hp hc with h1 | h1
    · exact h x (List.mem_cons_self ..) h1
    · exact ih (fun y hy => h y (List.mem_cons_of_mem _ hy)) h1
theorem fermat {p : Nat} (hp : Prime p) (a : Nat) (ha : ¬ p ∣ a) : a ^ (p - 1) % p = 1 := by
  have hp1 := hp.1
  have hin : ∀ x, x ∈ ones p ↔ 1 ≤ x ∧ x < p := by
    intro x
    unfold ones
    simp only [List.mem_map, List.mem_range]
    constructor
    · rintro ⟨y, h1, rfl⟩; omega
    · intro h; exact ⟨x - 1, by omega, by omega⟩
  have hno : (ones p).Nodup := by
    unfold ones
    exact List.Pairwise.map _ (fun a b (h : a ≠ b) => by show a + 1 ≠ b + 1; omega) List.nodup_range
  have hnd : ∀ x, 1 ≤ x → x < p → ¬ p ∣ x := fun x h1 h2 h => by have := Nat.le_of_dvd (by omega) h; omega
  have hmap : ((ones p).map fun i => a * i % p).Perm (ones p) := by
    refine perm_of ?_ hno ?_ (by simp)
    · unfold List.Nodup
      rw [List.pairwise_map]
      have hd : ∀ x y, x < y → y < p → a * x % p = a * y % p → False := by
        intro x y hxy hy h
        have h1 : p ∣ a * (y - x) := by
          rw [Nat.mul_sub]
          exact mod_dvd h
        rcases prime_mul hp h1 with h2 | h2
        · exact ha h2
        · exact hnd _ (by omega) (by omega) h2
      refine List.Pairwise.imp_of_mem ?_ hno
      intro x y hx hy hne h
      have hx := (hin x).1 hx
      have hy := (hin y).1 hy
      rcases Nat.lt_or_ge x y with h1 | h1
      · exact hd x y h1 hy.2 h
      · exact hd y x (by omega) hx.2 h.symm
    · intro z hz
      obtain ⟨x, hx, rfl⟩ := List.mem_map.1 hz
      have hx := (hin x).1 hx
      refine (hin _).2 ⟨?_, Nat.mod_lt _ (by omega)⟩
      refine Nat.pos_of_ne_zero fun h => ?_
      rcases prime_mul hp (Nat.dvd_of_mod_eq_zero h) with h2 | h2
      · exact ha h2
      · exact hnd x hx.1 hx.2 h2
  have h1 := prod_mul a p (ones p)
  rw [prod_perm hmap] at h1
  have hlen : (ones p).length = p - 1 := by simp [ones]
  rw [hlen] at h1
  have hpr : ¬ p ∣ prod (ones p) := prod_nz hp _ fun x hx => hnd x ((hin x).1 hx).1 ((hin x).1 hx).2
  have hA : 1 ≤ a ^ (p - 1) := Nat.pos_of_ne_zero fun h => by
    have ha0 : a = 0 := by
      refine Classical.byContradiction fun hc => ?_
      have := Nat.pow_pos (n := p - 1) (Nat.pos_of_ne_zero hc)
      omega
    exact ha (ha0 ▸ Nat.dvd_zero p)
  have h2 : p ∣ (a ^ (p - 1) - 1) * prod (ones p) := by
    rw [Nat.sub_mul, Nat.one_mul]
    exact mod_dvd h1
  rcases prime_mul hp h2 with h3 | h3
  · have h4 : 1 % p = a ^ (p - 1) % p := dvd_mod hA h3
    rw [← h4]; exact Nat.mod_eq_of_lt (by omega)
  · exact absurd h3 hpr
set_option maxRecDepth 1000000 in
theorem prime_p0 : Prime 2147483647 := prime_of _ 50000 (by decide) (by decide +kernel)
set_option maxRecDepth 1000000 in
theorem prime_p1 : Prime 2147483629 := prime_of _ 50000 (by decide) (by decide +kernel)
set_option maxRecDepth 1000000 in
theorem prime_p2 : Prime 2147483587 := prime_of _ 50000 (by decide) (by decide +kernel)
set_option maxRecDepth 1000000 in
theorem prime_q0 : Prime 1000000007 := prime_of _ 50000 (by decide) (by decide +kernel)
set_option maxRecDepth 1000000 in
theorem prime_q1 : Prime 998244353 := prime_of _ 50000 (by decide) (by decide +kernel)
set_option maxRecDepth 1000000 in
theorem prime_q2 : Prime 1000000009 := prime_of _ 50000 (by decide) (by decide +kernel)

end Go.Proofs.Ytbphdjnainlbhaa.Pure
