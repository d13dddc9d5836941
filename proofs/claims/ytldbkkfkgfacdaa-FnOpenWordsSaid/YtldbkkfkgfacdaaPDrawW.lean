/- The reference's drawn words, pairs and meanders: each draw has an answer, of short rows. -/
import Derived.Test.YtldbkkfkgfacdaaPDrawSysJ
import Derived.Test.YtldbkkfkgfacdaaPPermJ
import Derived.Test.YtldbkkfkgfacdaaPMeaWJ
import Derived.Test.YtldbkkfkgfacdaaPOpenJ
import Derived.Test.YtldbkkfkgfacdaaQD0
set_option linter.unusedVariables false
set_option linter.unusedSimpArgs false
namespace Go.Proofs.Ytldbkkfkgfacdaa.Pure
open Go.RowKit Go.Proofs.Ytldbkkfkgfacdaa.P Go.Proofs.YtldbkkfkgfacdaaW.PrintWords Go.Proofs.YtldbkkfkgfacdaaW.PrintLast Go.Proofs.YtldbkkfkgfacdaaW.PrintMore

structure Drew2 (o : Option (List Int × List Int × Int × Int)) (i : Int) (m : Int) (R : List Int → List Int → Prop) : Prop where
  ok : ∃ p q j s, o = some (p, q, j, s) ∧ R p q ∧ i ≤ j ∧ j ≤ i + m
theorem Drew.bind2 {α : Type} {o : Option (α × Int × Int)} {f : α × Int × Int → Option (List Int × List Int × Int × Int)} {i m m' M : Int} {R : α → Prop} {R' : List Int → List Int → Prop} (h1 : Drew o i m R)
    (h2 : ∀ v j s, R v → i ≤ j → j ≤ i + m → Drew2 (f (v, j, s)) j m' R') (hm : m + m' ≤ M) : Drew2 (o.bind f) i M R' := by
  obtain ⟨v, j, s, e, hv, h3, h4⟩ := h1.ok
  obtain ⟨p, q, j', s', e', hv', h3', h4'⟩ := (h2 v j s hv h3 h4).ok
  exact ⟨p, q, j', s', by rw [e]; exact e', hv', by omega, by omega⟩
theorem Drew2.bind {β : Type} {o : Option (List Int × List Int × Int × Int)} {f : List Int × List Int × Int × Int → Option (β × Int × Int)} {i m m' M : Int} {R : List Int → List Int → Prop} {R' : β → Prop} (h1 : Drew2 o i m R)
    (h2 : ∀ p q j s, R p q → i ≤ j → j ≤ i + m → Drew (f (p, q, j, s)) j m' R') (hm : m + m' ≤ M) : Drew (o.bind f) i M R' := by
  obtain ⟨p, q, j, s, e, hv, h3, h4⟩ := h1.ok
  obtain ⟨v', j', s', e', hv', h3', h4'⟩ := (h2 p q j s hv h3 h4).ok
  exact ⟨v', j', s', by rw [e]; exact e', hv', by omega, by omega⟩
theorem Drew2.bind2 {o : Option (List Int × List Int × Int × Int)} {f : List Int × List Int × Int × Int → Option (List Int × List Int × Int × Int)} {i m m' M : Int} {R R' : List Int → List Int → Prop} (h1 : Drew2 o i m R)
    (h2 : ∀ p q j s, R p q → i ≤ j → j ≤ i + m → Drew2 (f (p, q, j, s)) j m' R') (hm : m + m' ≤ M) : Drew2 (o.bind f) i M R' := by
  obtain ⟨p, q, j, s, e, hv, h3, h4⟩ := h1.ok
  obtain ⟨p', q', j', s', e', hv', h3', h4'⟩ := (h2 p q j s hv h3 h4).ok
  exact ⟨p', q', j', s', by rw [e]; exact e', hv', by omega, by omega⟩
theorem Drew2.done {o : Option (List Int × List Int × Int × Int)} {i M : Int} {R' : List Int → List Int → Prop} (p q : List Int) (s : Int) (e : o = some (p, q, i, s)) (hv : R' p q) (hM : 0 ≤ M) : Drew2 o i M R' := ⟨p, q, i, s, e, hv, by omega, by omega⟩
theorem Drew2.ite {c : Prop} [Decidable c] {a b : Option (List Int × List Int × Int × Int)} {i M : Int} {R' : List Int → List Int → Prop} (h1 : c → Drew2 a i M R') (h2 : ¬ c → Drew2 b i M R') : Drew2 (if c then a else b) i M R' := by
  by_cases h : c
  · rw [if_pos h]; exact h1 h
  · rw [if_neg h]; exact h2 h
theorem Drew2.some {o : Option (List Int × List Int × Int × Int)} {α : Type} {x : Option α} {f : α → Option (List Int × List Int × Int × Int)} {i M : Int} {R' : List Int → List Int → Prop} (v : α) (e : x = .some v) (h : Drew2 (f v) i M R') : Drew2 (x.bind f) i M R' := by rw [e]; exact h
theorem Drew.some {β α : Type} {x : Option α} {f : α → Option (β × Int × Int)} {i M : Int} {R' : β → Prop} (v : α) (e : x = .some v) (h : Drew (f v) i M R') : Drew (x.bind f) i M R' := by rw [e]; exact h
theorem Drew.le {β : Type} {o : Option (β × Int × Int)} {i m M : Int} {R : β → Prop} (h : Drew o i m R) (hm : m ≤ M) : Drew o i M R := by
  obtain ⟨v, j, s, e, hv, h1, h2⟩ := h.ok
  exact ⟨v, j, s, e, hv, h1, by omega⟩
/-- words -/
theorem word_l1 {l : List Int} (h : Bytes l) (d : Nat) : ∀ (k : Nat) (x : List Int) (i j s : Int), i + d = 14 → 0 ≤ i → x.length = i.toNat → d < k → 0 ≤ j → j + d ≤ 1000000 →
    Drew (spec_l1Cur_word.l1 k x i l j s) j (d + 1) (fun q => q.length ≤ 14) := by
  induction d with
  | zero =>
    intro k x i j s hi h0 hx hk hj hj2
    obtain ⟨k, rfl⟩ : ∃ m, k = m + 1 := ⟨k - 1, by omega⟩
    rw [spec_l1Cur_word.l1]
    refine Drew.bind (m := 1) (m' := 0) (pick_ok h j s 2 hj (by omega) (by omega)) (fun v j1 s1 hv a b => ?_) (by omega)
    have hw : wrap64 (12 + v) = 12 + v := wrap_id (by omega) (by omega)
    have hn : ¬ i < wrap64 (12 + v) := by rw [hw]; omega
    refine Drew.ite (fun c => absurd c hn) (fun _ => ?_)
    exact Drew.done x s1 rfl (by show x.length ≤ 14; omega) (by omega)
  | succ d ih =>
    intro k x i j s hi h0 hx hk hj hj2
    obtain ⟨k, rfl⟩ : ∃ m, k = m + 1 := ⟨k - 1, by omega⟩
    rw [spec_l1Cur_word.l1]
    refine Drew.bind (m := 1) (m' := d + 1) (pick_ok h j s 2 hj (by omega) (by omega)) (fun v j1 s1 hv a b => ?_) (by omega)
    refine Drew.ite (fun _ => ?_) (fun _ => Drew.done x s1 rfl (by show x.length ≤ 14; omega) (by omega))
    have hl : x.length < 17592186044416 := by omega
    refine Drew.ite (fun _ => ?_) (fun n => absurd hl n)
    have hw : wrap64 (i + 1) = i + 1 := wrap_id (by omega) (by omega)
    show Drew (spec_l1Cur_word.l1 k (x ++ [i]) (wrap64 (i + 1)) l j1 s1) j1 _ _
    rw [hw]
    exact ih k (x ++ [i]) (i + 1) j1 s1 (by omega) (by omega) (by rw [List.length_append, List.length_singleton]; omega) (by omega) (by omega) (by omega)
theorem word_l0 {l : List Int} (h : Bytes l) (n : Nat) (hn : n ≤ 9) (d : Nat) : ∀ (k i : Nat) (x : List Int) (j s : Int), i + d = n → x.length = i → d + 20 ≤ k → 0 ≤ j → j + 2 * d ≤ 100000 →
    Drew (spec_l1Cur_word.l0 k (n : Int) x (i : Int) l j s) j (2 * d + 20) (fun q => q.length ≤ 14) := by
  induction d with
  | zero =>
    intro k i x j s hi hx hk hj hj2
    obtain ⟨k, rfl⟩ : ∃ m, k = m + 1 := ⟨k - 1, by omega⟩
    rw [spec_l1Cur_word.l0]
    refine Drew.ite (fun c => absurd c (by omega)) (fun _ => ?_)
    refine Drew.bind (m := 1) (m' := 19) (pick_ok h j s 14 hj (by omega) (by omega)) (fun v j1 s1 hv a b => ?_) (by omega)
    refine Drew.ite (fun _ => Drew.ite (fun cl => ?_) (fun _ => Drew.done x s1 rfl (by show x.length ≤ 14; omega) (by omega))) (fun _ => Drew.ite (fun _ => ?_) (fun _ => Drew.done x s1 rfl (by show x.length ≤ 14; omega) (by omega)))
    · have cl' : (x.length : Int) > 0 := cl
      refine Drew.bind (m := 1) (m' := 10) (pick_ok h j1 s1 (x.length : Int) (by omega) (by omega) (by omega)) (fun v4 j4 s4 hv4 a4 b4 => ?_) (by omega)
      have hw2 : wrap64 ((n : Int) + 2) = (n : Int) + 2 := wrap_id (by omega) (by omega)
      refine Drew.bind (m := 1) (m' := 5) (pick_ok h j4 s4 _ (by omega) (by omega) (by show wrap64 ((n : Int) + 2) ≤ 200; rw [hw2]; omega)) (fun v5 j5 s5 hv5 a5 b5 => ?_) (by omega)
      have h1 : 0 ≤ v4 := hv4.1
      have h2 : v4 < (x.length : Int) := by omega
      refine Drew.ite (fun _ => Drew.ite (fun _ => ?_) (fun n => absurd h2 n)) (fun n => absurd h1 n)
      exact Drew.done _ _ rfl (by show (x.set _ _).length ≤ 14; rw [List.length_set]; omega) (by omega)
    · exact (word_l1 h 14 k [] 0 j1 s1 (by omega) (by omega) rfl (by omega) (by omega) (by omega)).le (by omega)
  | succ d ih =>
    intro k i x j s hi hx hk hj hj2
    obtain ⟨k, rfl⟩ : ∃ m, k = m + 1 := ⟨k - 1, by omega⟩
    have hw : wrap64 ((i : Int) + 1) = ((i + 1 : Nat) : Int) := wrap_succ (by omega)
    rw [spec_l1Cur_word.l0]
    refine Drew.ite (fun _ => ?_) (fun c => absurd (show (i : Int) < (n : Int) by omega) c)
    refine Drew.bind (m := 1) (m' := 2 * d + 21) (pick_ok h j s _ hj (by omega) (by show wrap64 ((i : Int) + 1) ≤ 200; rw [hw]; omega)) (fun v1 j1 s1 hv1 a1 b1 => ?_) (by omega)
    rw [hw] at hv1
    refine Drew.bind (m := 1) (m' := 2 * d + 20) (one_ok h j1 s1 2 (by omega) (by omega) (by omega)) (fun b j2 s2 _ a2 b2 => ?_) (by omega)
    -- a number put in at a place
    have put : ∀ t : Nat, t ≤ x.length → Drew ((spec_l1Own.f (x.take t)).bind fun t130 => (if t130.length < 17592186044416 then ((some (t130 ++ [(i : Int)] : List Int)).bind fun y133 => ((some (x.drop t : List Int)).bind fun y136 => (if y133.length + y136.length < 17592186044416 then (spec_l1Cur_word.l0 k (n : Int) (y133 ++ y136) (wrap64 ((i : Int) + 1)) l j2 s2) else (none)))) else (none))) j2 (2 * d + 20) (fun q => q.length ≤ 14) := by
      intro t ht
      refine Drew.some (x.take t) (own_val _ (by rw [List.length_take]; omega)) ?_
      have c1 : (x.take t).length < 17592186044416 := by rw [List.length_take]; omega
      refine Drew.ite (fun _ => ?_) (fun n => absurd c1 n)
      have c2 : (x.take t ++ [(i : Int)]).length + (x.drop t).length < 17592186044416 := by simp; omega
      refine Drew.some _ rfl (Drew.some _ rfl (Drew.ite (fun _ => ?_) (fun n => absurd c2 n)))
      rw [hw]
      exact ih k (i + 1) _ j2 s2 (by omega) (by simp; omega) (by omega) (by omega) (by omega)
    refine Drew.ite (fun _ => ?_) (fun _ => ?_)
    · have h1 : (0 : Int) ≤ (i : Int) := by omega
      have h2 : (i : Int) ≤ (x.length : Int) := by omega
      refine Drew.ite (fun _ => Drew.ite (fun _ => ?_) (fun n => absurd h2 n)) (fun n => absurd h1 n)
      exact put (i : Int).toNat (by omega)
    · have h1 : 0 ≤ v1 := hv1.1
      have h2 : v1 ≤ (x.length : Int) := by omega
      refine Drew.ite (fun _ => Drew.ite (fun _ => ?_) (fun n => absurd h2 n)) (fun n => absurd h1 n)
      exact put v1.toNat (by omega)
theorem word_ok {l : List Int} (h : Bytes l) (a : Nat) (ha : a ≤ 9) (k : Nat) (hk : 100 ≤ k) (j s : Int) (hj : 0 ≤ j) (hj2 : j ≤ 50000) : Drew (spec_l1Cur_word.f k l j s (a : Int)) j 50 (fun q => q.length ≤ 14) := by
  have hw : wrap64 ((a : Int) + 1) = (a : Int) + 1 := wrap_id (by omega) (by omega)
  unfold spec_l1Cur_word.f
  refine Drew.bind (m := 1) (m' := 40) (pick_ok h j s _ hj (by omega) (by rw [hw]; omega)) (fun v1 j1 s1 hv1 a1 b1 => ?_) (by omega)
  rw [hw] at hv1
  obtain ⟨n, rfl⟩ : ∃ n : Nat, v1 = (n : Int) := ⟨v1.toNat, by omega⟩
  exact (word_l0 h n (by omega) n k 0 [] j1 s1 (by omega) rfl (by omega) (by omega) (by omega)).le (by omega)
/-- systems -/
theorem systemN_ok {l : List Int} (h : Bytes l) (a : Nat) (ha : a ≤ 6) (k : Nat) (hk : 400 ≤ k) (j s : Int) (hj : 0 ≤ j) (hj2 : j ≤ 1000) : Drew (spec_l1Cur_system.f k l j s (a : Int)) j 100 (fun q => q.length ≤ 198) := by
  have w7 : wrap64 ((a : Int) + 1) = (a : Int) + 1 := wrap_id (by omega) (by omega)
  unfold spec_l1Cur_system.f
  refine Drew.bind (m := 1) (m' := 50) (pick_ok h j s _ hj (by omega) (by rw [w7]; omega)) (fun v1 j1 s1 hv1 a1 b1 => ?_) (by omega)
  have hw1 : v1 < 7 := by
    rw [w7] at hv1
    omega
  refine Drew.bind (m := 12) (m' := 30) (sure_ok h v1 hv1.1 (by omega) k (by omega) j1 s1 (by omega) (by omega)) (fun p j2 s2 hp a2 b2 => ?_) (by omega)
  have hp : p.length ≤ 12 := hp
  have hw2 : wrap64 ((p.length : Int) + 2) = (p.length : Int) + 2 := wrap_id (by omega) (by omega)
  refine Drew.bind (m := 1) (m' := 20) (pick_ok h j2 s2 16 (by omega) (by omega) (by omega)) (fun v3 j3 s3 hv3 a3 b3 => ?_) (by omega)
  refine Drew.ite (fun _ => ?_) (fun _ => Drew.ite (fun _ => ?_) (fun _ => Drew.ite (fun _ => ?_) (fun _ => Drew.ite (fun _ => ?_) (fun _ => ?_))))
  · refine Drew.ite (fun cl => ?_) (fun _ => ?_)
    · have cl' : (p.length : Int) > 0 := cl
      refine Drew.bind (m := 1) (m' := 10) (pick_ok h j3 s3 (p.length : Int) (by omega) (by omega) (by omega)) (fun v4 j4 s4 hv4 a4 b4 => ?_) (by omega)
      refine Drew.bind (m := 1) (m' := 5) (pick_ok h j4 s4 _ (by omega) (by omega) (by show wrap64 ((p.length : Int) + 2) ≤ 200; rw [hw2]; omega)) (fun v5 j5 s5 hv5 a5 b5 => ?_) (by omega)
      have h1 : 0 ≤ v4 := hv4.1
      have h2 : v4 < (p.length : Int) := by omega
      refine Drew.ite (fun _ => Drew.ite (fun _ => ?_) (fun n => absurd h2 n)) (fun n => absurd h1 n)
      exact Drew.done _ _ rfl (by show (p.set _ _).length ≤ 198; rw [List.length_set]; omega) (by omega)
    · exact Drew.done _ _ rfl (by show p.length ≤ 198; omega) (by omega)
  · have h2 : p.length < 17592186044416 := by omega
    refine Drew.ite (fun _ => ?_) (fun n => absurd h2 n)
    exact Drew.done _ _ rfl (by show (p ++ [_]).length ≤ 198; rw [List.length_append, List.length_singleton]; omega) (by omega)
  · refine Drew.bind (m := 1) (m' := 10) (pick_ok h j3 s3 2 (by omega) (by omega) (by omega)) (fun v4 j4 s4 hv4 a4 b4 => ?_) (by omega)
    obtain ⟨q, eq, hq⟩ := flat_ok (wrap64 (6 + v4)) (by rw [wrap_id (by omega) (by omega)]; omega) (by rw [wrap_id (by omega) (by omega)]; omega) k (by omega)
    have hq2 : q.length ≤ 198 := by omega
    exact Drew.done q s4 (by show (spec_ahFlat.f k (wrap64 (6 + v4))).bind _ = _; rw [eq]; rfl) hq2 (by omega)
  · refine Drew.bind (m := 1) (m' := 10) (pick_ok h j3 s3 7 (by omega) (by omega) (by omega)) (fun v4 j4 s4 hv4 a4 b4 => ?_) (by omega)
    obtain ⟨q, eq, hq⟩ := rain_ok v4 hv4.1 (by omega) k (by omega)
    have hq2 : q.length ≤ 198 := by omega
    exact Drew.done q s4 (by show (spec_ahRainbow.f k v4).bind _ = _; rw [eq]; rfl) hq2 (by omega)
  · exact Drew.done _ _ rfl (by show p.length ≤ 198; omega) (by omega)
/-- pairs -/
theorem pair_ok {l : List Int} (h : Bytes l) (a : Nat) (ha : a ≤ 6) (k : Nat) (hk : 1000 ≤ k) (j s : Int) (hj : 0 ≤ j) (hj2 : j ≤ 500) : Drew2 (spec_l1Cur_pair.f k l j s (a : Int)) j 200 (fun p q => p.length ≤ 198 ∧ q.length ≤ 198) := by
  have hw : wrap64 ((a : Int) + 1) = (a : Int) + 1 := wrap_id (by omega) (by omega)
  unfold spec_l1Cur_pair.f
  refine Drew.bind2 (m := 1) (m' := 190) (pick_ok h j s _ hj (by omega) (by rw [hw]; omega)) (fun n j1 s1 hn a1 b1 => ?_) (by omega)
  rw [hw] at hn
  refine Drew.bind2 (m := 12) (m' := 170) (sure_ok h n hn.1 (by omega) k (by omega) j1 s1 (by omega) (by omega)) (fun p j2 s2 hp a2 b2 => ?_) (by omega)
  have hp : p.length ≤ 12 := hp
  refine Drew.bind2 (m := 12) (m' := 150) (sure_ok h n hn.1 (by omega) k (by omega) j2 s2 (by omega) (by omega)) (fun q j3 s3 hq a3 b3 => ?_) (by omega)
  have hq : q.length ≤ 12 := hq
  refine Drew.bind2 (m := 1) (m' := 120) (pick_ok h j3 s3 16 (by omega) (by omega) (by omega)) (fun v j4 s4 hv a4 b4 => ?_) (by omega)
  refine Drew2.ite (fun _ => ?_) (fun _ => Drew2.ite (fun _ => ?_) (fun _ => Drew2.ite (fun _ => ?_) (fun _ => Drew2.ite (fun _ => ?_) (fun _ => ?_))))
  · refine Drew.bind2 (m := 100) (m' := 0) (systemN_ok h a ha k (by omega) j4 s4 (by omega) (by omega)) (fun t j5 s5 ht _ _ => ?_) (by omega)
    have ht : t.length ≤ 198 := ht
    exact Drew2.done t q s5 rfl (show t.length ≤ 198 ∧ q.length ≤ 198 by omega) (by omega)
  · refine Drew.bind2 (m := 100) (m' := 0) (systemN_ok h a ha k (by omega) j4 s4 (by omega) (by omega)) (fun t j5 s5 ht _ _ => ?_) (by omega)
    have ht : t.length ≤ 198 := ht
    exact Drew2.done p t s5 rfl (show p.length ≤ 198 ∧ t.length ≤ 198 by omega) (by omega)
  · obtain ⟨t, et, ht⟩ := rain_ok n hn.1 (by omega) k (by omega)
    obtain ⟨u, eu, hu⟩ := flat_ok n hn.1 (by omega) k (by omega)
    exact Drew2.done t u s4 (by show (spec_ahRainbow.f k n).bind _ = _; rw [et]; show (spec_ahFlat.f k n).bind _ = _; rw [eu]; rfl) (show t.length ≤ 198 ∧ u.length ≤ 198 by omega) (by omega)
  · exact Drew2.done p p s4 (by show (spec_l1Own.f p).bind _ = _; rw [own_val p (by omega)]; rfl) (show p.length ≤ 198 ∧ p.length ≤ 198 by omega) (by omega)
  · exact Drew2.done p q s4 rfl (show p.length ≤ 198 ∧ q.length ≤ 198 by omega) (by omega)
/-- all systems of n arches are good ones of 2 n points -/
def listedS (n : Nat) : Bool := match spec_ahAll.f 3000 (n : Int) 0 with
  | some l => decide (l.length ≤ 200) && l.all fun p => good p && p.length == 2 * n
  | _ => false
set_option maxRecDepth 100000 in
theorem listedS_all : ∀ n : Fin 7, listedS n.val = true := by decide +kernel
theorem upF {α : Type} {g : Nat → Option α} (hm : ∀ k, LeO (g k) (g (k + 1))) {r : α} {k : Nat} (h : g k = some r) : ∀ d, g (k + d) = some r
  | 0 => h
  | d + 1 => hm _ r (upF hm h d)
theorem allS_ok (n : Nat) (hn : n ≤ 6) : ∃ l, (∀ k, 3000 ≤ k → spec_ahAll.f k (n : Int) 0 = some l) ∧ l.length ≤ 200 ∧ ∀ p ∈ l, good p = true ∧ p.length = 2 * n := by
  have h := listedS_all ⟨n, by omega⟩
  unfold listedS at h
  split at h
  · rename_i l e
    simp only [Bool.and_eq_true, decide_eq_true_eq, List.all_eq_true, beq_iff_eq] at h
    refine ⟨l, fun k hk => ?_, h.1, h.2⟩
    obtain ⟨d, rfl⟩ : ∃ d, k = 3000 + d := ⟨k - 3000, by omega⟩
    exact upF (g := fun k => spec_ahAll.f k (n : Int) 0) (fun k => spec_ahAll.mono _ _ k) e d
  · cases h
theorem rdL2_at {L : List (List Int)} {i : Nat} (h : i < L.length) : rd_L2 L (i : Int) = L[i] := by
  unfold rd_L2; simp [h]
theorem closing_l0 {p : List Int} (hg : good p = true) (L : List (List Int)) (hL : L.length ≤ 200) (hall : ∀ q ∈ L, good q = true ∧ q.length = p.length) (d : Nat) : ∀ (k i : Nat) (acc : List (List Int)), i + d = L.length → d + 1000 ≤ k → acc.length ≤ i → (∀ q ∈ acc, q.length = p.length) →
    ∃ R, spec_meClosing.l0 k p 1 acc L (L.length : Int) (i : Int) = some R ∧ R.length ≤ 200 ∧ ∀ q ∈ R, q.length = p.length := by
  induction d with
  | zero =>
    intro k i acc hi hk ha hq
    obtain ⟨k, rfl⟩ : ∃ m, k = m + 1 := ⟨k - 1, by omega⟩
    rw [spec_meClosing.l0, if_neg (by omega)]
    exact ⟨acc, rfl, by omega, hq⟩
  | succ d ih =>
    intro k i acc hi hk ha hq
    obtain ⟨k, rfl⟩ : ∃ m, k = m + 1 := ⟨k - 1, by omega⟩
    have hlt : i < L.length := by omega
    have hx := hall _ (List.getElem_mem hlt)
    have hP : Pair p L[i] := ⟨hg, hx.1, hx.2.symm⟩
    rw [spec_meClosing.l0, if_pos (by omega), if_pos (by omega), if_pos (by omega), rdL2_at hlt, count_ev hP k (by omega), Option.bind_some, wrap_succ (by omega)]
    by_cases c : (((colours (qof p) (qof L[i]) p.length).2 : Nat) : Int) = 1
    · rw [if_pos c, if_pos (by omega)]
      exact ih k (i + 1) _ (by omega) (by omega) (by simp; omega) (fun q hm => by
        rcases List.mem_append.1 hm with h | h
        · exact hq q h
        · rw [List.mem_singleton.1 h]; exact hx.2)
    · rw [if_neg c]
      exact ih k (i + 1) acc (by omega) (by omega) (by omega) hq
theorem closing_ok {p : List Int} (hg : good p = true) (k : Nat) (hk : 4000 ≤ k) : ∃ R, spec_meClosing.f k p 1 = some R ∧ R.length ≤ 200 ∧ ∀ q ∈ R, q.length = p.length := by
  have h12 := (good_len hg).1
  have hev : p.length % 2 = 0 := by
    unfold good at hg
    simp only [Bool.and_eq_true, decide_eq_true_eq] at hg
    exact hg.1
  obtain ⟨L, hL, h1, h2⟩ := allS_ok (p.length / 2) (by omega)
  unfold spec_meClosing.f
  rw [show wrap64 ((p.length : Int) / 2) = ((p.length / 2 : Nat) : Int) by rw [wrap_id (by omega) (by omega)]; omega, hL k (by omega), Option.bind_some]
  exact closing_l0 hg L h1 (fun q hq => ⟨(h2 q hq).1, by have := (h2 q hq).2; omega⟩) L.length k 0 [] (by omega) (by omega) (by simp) (by simp)
/-- meanders -/
theorem single_ok {l : List Int} (h : Bytes l) (a : Nat) (ha : a ≤ 6) (k : Nat) (hk : 5000 ≤ k) (j s : Int) (hj : 0 ≤ j) (hj2 : j ≤ 500) : Drew2 (spec_l1Cur_single.f k l j s (a : Int)) j 210 (fun p q => p.length ≤ 198 ∧ q.length ≤ 198) := by
  unfold spec_l1Cur_single.f
  refine Drew2.bind2 (m := 200) (m' := 10) (pair_ok h a ha k (by omega) j s hj hj2) (fun p q j1 s1 hpq a1 b1 => ?_) (by omega)
  have hpq : p.length ≤ 198 ∧ q.length ≤ 198 := hpq
  refine Drew2.some (o := none) (pairB p q) (mePair_ev p q (by omega) (by omega) k (by omega)) ?_
  obtain ⟨k, rfl⟩ : ∃ m, k = m + 1 := ⟨k - 1, by omega⟩
  have out : ∀ j2 s2, j1 ≤ j2 → j2 ≤ j1 + 1 → Drew2 (spec_l1Cur_single.j0 (k + 1) true l j2 s2 p q) j2 5 (fun p q => p.length ≤ 198 ∧ q.length ≤ 198) := by
    intro j2 s2 _ _
    rw [spec_l1Cur_single.j0, if_pos rfl]
    exact Drew2.done p q s2 rfl hpq (by omega)
  refine Drew2.ite (fun hp => ?_) (fun _ => ?_)
  · have hP := pairB_pair hp
    refine Drew.bind2 (m := 1) (m' := 5) (one_ok h j1 s1 8 (by omega) (by omega) (by omega)) (fun b j2 s2 _ a2 b2 => ?_) (by omega)
    cases b with
    | true => exact out j2 s2 a2 b2
    | false =>
      show Drew2 (spec_l1Cur_single.j0 (k + 1) false l j2 s2 p q) j2 5 _
      rw [spec_l1Cur_single.j0, if_neg (by simp)]
      obtain ⟨R, eR, hR, hRq⟩ := closing_ok hP.gp k (by omega)
      refine Drew2.some (o := none) R eR ?_
      refine Drew2.ite (fun hpos => ?_) (fun _ => Drew2.done p q s2 rfl hpq (by omega))
      have hpos' : (R.length : Int) > 0 := hpos
      refine Drew.bind2 (m := 1) (m' := 0) (pick_ok h j2 s2 (R.length : Int) (by omega) (by omega) (by omega)) (fun v j3 s3 hv a3 b3 => ?_) (by omega)
      have h1 : 0 ≤ v := hv.1
      have h2 : v < (R.length : Int) := by omega
      refine Drew2.ite (fun _ => Drew2.ite (fun _ => ?_) (fun n => absurd h2 n)) (fun n => absurd h1 n)
      obtain ⟨m, rfl⟩ : ∃ m : Nat, v = (m : Int) := ⟨v.toNat, by omega⟩
      have hm := hRq _ (List.getElem_mem (l := R) (n := m) (by omega))
      refine Drew2.some (o := none) R[m] (by show spec_l1Own.f (rd_L2 R (m : Int)) = _; rw [rdL2_at (by omega)]; exact own_val _ (by omega)) ?_
      exact Drew2.done p R[m] s3 rfl (show p.length ≤ 198 ∧ R[m].length ≤ 198 by omega) (by omega)
  · have := out j1 s1 (by omega) (by omega)
    obtain ⟨p', q', j', s', e, hv, h3, h4⟩ := this.ok
    exact ⟨p', q', j', s', e, hv, h3, by omega⟩
/-- words of meanders -/
theorem closedWord_ok {l : List Int} (h : Bytes l) (k : Nat) (hk : 6000 ≤ k) (j s : Int) (hj : 0 ≤ j) (hj2 : j ≤ 400) : Drew (spec_l1Cur_closedWord.f k l j s) j 300 (fun w => w.length ≤ 24) := by
  unfold spec_l1Cur_closedWord.f
  refine Drew2.bind (m := 210) (m' := 80) (single_ok h 5 (by omega) k (by omega) j s hj (by omega)) (fun p q j1 s1 hpq a1 b1 => ?_) (by omega)
  have hpq : p.length ≤ 198 ∧ q.length ≤ 198 := hpq
  refine Drew.some (meander p q) (peSingle_ev p q (by omega) (by omega) k (by omega)) ?_
  obtain ⟨k, rfl⟩ : ∃ m, k = m + 1 := ⟨k - 1, by omega⟩
  have out : ∀ j2 s2, j1 ≤ j2 → j2 ≤ j1 + 1 → Drew (spec_l1Cur_closedWord.j0 (k + 1) true l j2 s2 p q) j2 60 (fun w => w.length ≤ 24) := by
    intro j2 s2 _ _
    rw [spec_l1Cur_closedWord.j0, if_pos rfl]
    refine Drew.bind (m := 50) (m' := 0) (word_ok h 8 (by omega) k (by omega) j2 s2 (by omega) (by omega)) (fun w j3 s3 hw _ _ => ?_) (by omega)
    have hw : w.length ≤ 14 := hw
    exact Drew.done w s3 rfl (by show w.length ≤ 24; omega) (by omega)
  refine Drew.ite (fun hp => ?_) (fun _ => ?_)
  · have hp : meander p q = true := hp
    refine Drew.bind (m := 1) (m' := 70) (one_ok h j1 s1 5 (by omega) (by omega) (by omega)) (fun b j2 s2 _ a2 b2 => ?_) (by omega)
    cases b with
    | true => exact (out j2 s2 a2 b2).le (by omega)
    | false =>
      obtain ⟨hP, hn, _⟩ := meander_one hp
      show Drew (spec_l1Cur_closedWord.j0 (k + 1) false l j2 s2 p q) j2 70 _
      rw [spec_l1Cur_closedWord.j0, if_neg (by simp)]
      refine Drew.some (word p q) (sway_ev hP 0 hn k (by omega)) ?_
      exact Drew.done (word p q) s2 rfl (word_len hp) (by omega)
  · exact (out j1 s1 (by omega) (by omega)).le (by omega)
/-- open words -/
theorem peAll_ok (n : Nat) (hn : n ≤ 7) (k : Nat) (hk : 2000 ≤ k) : spec_peAll.f k [] (n : Int) = some (words n n []) := (both_words n hn n [] k (by simp) (by omega)).1
theorem rest_words (n : Nat) (d : Nat) : ∀ (l : List Int), ∀ w ∈ words n d l, w.length = l.length + d := by
  induction d with
  | zero => intro l w hw; rw [words, List.mem_singleton] at hw; rw [hw]; rfl
  | succ d ih =>
    intro l w hw
    rw [words, List.mem_flatMap] at hw
    obtain ⟨x, _, hw⟩ := hw
    split at hw
    · cases hw
    · have := ih _ w hw
      rw [List.length_append, List.length_singleton] at this
      omega
set_option maxRecDepth 100000 in
theorem words_small : ∀ n : Fin 6, 0 < (words n n []).length ∧ (words n n []).length ≤ 200 := by decide +kernel
theorem openWord_ok {l : List Int} (h : Bytes l) (k : Nat) (hk : 7000 ≤ k) (j s : Int) (hj : 0 ≤ j) (hj2 : j ≤ 300) : Drew (spec_l1Cur_openWord.f k l j s) j 400 (fun w => w.length ≤ 24) := by
  unfold spec_l1Cur_openWord.f
  refine Drew.bind (m := 1) (m' := 390) (one_ok h j s 4 hj (by omega) (by omega)) (fun b j1 s1 _ a1 b1 => ?_) (by omega)
  refine Drew.ite (fun _ => ?_) (fun _ => ?_)
  · refine Drew.bind (m := 50) (m' := 0) (word_ok h 7 (by omega) k (by omega) j1 s1 (by omega) (by omega)) (fun w j3 s3 hw _ _ => ?_) (by omega)
    have hw : w.length ≤ 14 := hw
    exact Drew.done w s3 rfl (by show w.length ≤ 24; omega) (by omega)
  · refine Drew.bind (m := 1) (m' := 380) (one_ok h j1 s1 2 (by omega) (by omega) (by omega)) (fun b2 j2 s2 _ a2 b2' => ?_) (by omega)
    refine Drew.ite (fun _ => ?_) (fun _ => ?_)
    · refine Drew.bind (m := 300) (m' := 10) (closedWord_ok h k (by omega) j2 s2 (by omega) (by omega)) (fun w j3 s3 hw a3 b3 => ?_) (by omega)
      have hw : w.length ≤ 24 := hw
      have hw1 : wrap64 ((w.length : Int) + 1) = (w.length : Int) + 1 := wrap_id (by omega) (by omega)
      refine Drew.bind (m := 1) (m' := 0) (pick_ok h j3 s3 _ (by omega) (by omega) (by show wrap64 ((w.length : Int) + 1) ≤ 200; rw [hw1]; omega)) (fun v j4 s4 hv a4 b4 => ?_) (by omega)
      rw [hw1] at hv
      have h1 : 0 ≤ v := hv.1
      have h2 : v ≤ (w.length : Int) := by omega
      refine Drew.ite (fun _ => Drew.ite (fun _ => ?_) (fun n => absurd h2 n)) (fun n => absurd h1 n)
      exact Drew.done _ s4 rfl (by show (w.take v.toNat).length ≤ 24; rw [List.length_take]; omega) (by omega)
    · refine Drew.bind (m := 1) (m' := 10) (pick_ok h j2 s2 6 (by omega) (by omega) (by omega)) (fun v j3 s3 hv a3 b3 => ?_) (by omega)
      obtain ⟨n, rfl⟩ : ∃ n : Nat, v = (n : Int) := ⟨v.toNat, by omega⟩
      have hn : n ≤ 5 := by omega
      obtain ⟨hpos, hle⟩ := words_small ⟨n, by omega⟩
      have hpos : 0 < (words n n []).length := hpos
      have hle : (words n n []).length ≤ 200 := hle
      refine Drew.some (words n n []) (peAll_ok n (by omega) k (by omega)) ?_
      refine Drew.bind (m := 1) (m' := 0) (pick_ok h j3 s3 ((words n n []).length : Int) (by omega) (by omega) (by omega)) (fun v j4 s4 hv a4 b4 => ?_) (by omega)
      have h1 : 0 ≤ v := hv.1
      have h2 : v < ((words n n []).length : Int) := by omega
      refine Drew.ite (fun _ => Drew.ite (fun _ => ?_) (fun n => absurd h2 n)) (fun n => absurd h1 n)
      obtain ⟨m, rfl⟩ : ∃ m : Nat, v = (m : Int) := ⟨v.toNat, by omega⟩
      have hm := rest_words n n [] _ (List.getElem_mem (l := words n n []) (n := m) (by omega))
      refine Drew.done (words n n [])[m] s4 (by show some (rd_L2 (words n n []) (m : Int), j4, s4) = _; rw [rdL2_at (by omega)]) ?_ (by omega)
      rw [hm]; simp; omega
theorem drawOpen_ok {l : List Int} (h : Bytes l) (k : Nat) (hk : 7000 ≤ k) : ∃ w, w.length ≤ 24 ∧ spec_DrawIsOpenPermutation.f k l = some w := by
  obtain ⟨w, j, s, e, hw, _⟩ := (openWord_ok h k hk 0 0 (by omega) (by omega)).ok
  exact ⟨w, hw, by unfold spec_DrawIsOpenPermutation.f; rw [e]; rfl⟩
theorem drawWord_ok {l : List Int} (h : Bytes l) (k : Nat) (hk : 7000 ≤ k) : ∃ w, w.length ≤ 24 ∧ spec_DrawCrossingOf.f k l = some w := by
  obtain ⟨w, j, s, e, hw, _⟩ := (word_ok h 9 (by omega) k (by omega) 0 0 (by omega) (by omega)).ok
  have hw : w.length ≤ 14 := hw
  have e' : spec_l1Cur_word.f k l 0 0 9 = some (w, j, s) := e
  exact ⟨w, by omega, by unfold spec_DrawCrossingOf.f; rw [e']; rfl⟩

end Go.Proofs.Ytldbkkfkgfacdaa.Pure
