/- The walk round a semi-meander: it comes back to its half after half as many steps as there are points; the program's folding and the reference's are one. -/
import Derived.Test.YtnhegojnbdcpdaaPSemi
import Derived.Test.YtnhegojnbdcpdaaX5
set_option linter.unusedVariables false
set_option linter.unusedSimpArgs false
namespace Go.Proofs.Ytnhegojnbdcpdaa.Pure
open Go.RowKit Go.Proofs.Ytnhegojnbdcpdaa.X Go.Proofs.YtnhegojnbdcpdaaW.PrintWords Go.Proofs.YtnhegojnbdcpdaaW.PrintLast Go.Proofs.YtnhegojnbdcpdaaW.PrintMore

theorem sys_parity {q : Nat → Nat} {n : Nat} (hr : ∀ i, i < n → q i < n) (h : Sys q n) : ∀ i, i < n → i < q i → (q i + i) % 2 = 1 := by
  intro i hi hlt
  have hq := hr i hi
  have inside : ∀ j, j < q i - i - 1 → i + 1 ≤ q (j + i + 1) ∧ q (j + i + 1) < q i := by
    intro j hj
    have h1 := h.lam i hi (j + i + 1) (by omega) (by omega)
    have h2 := h.inv (j + i + 1) (by omega)
    have h3 := h.inv i hi
    have e1 : q (j + i + 1) ≠ i := fun e => by rw [e] at h2; omega
    have e2 : q (j + i + 1) ≠ q i := fun e => by rw [e, h3] at h2; omega
    omega
  have hs : Sys (fun j => q (j + i + 1) - (i + 1)) (q i - i - 1) := by
    refine ⟨fun j hj => ?_, fun j hj => ?_, fun a ha b hab hb => ?_⟩
    · have h1 := inside j hj
      have h2 := h.ne (j + i + 1) (by omega)
      show q (j + i + 1) - (i + 1) ≠ j
      omega
    · have h1 := inside j hj
      have h2 := h.inv (j + i + 1) (by omega)
      show q (q (j + i + 1) - (i + 1) + i + 1) - (i + 1) = j
      rw [show q (j + i + 1) - (i + 1) + i + 1 = q (j + i + 1) by omega, h2]
      omega
    · have hb : b < q (a + i + 1) - (i + 1) := hb
      have h1 := inside a ha
      have h2 := h.lam (a + i + 1) (by omega) (b + i + 1) (by omega) (by omega)
      show a ≤ q (b + i + 1) - (i + 1) ∧ q (b + i + 1) - (i + 1) ≤ q (a + i + 1) - (i + 1)
      omega
  have := (sys_iff_scan (fun j hj => by have := inside j hj; show q (j + i + 1) - (i + 1) < _; omega)).1 hs
  omega
theorem sys_unlike {q : Nat → Nat} {n : Nat} (hr : ∀ i, i < n → q i < n) (h : Sys q n) (i : Nat) (hi : i < n) : (q i + i) % 2 = 1 := by
  have h1 := h.ne i hi
  by_cases hlt : i < q i
  · exact sys_parity hr h i hi hlt
  · have h2 := h.inv i hi
    have := sys_parity hr h (q i) (hr i hi) (by omega)
    omega
theorem two_keep {P Q : Nat → Nat} {n : Nat} (t : Two P Q n) (c : Nat) (hc : c < n) : Q (P c) % 2 = c % 2 := by
  have h1 := sys_unlike t.pr t.p c hc
  have h2 := sys_unlike t.qr t.q _ (t.pr c hc)
  omega
theorem two_half {P Q : Nat → Nat} {h : Nat} (t : Two P Q (2 * h)) (s : Nat) (hs : s < 2 * h) : ∃ m, 1 ≤ m ∧ m ≤ h ∧ iter (fun x => Q (P x)) m s = s := by
  have keep : ∀ x, x < h → Q (P (2 * x + s % 2)) = 2 * (Q (P (2 * x + s % 2)) / 2) + s % 2 := fun x hx => by
    have := two_keep t (2 * x + s % 2) (by omega)
    omega
  have lt : ∀ x, x < h → Q (P (2 * x + s % 2)) / 2 < h := fun x hx => by
    have := t.qr _ (t.pr (2 * x + s % 2) (by omega))
    omega
  obtain ⟨m, h1, h2, h3, _⟩ := comes_back (f := fun x => Q (P (2 * x + s % 2)) / 2) (n := h) lt (fun x y hx hy e => by
    have e : Q (P (2 * x + s % 2)) / 2 = Q (P (2 * y + s % 2)) / 2 := e
    have k1 := keep x hx
    have k2 := keep y hy
    rw [e, ← k2] at k1
    have := t.inj _ _ (by omega) (by omega) k1
    omega) (s / 2) (by omega)
  refine ⟨m, h1, h2, ?_⟩
  have go : ∀ m x, x < h → iter (fun x => Q (P x)) m (2 * x + s % 2) = 2 * iter (fun x => Q (P (2 * x + s % 2)) / 2) m x + s % 2 := by
    intro m
    induction m with
    | zero => intro x _; rfl
    | succ m ih =>
      intro x hx
      show iter (fun x => Q (P x)) m (Q (P (2 * x + s % 2))) = 2 * iter (fun x => Q (P (2 * x + s % 2)) / 2) m (Q (P (2 * x + s % 2)) / 2) + s % 2
      rw [← ih _ (lt x hx), ← keep x hx]
  have := go m (s / 2) (by omega)
  rw [h3, show 2 * (s / 2) + s % 2 = s by omega] at this
  exact this
theorem flat_mem {P Q : Nat → Nat} (d : Nat) : ∀ c x, x ∈ flat P Q d c ↔ ∃ e, e < d ∧ (x = iter (fun x => Q (P x)) e c ∨ x = P (iter (fun x => Q (P x)) e c)) := by
  induction d with
  | zero => intro c x; simp [flat]
  | succ d ih =>
    intro c x
    simp only [flat, List.mem_cons, ih]
    constructor
    · rintro (rfl | rfl | ⟨e, he, h⟩)
      · exact ⟨0, by omega, .inl rfl⟩
      · exact ⟨0, by omega, .inr rfl⟩
      · exact ⟨e + 1, by omega, h⟩
    · rintro ⟨e, he, h⟩
      cases e with
      | zero => exact h.elim .inl fun h => .inr (.inl h)
      | succ e => exact .inr (.inr ⟨e, by omega, h⟩)
theorem back_to {P Q : Nat → Nat} {n : Nat} (t : Two P Q n) (C : List Nat) (cp : ∀ x, x ∈ C → P x ∈ C) (cq : ∀ x, x ∈ C → Q x ∈ C) (d : Nat) : ∀ c, c < n → ∀ x, x ∈ flat P Q d c → (x ∈ C ↔ c ∈ C) := by
  induction d with
  | zero => intro c _ x hx; simp [flat] at hx
  | succ d ih =>
    intro c hc x hx
    have i1 : P c ∈ C ↔ c ∈ C := ⟨fun h => by have := cp _ h; rw [t.p.inv c hc] at this; exact this, cp c⟩
    have i2 : Q (P c) ∈ C ↔ P c ∈ C := ⟨fun h => by have := cq _ h; rw [t.q.inv _ (t.pr c hc)] at this; exact this, cq _⟩
    simp only [flat, List.mem_cons] at hx
    rcases hx with rfl | rfl | hx
    · exact Iff.rfl
    · exact i1
    · exact ((ih _ (t.qr _ (t.pr c hc)) x hx).trans i2).trans i1
theorem full_len (n : Nat) : ∀ (w : List Nat), (∀ j, j < n → j ∈ w) → n ≤ w.length := by
  induction n with
  | zero => intros; omega
  | succ n ih =>
    intro w h
    have hm := h n (by omega)
    have h1 := ih (w.erase n) (fun j hj => (List.mem_erase_of_ne (by omega)).2 (h j (by omega)))
    have h2 := List.length_erase_of_mem hm
    have h3 := List.length_pos_of_mem hm
    omega
theorem two_long {P Q : Nat → Nat} {n : Nat} (t : Two P Q n) (h0 : 0 < n) (full : ∀ j, j < n → j ∈ wayOf P Q n 0) (s : Nat) (hs : s < n) (e : Nat) (he : 1 ≤ e) (hi : iter (fun x => Q (P x)) e s = s) : n ≤ 2 * e := by
  obtain ⟨m, _, _, _, _, hw⟩ := t.period 0 h0
  rw [hw] at full
  have lt : ∀ d, iter (fun x => Q (P x)) d s < n := fun d => iter_lt (fun x hx => t.qr _ (t.pr x hx)) d s hs
  have cp : ∀ x, x ∈ flat P Q e s → P x ∈ flat P Q e s := by
    intro x hx
    obtain ⟨d, hd, h | h⟩ := (flat_mem e s x).1 hx
    · exact (flat_mem e s _).2 ⟨d, hd, .inr (by rw [h])⟩
    · exact (flat_mem e s _).2 ⟨d, hd, .inl (by rw [h, t.p.inv _ (lt d)])⟩
  have cq : ∀ x, x ∈ flat P Q e s → Q x ∈ flat P Q e s := by
    intro x hx
    obtain ⟨d, hd, h | h⟩ := (flat_mem e s x).1 hx
    · have key : ∃ d', d' < e ∧ x = Q (P (iter (fun x => Q (P x)) d' s)) := by
        cases d with
        | zero =>
          obtain ⟨e, rfl⟩ : ∃ c, e = c + 1 := ⟨e - 1, by omega⟩
          refine ⟨e, by omega, ?_⟩
          rw [iter_succ] at hi
          rw [hi]; exact h
        | succ d => exact ⟨d, by omega, by rw [h, iter_succ]⟩
      obtain ⟨d', hd', h'⟩ := key
      exact (flat_mem e s _).2 ⟨d', hd', .inr (by rw [h', t.q.inv _ (t.pr _ (lt d'))])⟩
    · by_cases hde : d + 1 < e
      · exact (flat_mem e s _).2 ⟨d + 1, hde, .inl (by rw [h, iter_succ])⟩
      · obtain rfl : e = d + 1 := by omega
        rw [iter_succ] at hi
        exact (flat_mem (d + 1) s _).2 ⟨0, by omega, .inl (by rw [h]; exact hi)⟩
  have hsC : s ∈ flat P Q e s := (flat_mem e s s).2 ⟨0, by omega, .inl rfl⟩
  have h0C : 0 ∈ flat P Q e s := (back_to t _ cp cq m 0 h0 s (full s hs)).1 hsC
  have := full_len n (flat P Q e s) (fun j hj => (back_to t _ cp cq m 0 h0 j (full j hj)).2 h0C)
  rw [flat_length] at this
  exact this
theorem two_period {P Q : Nat → Nat} {h : Nat} (t : Two P Q (2 * h)) (h0 : 0 < h) (full : ∀ j, j < 2 * h → j ∈ wayOf P Q (2 * h) 0) (s : Nat) (hs : s < 2 * h) :
    iter (fun x => Q (P x)) h s = s ∧ ∀ e, 1 ≤ e → e < h → iter (fun x => Q (P x)) e s ≠ s := by
  obtain ⟨m, h1, h2, h3⟩ := two_half t s hs
  have h4 := two_long t (by omega) full s hs m h1 h3
  obtain rfl : m = h := by omega
  exact ⟨h3, fun e h5 h6 h7 => by have := two_long t (by omega) full s hs e h5 h7; omega⟩

/-- the stamps met on the walk -/
def stamps (P : Nat → Nat) (h : Nat) : Nat → Nat → List Nat
  | 0, _ => []
  | d + 1, c => (if c < h then h - 1 - c else c - h) :: stamps P h d (2 * h - 1 - P c)
theorem stamps_length (P : Nat → Nat) (h : Nat) (d : Nat) : ∀ c, (stamps P h d c).length = d := by
  induction d with
  | zero => intro c; rfl
  | succ d ih => intro c; simp [stamps, ih]
theorem sfold_l0 {p : List Int} (hg : good p = true) (h : Nat) (hp : p.length = 2 * h) (d : Nat) : ∀ (k c : Nat) (acc : List Nat), c < 2 * h → acc.length + d = h → d < k →
    spec_FoldingOfSemi.l0 k p (h : Int) (ints acc) (c : Int) = some (ints (acc ++ stamps (qof p) h d c), true) := by
  have hn := good_len hg
  induction d with
  | zero =>
    intro k c acc hc ha hk
    obtain ⟨k, rfl⟩ : ∃ m, k = m + 1 := ⟨k - 1, by omega⟩
    rw [spec_FoldingOfSemi.l0, if_neg (by rw [ints_length]; omega)]
    simp [stamps]
  | succ d ih =>
    intro k c acc hc ha hk
    obtain ⟨k, rfl⟩ : ∃ m, k = m + 1 := ⟨k - 1, by omega⟩
    have hq := inr_get hn.2 c (by omega)
    rw [spec_FoldingOfSemi.l0, if_pos (by rw [ints_length]; omega)]
    have hnext : wrap64 (wrap64 (wrap64 (2 * (h : Int)) - 1) - rd p (c : Int)) = ((2 * h - 1 - qof p c : Nat) : Int) := by
      rw [hq.1, wrap_id (x := 2 * (h : Int)) (by omega) (by omega), wrap_id (x := 2 * (h : Int) - 1) (by omega) (by omega), wrap_id (by omega) (by omega)]
      omega
    have hrec := ih k (2 * h - 1 - qof p c) (acc ++ [if c < h then h - 1 - c else c - h]) (by omega) (by simp; omega) (by omega)
    rw [ints_append] at hrec
    rw [hnext]
    have g1 : (ints acc).length < 17592186044416 := by rw [ints_length]; omega
    have g2 : (0 : Int) ≤ (c : Int) := by omega
    have g3 : (c : Int) < (p.length : Int) := by omega
    by_cases hc2 : c < h
    · rw [if_pos hc2] at hrec
      have g4 : (c : Int) < (h : Int) := by omega
      have g5 : wrap64 (wrap64 ((h : Int) - 1) - (c : Int)) = ((h - 1 - c : Nat) : Int) := by
        rw [wrap_id (x := (h : Int) - 1) (by omega) (by omega), wrap_id (by omega) (by omega)]; omega
      simp only [g1, g2, g3, g4, if_true, g5]
      have e : ints acc ++ [((h - 1 - c : Nat) : Int)] = ints acc ++ ints [h - 1 - c] := rfl
      rw [e, hrec]
      simp [stamps, hc2]
    · rw [if_neg hc2] at hrec
      have g4 : ¬ (c : Int) < (h : Int) := by omega
      have g5 : wrap64 ((c : Int) - (h : Int)) = ((c - h : Nat) : Int) := by
        rw [wrap_id (by omega) (by omega)]; omega
      simp only [g1, g2, g3, g4, if_true, if_false, g5]
      have e : ints acc ++ [((c - h : Nat) : Int)] = ints acc ++ ints [c - h] := rfl
      rw [e, hrec]
      simp [stamps, hc2]
theorem ifold_l0 {p : List Int} (hg : good p = true) (h : Nat) (hp : p.length = 2 * h) (d : Nat) : ∀ (k c : Nat) (acc : List Nat), c < 2 * h → acc.length + d + 1 ≤ 1000 → d < k →
    iter (fun x => 2 * h - 1 - qof p x) (d + 1) c = h → (∀ e, 1 ≤ e → e ≤ d → iter (fun x => 2 * h - 1 - qof p x) e c ≠ h) →
    impl_foldingOfSemi.l0 k p (h : Int) (ints acc) (c : Int) = some (ints (acc ++ stamps (qof p) h (d + 1) c)) := by
  have hn := good_len hg
  induction d with
  | zero =>
    intro k c acc hc ha hk he _
    obtain ⟨k, rfl⟩ : ∃ m, k = m + 1 := ⟨k - 1, by omega⟩
    have hq := inr_get hn.2 c (by omega)
    have he' : 2 * h - 1 - qof p c = h := he
    have hnext : wrap64 (wrap64 (wrap64 (2 * (h : Int)) - 1) - rd p (c : Int)) = ((2 * h - 1 - qof p c : Nat) : Int) := by
      rw [hq.1, wrap_id (x := 2 * (h : Int)) (by omega) (by omega), wrap_id (x := 2 * (h : Int) - 1) (by omega) (by omega), wrap_id (by omega) (by omega)]
      omega
    have hv : mx (wrap64 ((c : Int) - (h : Int))) (wrap64 (wrap64 ((h : Int) - 1) - (c : Int))) = ((if c < h then h - 1 - c else c - h : Nat) : Int) := by
      rw [wrap_id (x := (h : Int) - 1) (by omega) (by omega), wrap_id (by omega) (by omega), wrap_id (by omega) (by omega)]
      unfold mx
      split <;> split <;> omega
    rw [impl_foldingOfSemi.l0, if_pos (by rw [ints_length]; omega), Option.bind_some, if_pos (by omega), if_pos (by omega), hnext, if_pos (by omega), hv]
    simp [stamps, ints]
  | succ d ih =>
    intro k c acc hc ha hk he hne
    obtain ⟨k, rfl⟩ : ∃ m, k = m + 1 := ⟨k - 1, by omega⟩
    have hq := inr_get hn.2 c (by omega)
    have h0 : 2 * h - 1 - qof p c ≠ h := hne 1 (by omega) (by omega)
    have hnext : wrap64 (wrap64 (wrap64 (2 * (h : Int)) - 1) - rd p (c : Int)) = ((2 * h - 1 - qof p c : Nat) : Int) := by
      rw [hq.1, wrap_id (x := 2 * (h : Int)) (by omega) (by omega), wrap_id (x := 2 * (h : Int) - 1) (by omega) (by omega), wrap_id (by omega) (by omega)]
      omega
    have hv : mx (wrap64 ((c : Int) - (h : Int))) (wrap64 (wrap64 ((h : Int) - 1) - (c : Int))) = ((if c < h then h - 1 - c else c - h : Nat) : Int) := by
      rw [wrap_id (x := (h : Int) - 1) (by omega) (by omega), wrap_id (by omega) (by omega), wrap_id (by omega) (by omega)]
      unfold mx
      split <;> split <;> omega
    rw [impl_foldingOfSemi.l0, if_pos (by rw [ints_length]; omega), Option.bind_some, if_pos (by omega), if_pos (by omega), hnext, if_neg (by omega), hv]
    have hrec := ih k (2 * h - 1 - qof p c) (acc ++ [if c < h then h - 1 - c else c - h]) (by omega) (by simp; omega) (by omega) he (fun e h1 h2 => hne (e + 1) (by omega) (by omega))
    rw [ints_append] at hrec
    have e : ints acc ++ [((if c < h then h - 1 - c else c - h : Nat) : Int)] = ints acc ++ ints [if c < h then h - 1 - c else c - h] := rfl
    rw [e, hrec]
    simp [stamps]
theorem iter_congr {f g : Nat → Nat} {n : Nat} (hf : ∀ x, x < n → f x < n) (h : ∀ x, x < n → f x = g x) (e : Nat) : ∀ x, x < n → iter f e x = iter g e x := by
  induction e with
  | zero => intro x _; rfl
  | succ e ih => intro x hx; show iter f e (f x) = iter g e (g x); rw [← h x hx]; exact ih _ (hf x hx)
/-- the folding of a semi-meander -/
def folds (p : List Int) : List Int := ints (stamps (qof p) (p.length / 2) (p.length / 2) (p.length / 2))
theorem folds_length (p : List Int) : (folds p).length = p.length / 2 := by unfold folds; rw [ints_length, stamps_length]
theorem folds_ev {p : List Int} (hg : good p = true) (hs : semi p = true) (k : Nat) (hk : 900 ≤ k) :
    impl_foldingOfSemi.f k p = some (folds p) ∧ ∀ h : Nat, p.length = 2 * h → spec_FoldingOfSemi.l0 k p (h : Int) [] (h : Int) = some (folds p, true) := by
  have hn := (good_len hg).1
  obtain ⟨h, hp⟩ : ∃ h, p.length = 2 * h := ⟨p.length / 2, by have := good_even hg; omega⟩
  have hP := bow_pair hg
  unfold semi single at hs
  have t := hP.two
  obtain ⟨h0, full⟩ := one_curve t (of_decide_eq_true hs)
  rw [hp] at t h0 full
  obtain ⟨q1, q2⟩ := two_period t (by omega) full h (by omega)
  have hc := iter_congr (f := fun x => qof (ints (bow (2 * h))) (qof p x)) (g := fun x => 2 * h - 1 - qof p x) (n := 2 * h) (fun x hx => t.qr _ (t.pr x hx)) (fun x hx => qof_bow _ _ (t.pr x hx))
  have hh : p.length / 2 = h := by omega
  unfold folds
  rw [hh]
  constructor
  · unfold impl_foldingOfSemi.f
    obtain ⟨d, rfl⟩ : ∃ d, h = d + 1 := ⟨h - 1, by omega⟩
    have := ifold_l0 hg (d + 1) hp d k (d + 1) [] (by omega) (by simp; omega) (by omega) (by rw [← hc _ _ (by omega)]; exact q1) (fun e h1 h2 => by rw [← hc _ _ (by omega)]; exact q2 e h1 (by omega))
    rw [wrap_id (x := (p.length : Int) / 2) (by omega) (by omega), show (p.length : Int) / 2 = ((d + 1 : Nat) : Int) by omega]
    simpa [ints] using this
  · intro h' hp'
    obtain rfl : h' = h := by omega
    have := sfold_l0 hg h' hp h' k h' [] (by omega) (by simp) (by omega)
    simpa [ints] using this

end Go.Proofs.Ytnhegojnbdcpdaa.Pure
