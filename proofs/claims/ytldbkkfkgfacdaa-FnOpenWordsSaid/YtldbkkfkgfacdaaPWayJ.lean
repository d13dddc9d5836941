/- The curve through a point of a pair of arch systems, in plain Lean: it comes back to its point, and what the walk round it lists. -/
import Derived.Test.YtldbkkfkgfacdaaPIsSysJ
import Derived.Test.YtldbkkfkgfacdaaQD0
set_option linter.unusedVariables false
set_option linter.unusedSimpArgs false
namespace Go.Proofs.Ytldbkkfkgfacdaa.Pure
open Go.RowKit Go.Proofs.Ytldbkkfkgfacdaa.P Go.Proofs.YtldbkkfkgfacdaaW.PrintWords Go.Proofs.YtldbkkfkgfacdaaW.PrintLast Go.Proofs.YtldbkkfkgfacdaaW.PrintMore

def iter (f : Nat → Nat) : Nat → Nat → Nat
  | 0, x => x
  | e + 1, x => iter f e (f x)
theorem iter_succ (f : Nat → Nat) (e : Nat) : ∀ x, iter f (e + 1) x = f (iter f e x) := by
  induction e with
  | zero => intro x; rfl
  | succ e ih => intro x; show iter f (e + 1) (f x) = _; rw [ih]; rfl
theorem iter_lt {f : Nat → Nat} {n : Nat} (h : ∀ x, x < n → f x < n) (e : Nat) : ∀ x, x < n → iter f e x < n := by
  induction e with
  | zero => intro x hx; exact hx
  | succ e ih => intro x hx; exact ih _ (h x hx)
theorem pigeon : ∀ (n : Nat) (g : Nat → Nat), (∀ e, e ≤ n → g e < n) → ∃ a b, a < b ∧ b ≤ n ∧ g a = g b := by
  intro n
  induction n with
  | zero => intro g h; exact absurd (h 0 (Nat.le_refl _)) (by omega)
  | succ n ih =>
    intro g h
    by_cases hex : ∃ e, e ≤ n ∧ g e = g (n + 1)
    · obtain ⟨e, h1, h2⟩ := hex
      exact ⟨e, n + 1, by omega, Nat.le_refl _, h2⟩
    · have hne : ∀ e, e ≤ n → g e ≠ g (n + 1) := fun e h1 h2 => hex ⟨e, h1, h2⟩
      have hlast := h (n + 1) (Nat.le_refl _)
      obtain ⟨a, b, hab, hb, he⟩ := ih (fun e => if g e = n then g (n + 1) else g e) (fun e he => by
        have h1 := h e (by omega)
        have h2 := hne e he
        show (if g e = n then g (n + 1) else g e) < n
        split <;> omega)
      have ha' := hne a (by omega)
      have hb' := hne b hb
      refine ⟨a, b, hab, by omega, ?_⟩
      split at he <;> split at he <;> omega
theorem least {Pr : Nat → Prop} (dec : ∀ n, Decidable (Pr n)) (n : Nat) : Pr n → ∃ m, m ≤ n ∧ Pr m ∧ ∀ e, e < m → ¬ Pr e := by
  induction n using Nat.strongRecOn with
  | _ n ih =>
    intro h
    by_cases hex : ∃ e, e < n ∧ Pr e
    · obtain ⟨e, he, hp⟩ := hex
      obtain ⟨m, h1, h2, h3⟩ := ih e he hp
      exact ⟨m, by omega, h2, h3⟩
    · exact ⟨n, Nat.le_refl _, h, fun e he hp => hex ⟨e, he, hp⟩⟩
theorem comes_back {f : Nat → Nat} {n : Nat} (hf : ∀ x, x < n → f x < n) (inj : ∀ x y, x < n → y < n → f x = f y → x = y) (s : Nat) (hs : s < n) :
    ∃ m, 1 ≤ m ∧ m ≤ n ∧ iter f m s = s ∧ ∀ e, 1 ≤ e → e < m → iter f e s ≠ s := by
  obtain ⟨a, b, hab, hb, he⟩ := pigeon n (fun e => iter f e s) (fun e _ => iter_lt hf e s hs)
  have back : ∀ a b, a < b → iter f a s = iter f b s → iter f (b - a) s = s := by
    intro a
    induction a with
    | zero => intro b _ h; exact h.symm
    | succ a ih =>
      intro b hab h
      obtain ⟨b, rfl⟩ : ∃ c, b = c + 1 := ⟨b - 1, by omega⟩
      rw [iter_succ, iter_succ] at h
      have := ih b (by omega) (inj _ _ (iter_lt hf a s hs) (iter_lt hf b s hs) h)
      rw [show b + 1 - (a + 1) = b - a by omega]; exact this
  have h0 := back a b hab he
  obtain ⟨m, h1, ⟨h2, h3⟩, h4⟩ := least (Pr := fun m => 1 ≤ m ∧ iter f m s = s) (fun m => inferInstance) (b - a) ⟨by omega, h0⟩
  exact ⟨m, h2, by omega, h3, fun e he1 he2 h => h4 e he2 ⟨he1, h⟩⟩

/-- so many steps of two points each -/
def flat (P Q : Nat → Nat) : Nat → Nat → List Nat
  | 0, _ => []
  | d + 1, c => c :: P c :: flat P Q d (Q (P c))
/-- the walk round a curve -/
def wayN (P Q : Nat → Nat) (s : Nat) : Nat → Nat → List Nat
  | 0, _ => []
  | d + 1, c => c :: P c :: (if Q (P c) = s then [] else wayN P Q s d (Q (P c)))
theorem wayN_flat (P Q : Nat → Nat) (s : Nat) (d : Nat) : ∀ (m c : Nat), d + 1 ≤ m → iter (fun x => Q (P x)) (d + 1) c = s → (∀ e, 1 ≤ e → e ≤ d → iter (fun x => Q (P x)) e c ≠ s) → wayN P Q s m c = flat P Q (d + 1) c := by
  induction d with
  | zero =>
    intro m c hm h _
    obtain ⟨m, rfl⟩ : ∃ k, m = k + 1 := ⟨m - 1, by omega⟩
    have h' : Q (P c) = s := h
    simp [wayN, flat, h']
  | succ d ih =>
    intro m c hm h hne
    obtain ⟨m, rfl⟩ : ∃ k, m = k + 1 := ⟨m - 1, by omega⟩
    have h1 : Q (P c) ≠ s := hne 1 (by omega) (by omega)
    rw [wayN, if_neg h1, ih m (Q (P c)) (by omega) h (fun e h2 h3 => hne (e + 1) (by omega) (by omega))]
    rfl
def wayOf (P Q : Nat → Nat) (n s : Nat) : List Nat := wayN P Q s n s

/-- two systems of as many points -/
structure Two (P Q : Nat → Nat) (n : Nat) : Prop where
  p : Sys P n
  q : Sys Q n
  pr : ∀ i, i < n → P i < n
  qr : ∀ i, i < n → Q i < n
theorem Two.inj {P Q : Nat → Nat} {n : Nat} (h : Two P Q n) : ∀ x y, x < n → y < n → Q (P x) = Q (P y) → x = y := by
  intro x y hx hy he
  have h1 := h.q.inv (P x) (h.pr x hx)
  have h2 := h.q.inv (P y) (h.pr y hy)
  rw [he, h2] at h1
  have h3 := h.p.inv x hx
  have h4 := h.p.inv y hy
  rw [← h1, h4] at h3
  exact h3.symm
theorem Two.period {P Q : Nat → Nat} {n : Nat} (h : Two P Q n) (s : Nat) (hs : s < n) : ∃ m, 1 ≤ m ∧ m ≤ n ∧ iter (fun x => Q (P x)) m s = s ∧ (∀ e, 1 ≤ e → e < m → iter (fun x => Q (P x)) e s ≠ s) ∧ wayOf P Q n s = flat P Q m s := by
  obtain ⟨m, h1, h2, h3, h4⟩ := comes_back (f := fun x => Q (P x)) (fun x hx => h.qr _ (h.pr _ hx)) h.inj s hs
  refine ⟨m, h1, h2, h3, h4, ?_⟩
  obtain ⟨m, rfl⟩ : ∃ k, m = k + 1 := ⟨m - 1, by omega⟩
  exact wayN_flat P Q s m n s h2 h3 (fun e h5 h6 => h4 e h5 (by omega))
theorem flat_length (P Q : Nat → Nat) (d : Nat) : ∀ c, (flat P Q d c).length = 2 * d := by
  induction d with
  | zero => intro c; rfl
  | succ d ih => intro c; simp [flat, ih]; omega
theorem flat_lt {P Q : Nat → Nat} {n : Nat} (h : Two P Q n) (d : Nat) : ∀ c, c < n → ∀ x ∈ flat P Q d c, x < n := by
  induction d with
  | zero => intro c _ x hx; simp [flat] at hx
  | succ d ih =>
    intro c hc x hx
    simp only [flat, List.mem_cons] at hx
    rcases hx with rfl | rfl | hx
    · exact hc
    · exact h.pr _ hc
    · exact ih _ (h.qr _ (h.pr _ hc)) x hx
theorem Two.way_lt {P Q : Nat → Nat} {n : Nat} (h : Two P Q n) (s : Nat) (hs : s < n) : ∀ x ∈ wayOf P Q n s, x < n := by
  obtain ⟨m, _, _, _, _, e⟩ := h.period s hs
  rw [e]; exact flat_lt h m s hs
theorem Two.way_self {P Q : Nat → Nat} {n : Nat} (h : Two P Q n) (s : Nat) (hs : s < n) : s ∈ wayOf P Q n s := by
  obtain ⟨m, h1, _, _, _, e⟩ := h.period s hs
  obtain ⟨m, rfl⟩ : ∃ k, m = k + 1 := ⟨m - 1, by omega⟩
  rw [e]; simp [flat]
theorem Two.way_length {P Q : Nat → Nat} {n : Nat} (h : Two P Q n) (s : Nat) (hs : s < n) : 2 ≤ (wayOf P Q n s).length ∧ (wayOf P Q n s).length ≤ 2 * n := by
  obtain ⟨m, h1, h2, _, _, e⟩ := h.period s hs
  rw [e, flat_length]; omega

def ints (l : List Nat) : List Int := l.map fun (x : Nat) => (x : Int)
theorem ints_length (l : List Nat) : (ints l).length = l.length := by simp [ints]
theorem ints_append (a b : List Nat) : ints (a ++ b) = ints a ++ ints b := by simp [ints]
theorem rd_ints (l : List Nat) (i : Nat) (h : i < l.length) : rd (ints l) (i : Int) = (l[i] : Int) := by
  rw [rd_get (by rw [ints_length]; exact h)]; simp [ints]

/-- what a pair of lists is -/
structure Pair (p q : List Int) : Prop where
  gp : good p = true
  gq : good q = true
  len : p.length = q.length
theorem good_len {p : List Int} (h : good p = true) : p.length ≤ 12 ∧ inr p = true := by
  unfold good at h
  simp only [Bool.and_eq_true, decide_eq_true_eq] at h
  exact ⟨h.2.1, h.2.2.1⟩
theorem good_sys {p : List Int} (h : good p = true) : Sys (qof p) p.length := by
  have h3 := (good_len h).2
  unfold good at h
  simp only [Bool.and_eq_true, decide_eq_true_eq] at h
  exact (sys_iff_scan (fun i hi => (inr_get h3 i hi).2)).2 ⟨h.1, h.2.2.2⟩
theorem Pair.two {p q : List Int} (h : Pair p q) : Two (qof p) (qof q) p.length :=
  ⟨good_sys h.gp, h.len ▸ good_sys h.gq, fun i hi => (inr_get (good_len h.gp).2 i hi).2, fun i hi => by have := (inr_get (good_len h.gq).2 i (by rw [← h.len]; exact hi)).2; rw [h.len]; exact this⟩
theorem Pair.rp {p q : List Int} (h : Pair p q) (i : Nat) (hi : i < p.length) : rd p (i : Int) = (qof p i : Int) := (inr_get (good_len h.gp).2 i hi).1
theorem Pair.rq {p q : List Int} (h : Pair p q) (i : Nat) (hi : i < p.length) : rd q (i : Int) = (qof q i : Int) := (inr_get (good_len h.gq).2 i (by rw [← h.len]; exact hi)).1

theorem sway_l0 {p q : List Int} (h : Pair p q) (s : Nat) (d : Nat) : ∀ (k c : Nat) (acc : List Nat), d < k → c < p.length → acc.length + 2 * d ≤ 1000 → iter (fun x => qof q (qof p x)) d c = s → (∀ e, e < d → iter (fun x => qof q (qof p x)) e c ≠ s) →
    spec_meWay.l0 k (s : Int) (ints acc) (c : Int) p q = some (ints (acc ++ flat (qof p) (qof q) d c)) := by
  induction d with
  | zero =>
    intro k c acc hk hc ha he _
    obtain ⟨k, rfl⟩ : ∃ m, k = m + 1 := ⟨k - 1, by omega⟩
    have he' : c = s := he
    rw [spec_meWay.l0, if_pos (by omega)]
    simp [flat]
  | succ d ih =>
    intro k c acc hk hc ha he hne
    obtain ⟨k, rfl⟩ : ∃ m, k = m + 1 := ⟨k - 1, by omega⟩
    have h0 : c ≠ s := hne 0 (by omega)
    have t := h.two
    have hp := t.pr c hc
    have hq := t.qr _ hp
    rw [spec_meWay.l0, if_neg (by omega), if_pos (by omega), if_pos (by omega), h.rp c hc, Option.bind_some, if_pos (by rw [ints_length]; simp; omega), if_pos (by omega), if_pos (by have := h.len; omega), h.rq _ hp]
    have e : ints acc ++ [(c : Int), (qof p c : Int)] = ints (acc ++ [c, qof p c]) := by rw [ints_append]; rfl
    rw [e, ih k (qof q (qof p c)) (acc ++ [c, qof p c]) (by omega) hq (by simp; omega) he (fun e he => hne (e + 1) (by omega))]
    simp [flat]
theorem sway_ev {p q : List Int} (h : Pair p q) (s : Nat) (hs : s < p.length) (k : Nat) (hk : 20 ≤ k) : spec_meWay.f k p q (s : Int) = some (ints (wayOf (qof p) (qof q) p.length s)) := by
  have t := h.two
  have hn := (good_len h.gp).1
  obtain ⟨m, h1, h2, h3, h4, h5⟩ := t.period s hs
  obtain ⟨m, rfl⟩ : ∃ c, m = c + 1 := ⟨m - 1, by omega⟩
  have hp := t.pr s hs
  have hq := t.qr _ hp
  unfold spec_meWay.f
  rw [if_pos (by omega), if_pos (by omega), h.rp s hs, if_pos (by omega), if_pos (by have := h.len; omega), h.rq _ hp, h5]
  have := sway_l0 h s m k (qof q (qof p s)) [s, qof p s] (by omega) hq (by simp; omega) h3 (fun e he => h4 (e + 1) (by omega) (by omega))
  have e : ([(s : Int), (qof p s : Int)] : List Int) = ints [s, qof p s] := rfl
  rw [e, this]
  rfl
theorem iway_l0 {p q : List Int} (h : Pair p q) (s : Nat) (d : Nat) : ∀ (k c : Nat) (acc : List Nat), d < k → c < p.length → acc.length + 2 * d + 2 ≤ 1000 → iter (fun x => qof q (qof p x)) (d + 1) c = s → (∀ e, 1 ≤ e → e ≤ d → iter (fun x => qof q (qof p x)) e c ≠ s) →
    impl_Meander_way.l0 k (s : Int) (ints acc) (c : Int) p q = some (ints (acc ++ flat (qof p) (qof q) (d + 1) c)) := by
  induction d with
  | zero =>
    intro k c acc hk hc ha he _
    obtain ⟨k, rfl⟩ : ∃ m, k = m + 1 := ⟨k - 1, by omega⟩
    have t := h.two
    have hp := t.pr c hc
    have he' : qof q (qof p c) = s := he
    rw [impl_Meander_way.l0, if_pos (by omega), if_pos (by omega), h.rp c hc, Option.bind_some, if_pos (by rw [ints_length]; simp; omega), Option.bind_some, if_pos (by omega), if_pos (by have := h.len; omega), h.rq _ hp, if_pos (by omega)]
    simp [flat, ints]
  | succ d ih =>
    intro k c acc hk hc ha he hne
    obtain ⟨k, rfl⟩ : ∃ m, k = m + 1 := ⟨k - 1, by omega⟩
    have t := h.two
    have hp := t.pr c hc
    have hq := t.qr _ hp
    have h0 : qof q (qof p c) ≠ s := hne 1 (by omega) (by omega)
    rw [impl_Meander_way.l0, if_pos (by omega), if_pos (by omega), h.rp c hc, Option.bind_some, if_pos (by rw [ints_length]; simp; omega), Option.bind_some, if_pos (by omega), if_pos (by have := h.len; omega), h.rq _ hp, if_neg (by omega)]
    have e : ints acc ++ [(c : Int), (qof p c : Int)] = ints (acc ++ [c, qof p c]) := by rw [ints_append]; rfl
    rw [e, ih k (qof q (qof p c)) (acc ++ [c, qof p c]) (by omega) hq (by simp; omega) he (fun e h1 h2 => hne (e + 1) (by omega) (by omega))]
    simp [flat]
theorem iway_ev {p q : List Int} (h : Pair p q) (s : Nat) (hs : s < p.length) (k : Nat) (hk : 20 ≤ k) : impl_Meander_way.f k p q (s : Int) = some (ints (wayOf (qof p) (qof q) p.length s)) := by
  have hn := (good_len h.gp).1
  obtain ⟨m, h1, h2, h3, h4, h5⟩ := h.two.period s hs
  obtain ⟨m, rfl⟩ : ∃ c, m = c + 1 := ⟨m - 1, by omega⟩
  unfold impl_Meander_way.f
  have := iway_l0 h s m k s [] (by omega) hs (by simp; omega) h3 (fun e h6 h7 => h4 e h6 (by omega))
  rw [h5]
  simpa [ints] using this

end Go.Proofs.Ytldbkkfkgfacdaa.Pure
