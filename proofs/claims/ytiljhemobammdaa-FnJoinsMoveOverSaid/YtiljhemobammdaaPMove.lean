/- Curves as classes: the number of curves is the number of classes; a join of neighbours that is moved over leaves it, closed curves counted. -/
import Derived.Test.YtiljhemobammdaaPCurvesI
set_option linter.unusedVariables false
set_option linter.unusedSimpArgs false
namespace Go.Proofs.Ytiljhemobammdaa.Pure
open Go.RowKit Go.Proofs.Ytiljhemobammdaa.O Go.Proofs.YtiljhemobammdaaW.PrintWords Go.Proofs.YtiljhemobammdaaW.PrintLast Go.Proofs.YtiljhemobammdaaW.PrintMore

/-- what is reached from a point along the arcs of both -/
inductive Cl (P Q : Nat → Nat) (s : Nat) : Nat → Prop
  | refl : Cl P Q s s
  | p {x : Nat} : Cl P Q s x → Cl P Q s (P x)
  | q {x : Nat} : Cl P Q s x → Cl P Q s (Q x)
theorem Cl.trans {P Q : Nat → Nat} {a b c : Nat} (h : Cl P Q a b) (h2 : Cl P Q b c) : Cl P Q a c := by
  induction h2 with
  | refl => exact h
  | p _ ih => exact ih.p
  | q _ ih => exact ih.q
theorem Cl.lt {P Q : Nat → Nat} {n a b : Nat} (t : Two P Q n) (h : Cl P Q a b) (ha : a < n) : b < n := by
  induction h with
  | refl => exact ha
  | p _ ih => exact t.pr _ ih
  | q _ ih => exact t.qr _ ih
theorem Cl.symm {P Q : Nat → Nat} {n a b : Nat} (t : Two P Q n) (h : Cl P Q a b) (ha : a < n) : Cl P Q b a := by
  induction h with
  | refl => exact .refl
  | @p x hx ih =>
    have := (Cl.refl (P := P) (Q := Q) (s := P x)).p
    rw [t.p.inv x (hx.lt t ha)] at this
    exact this.trans ih
  | @q x hx ih =>
    have := (Cl.refl (P := P) (Q := Q) (s := Q x)).q
    rw [t.q.inv x (hx.lt t ha)] at this
    exact this.trans ih
theorem Cl.swap {P Q : Nat → Nat} {a b : Nat} (h : Cl P Q a b) : Cl Q P a b := by
  induction h with
  | refl => exact .refl
  | p _ ih => exact ih.q
  | q _ ih => exact ih.p
theorem mem_flat (P Q : Nat → Nat) (d : Nat) : ∀ c x, x ∈ flat P Q d c ↔ ∃ e, e < d ∧ (x = iter (fun x => Q (P x)) e c ∨ x = P (iter (fun x => Q (P x)) e c)) := by
  induction d with
  | zero => intro c x; simp [flat]
  | succ d ih =>
    intro c x
    simp only [flat, List.mem_cons, ih]
    constructor
    · rintro (h | h | ⟨e, he, h⟩)
      · exact ⟨0, by omega, .inl h⟩
      · exact ⟨0, by omega, .inr h⟩
      · exact ⟨e + 1, by omega, h⟩
    · rintro ⟨e, he, h⟩
      cases e with
      | zero => rcases h with h | h
                · exact .inl h
                · exact .inr (.inl h)
      | succ e => exact .inr (.inr ⟨e, by omega, h⟩)
theorem iter_cl (P Q : Nat → Nat) (s : Nat) (e : Nat) : Cl P Q s (iter (fun x => Q (P x)) e s) := by
  induction e with
  | zero => exact .refl
  | succ e ih => rw [iter_succ]; exact ih.p.q
theorem mem_way {P Q : Nat → Nat} {n : Nat} (t : Two P Q n) (s : Nat) (hs : s < n) (j : Nat) : j ∈ wayOf P Q n s ↔ Cl P Q s j := by
  obtain ⟨m, h1, h2, h3, h4, h5⟩ := t.period s hs
  rw [h5]
  constructor
  · intro h
    obtain ⟨e, _, h | h⟩ := (mem_flat P Q m s j).1 h
    · rw [h]; exact iter_cl P Q s e
    · rw [h]; exact (iter_cl P Q s e).p
  · intro h
    have hlt : ∀ e, iter (fun x => Q (P x)) e s < n := fun e => (iter_cl P Q s e).lt t hs
    induction h with
    | refl => exact (mem_flat P Q m s s).2 ⟨0, by omega, .inl rfl⟩
    | @p x _ ih =>
      obtain ⟨e, he, h | h⟩ := (mem_flat P Q m s x).1 ih
      · exact (mem_flat P Q m s _).2 ⟨e, he, .inr (by rw [h])⟩
      · exact (mem_flat P Q m s _).2 ⟨e, he, .inl (by rw [h]; exact t.p.inv _ (hlt e))⟩
    | @q x _ ih =>
      obtain ⟨e, he, h | h⟩ := (mem_flat P Q m s x).1 ih
      · cases e with
        | zero =>
          obtain ⟨m, rfl⟩ : ∃ k, m = k + 1 := ⟨m - 1, by omega⟩
          refine (mem_flat P Q _ s _).2 ⟨m, by omega, .inr ?_⟩
          have h6 : x = Q (P (iter (fun x => Q (P x)) m s)) := by
            rw [h]
            show s = _
            rw [iter_succ] at h3
            exact h3.symm
          rw [h6]; exact t.q.inv _ (t.pr _ (hlt m))
        | succ e =>
          refine (mem_flat P Q _ s _).2 ⟨e, by omega, .inr ?_⟩
          rw [h, iter_succ]; exact t.q.inv _ (t.pr _ (hlt e))
      · have h6 : Q x = iter (fun x => Q (P x)) (e + 1) s := by rw [iter_succ, h]
        by_cases he2 : e + 1 = m
        · rw [he2, h3] at h6
          exact (mem_flat P Q _ s _).2 ⟨0, by omega, .inl h6⟩
        · exact (mem_flat P Q _ s _).2 ⟨e + 1, by omega, .inl h6⟩

/-- each class has its own number below c, and each such number a class -/
structure Col (P Q : Nat → Nat) (n : Nat) (x : Nat → Nat) (c : Nat) : Prop where
  lt : ∀ j, j < n → x j < c
  surj : ∀ v, v < c → ∃ j, j < n ∧ x j = v
  cls : ∀ j k, j < n → k < n → (x j = x k ↔ Cl P Q j k)
theorem col_le {P Q : Nat → Nat} {n c d : Nat} {x y : Nat → Nat} (h : Col P Q n x c) (h2 : Col P Q n y d) : c ≤ d := by
  refine Nat.le_of_not_lt fun hlt => ?_
  have hs : ∀ e, ∃ j, e ≤ d → j < n ∧ x j = e := fun e => by
    by_cases he : e ≤ d
    · obtain ⟨j, hj⟩ := h.surj e (by omega); exact ⟨j, fun _ => hj⟩
    · exact ⟨0, fun h => absurd h he⟩
  have hc := fun e => Classical.choose_spec (hs e)
  obtain ⟨a, b, hab, hb, hg⟩ := pigeon d (fun e => y (Classical.choose (hs e))) (fun e he => h2.lt _ (hc e he).1)
  have ha := hc a (by omega)
  have hb := hc b hb
  have h5 := (h.cls _ _ ha.1 hb.1).2 ((h2.cls _ _ ha.1 hb.1).1 hg)
  rw [ha.2, hb.2] at h5
  omega
theorem col_unique {P Q : Nat → Nat} {n c d : Nat} {x y : Nat → Nat} (h : Col P Q n x c) (h2 : Col P Q n y d) : c = d := Nat.le_antisymm (col_le h h2) (col_le h2 h)
theorem Col.swap {P Q : Nat → Nat} {n c : Nat} {x : Nat → Nat} (h : Col P Q n x c) : Col Q P n x c := ⟨h.lt, h.surj, fun j k hj hk => (h.cls j k hj hk).trans ⟨Cl.swap, Cl.swap⟩⟩

structure DInv (P Q : Nat → Nat) (n i : Nat) (x : List Int) (c : Nat) : Prop where
  len : x.length = n
  hi : ∀ j, j < n → x.getD j 0 ≤ (c : Int) - 1
  done : ∀ j, j < i → j < n → 0 ≤ x.getD j 0
  surj : ∀ v, v < c → ∃ j, j < n ∧ x.getD j 0 = (v : Int)
  cls : ∀ j k, j < n → k < n → 0 ≤ x.getD j 0 → (x.getD k 0 = x.getD j 0 ↔ Cl P Q j k)
theorem outer_dinv {P Q : Nat → Nat} {n : Nat} (t : Two P Q n) (d : Nat) : ∀ i x c, i + d = n → DInv P Q n i x c → DInv P Q n n (outer P Q n d i x c).1 (outer P Q n d i x c).2 := by
  induction d with
  | zero =>
    intro i x c hi h
    obtain rfl : i = n := by omega
    exact h
  | succ d ih =>
    intro i x c hi h
    have hin : i < n := by omega
    simp only [outer]
    by_cases hx : 0 ≤ x.getD i 0
    · rw [if_pos hx]
      refine ih (i + 1) x c (by omega) ⟨h.len, h.hi, fun j hj hjn => ?_, h.surj, h.cls⟩
      by_cases e : j = i
      · subst e; exact hx
      · exact h.done j (by omega) hjn
    · rw [if_neg hx]
      have hw := t.way_self i hin
      have hg : ∀ j, j < n → (paint x (wayOf P Q n i) (c : Int)).getD j 0 = if j ∈ wayOf P Q n i then (c : Int) else x.getD j 0 := fun j hj => paint_get _ _ j x (by rw [h.len]; exact hj)
      have hun : ∀ j, j < n → j ∈ wayOf P Q n i → ¬ 0 ≤ x.getD j 0 := fun j hj hm h0 => by
        have h1 := (mem_way t i hin j).1 hm
        have h2 := (h.cls j i hj hin h0).2 (h1.symm t hin)
        rw [h2] at hx
        exact hx h0
      refine ih (i + 1) _ (c + 1) (by omega) ⟨by rw [paint_length]; exact h.len, fun j hj => ?_, fun j hj hjn => ?_, fun v hv => ?_, fun j k hj hk h0 => ?_⟩
      · rw [hg j hj]
        have := h.hi j hj
        split <;> omega
      · rw [hg j hjn]
        split
        · omega
        · by_cases e : j = i
          · subst e; rename_i hn; exact absurd hw hn
          · exact h.done j (by omega) hjn
      · by_cases e : v = c
        · subst e; exact ⟨i, hin, by rw [hg i hin, if_pos hw]⟩
        · obtain ⟨j, hj, hv2⟩ := h.surj v (by omega)
          refine ⟨j, hj, ?_⟩
          rw [hg j hj, if_neg (fun hm => hun j hj hm (by omega))]
          exact hv2
      · rw [hg j hj] at h0
        rw [hg j hj, hg k hk]
        by_cases mj : j ∈ wayOf P Q n i
        · have cj := (mem_way t i hin j).1 mj
          by_cases mk : k ∈ wayOf P Q n i
          · rw [if_pos mj, if_pos mk]
            exact ⟨fun _ => (cj.symm t hin).trans ((mem_way t i hin k).1 mk), fun _ => rfl⟩
          · rw [if_pos mj, if_neg mk]
            have := h.hi k hk
            refine ⟨fun e => by omega, fun e => absurd ((mem_way t i hin k).2 (cj.trans e)) mk⟩
        · rw [if_neg mj] at h0
          by_cases mk : k ∈ wayOf P Q n i
          · rw [if_neg mj, if_pos mk]
            have := h.hi j hj
            refine ⟨fun e => by omega, fun e => absurd ((mem_way t i hin j).2 (((mem_way t i hin k).1 mk).trans (e.symm t hj))) mj⟩
          · rw [if_neg mj, if_neg mk]
            exact h.cls j k hj hk h0
theorem colours_col {P Q : Nat → Nat} {n : Nat} (t : Two P Q n) : Col P Q n (fun j => ((colours P Q n).1.getD j 0).toNat) (colours P Q n).2 := by
  have h0 : DInv P Q n 0 (List.replicate n (-1)) 0 := by
    have hv : ∀ j, j < n → (List.replicate n (-1 : Int)).getD j 0 = -1 := fun j hj => by simp [List.getD_eq_getElem?_getD, hj]
    refine ⟨by simp, fun j hj => ?_, fun j hj => by omega, fun v hv => by omega, fun j k hj hk h => ?_⟩
    · rw [hv j hj]; omega
    · rw [hv j hj] at h; omega
  have h := outer_dinv t n 0 _ 0 (by omega) h0
  have hd := fun j (hj : j < n) => h.done j hj hj
  change DInv P Q n n (colours P Q n).1 (colours P Q n).2 at h
  refine ⟨fun j hj => ?_, fun v hv => ?_, fun j k hj hk => ?_⟩
  · have h1 := h.hi j hj
    have h2 := h.done j hj hj
    show ((colours P Q n).1.getD j 0).toNat < _
    omega
  · obtain ⟨j, hj, hv⟩ := h.surj v hv
    exact ⟨j, hj, by show ((colours P Q n).1.getD j 0).toNat = v; omega⟩
  · have h1 := h.done j hj hj
    have h2 := h.done k hk hk
    rw [← h.cls j k hj hk h1]
    show ((colours P Q n).1.getD j 0).toNat = ((colours P Q n).1.getD k 0).toNat ↔ _
    omega

/-- the join of i and i + 1 -/
def jn (S : Nat → Nat) (i : Nat) (x : Nat) : Nat := if x = i then i + 1 else if x = i + 1 then i else if x = S i then S (i + 1) else if x = S (i + 1) then S i else S x
theorem jn_facts {S : Nat → Nat} {n i : Nat} (h : Sys S n) (hr : ∀ x, x < n → S x < n) (hi : i + 1 < n) (hne : S i ≠ i + 1) :
    S i < n ∧ S (i + 1) < n ∧ S i ≠ i ∧ S (i + 1) ≠ i + 1 ∧ S (i + 1) ≠ i ∧ S i ≠ S (i + 1) ∧ S (S i) = i ∧ S (S (i + 1)) = i + 1 := by
  have a1 := h.ne i (by omega)
  have a2 := h.ne (i + 1) hi
  have b1 := h.inv i (by omega)
  have b2 := h.inv (i + 1) hi
  refine ⟨hr _ (by omega), hr _ hi, a1, a2, ?_, ?_, b1, b2⟩
  · intro e; rw [e] at b2; exact hne b2
  · intro e; rw [e, b2] at b1; omega
theorem jn_sys {S : Nat → Nat} {n i : Nat} (h : Sys S n) (hr : ∀ x, x < n → S x < n) (hi : i + 1 < n) (hne : S i ≠ i + 1) : Sys (jn S i) n ∧ ∀ x, x < n → jn S i x < n := by
  obtain ⟨f1, f2, f3, f4, f5, f6, f7, f8⟩ := jn_facts h hr hi hne
  have other : ∀ x, x < n → x ≠ i → x ≠ i + 1 → x ≠ S i → x ≠ S (i + 1) → S x ≠ i ∧ S x ≠ i + 1 ∧ S x ≠ S i ∧ S x ≠ S (i + 1) := by
    intro x hx h1 h2 h3 h4
    have hv := h.inv x hx
    refine ⟨fun e => h3 (by rw [← e, hv]), fun e => h4 (by rw [← e, hv]), fun e => h1 (by rw [e, f7] at hv; exact hv.symm), fun e => h2 (by rw [e, f8] at hv; exact hv.symm)⟩
  refine ⟨⟨fun x hx => ?_, fun x hx => ?_, ?_⟩, fun x hx => ?_⟩
  · unfold jn
    split
    · omega
    · split
      · omega
      · split
        · omega
        · split
          · omega
          · exact h.ne x hx
  · by_cases h1 : x = i
    · simp only [jn, h1]; simp
    · by_cases h2 : x = i + 1
      · simp only [jn, h2]; simp
      · by_cases h3 : x = S i
        · have e : jn S i x = S (i + 1) := by unfold jn; rw [if_neg h1, if_neg h2, if_pos h3]
          rw [e]; unfold jn; rw [if_neg f5, if_neg f4, if_neg (fun e => f6 e.symm), if_pos rfl, h3]
        · by_cases h4 : x = S (i + 1)
          · have e : jn S i x = S i := by unfold jn; rw [if_neg h1, if_neg h2, if_neg h3, if_pos h4]
            rw [e]; unfold jn; rw [if_neg f3, if_neg hne, if_pos rfl, h4]
          · have e : jn S i x = S x := by unfold jn; rw [if_neg h1, if_neg h2, if_neg h3, if_neg h4]
            obtain ⟨o1, o2, o3, o4⟩ := other x hx h1 h2 h3 h4
            rw [e]; unfold jn; rw [if_neg o1, if_neg o2, if_neg o3, if_neg o4]; exact h.inv x hx
  · intro a ha b hab hb
    -- what lies between the ends of an arc of S stays there
    have L : ∀ u, u < n → ∀ v, v < n → v ≠ u → v ≠ S u → ((u < v ∧ v < S u ∨ S u < v ∧ v < u) ↔ (u < S v ∧ S v < S u ∨ S u < S v ∧ S v < u)) := by
      intro u hu v hv h1 h2
      have key : ∀ u, u < n → u < S u → ∀ v, v < n → v ≠ u → v ≠ S u → (u < v ∧ v < S u → u < S v ∧ S v < S u) := by
        intro u hu hus v hv h1 h2 h3
        have l := h.lam u hu v h3.1 h3.2
        have n1 : S v ≠ u := fun e => h2 (by rw [← e, h.inv v hv])
        have n2 : S v ≠ S u := fun e => h1 (by have := h.inv v hv; rw [e, h.inv u hu] at this; exact this.symm)
        omega
      have both : ∀ u, u < n → u < S u → ∀ v, v < n → v ≠ u → v ≠ S u → ((u < v ∧ v < S u) ↔ (u < S v ∧ S v < S u)) := by
        intro u hu hus v hv h1 h2
        have n1 : S v ≠ u := fun e => h2 (by rw [← e, h.inv v hv])
        have n2 : S v ≠ S u := fun e => h1 (by have := h.inv v hv; rw [e, h.inv u hu] at this; exact this.symm)
        refine ⟨key u hu hus v hv h1 h2, fun h3 => ?_⟩
        have := key u hu hus (S v) (hr v hv) n1 n2 h3
        rw [h.inv v hv] at this
        exact this
      rcases Nat.lt_or_ge u (S u) with hlt | hge
      · have := both u hu hlt v hv h1 h2
        omega
      · have hlt : S u < S (S u) := by rw [h.inv u hu]; have := h.ne u hu; omega
        have := both (S u) (hr u hu) hlt v hv h2 (by rw [h.inv u hu]; exact h1)
        rw [h.inv u hu] at this
        omega
    have vi : jn S i i = i + 1 := by unfold jn; rw [if_pos rfl]
    have vi1 : jn S i (i + 1) = i := by unfold jn; rw [if_neg (by omega), if_pos rfl]
    have vA : jn S i (S i) = S (i + 1) := by unfold jn; rw [if_neg f3, if_neg hne, if_pos rfl]
    have vB : jn S i (S (i + 1)) = S i := by unfold jn; rw [if_neg f5, if_neg f4, if_neg (fun e => f6 e.symm), if_pos rfl]
    have vo : ∀ x, x ≠ i → x ≠ i + 1 → x ≠ S i → x ≠ S (i + 1) → jn S i x = S x := by
      intro x h1 h2 h3 h4; unfold jn; rw [if_neg h1, if_neg h2, if_neg h3, if_neg h4]
    have hTa : jn S i a ≤ n := by
      unfold jn
      split
      · omega
      · split
        · omega
        · split
          · omega
          · split
            · omega
            · exact Nat.le_of_lt (hr a ha)
    have hbn : b < n := by omega
    by_cases a1 : a = i
    · subst a1; rw [vi] at hb; omega
    by_cases a2 : a = i + 1
    · subst a2; rw [vi1] at hb; omega
    by_cases a3 : a = S i
    · rw [a3] at hab hb ⊢
      rw [vA] at hb ⊢
      by_cases b1 : b = i
      · subst b1; rw [vi]; omega
      by_cases b2 : b = i + 1
      · subst b2; rw [vi1]; omega
      rw [vo b b1 b2 (by omega) (by omega)]
      obtain ⟨o1, o2, o3, o4⟩ := other b hbn b1 b2 (by omega) (by omega)
      have l1 := L i (by omega) b hbn b1 (by omega)
      have l2 := L (i + 1) (by omega) b hbn b2 (by omega)
      omega
    by_cases a4 : a = S (i + 1)
    · rw [a4] at hab hb ⊢
      rw [vB] at hb ⊢
      by_cases b1 : b = i
      · subst b1; rw [vi]; omega
      by_cases b2 : b = i + 1
      · subst b2; rw [vi1]; omega
      rw [vo b b1 b2 (by omega) (by omega)]
      obtain ⟨o1, o2, o3, o4⟩ := other b hbn b1 b2 (by omega) (by omega)
      have l1 := L i (by omega) b hbn b1 (by omega)
      have l2 := L (i + 1) (by omega) b hbn b2 (by omega)
      omega
    rw [vo a a1 a2 a3 a4] at hb ⊢
    obtain ⟨o1, o2, o3, o4⟩ := other a ha a1 a2 a3 a4
    by_cases b1 : b = i
    · subst b1; rw [vi]; omega
    by_cases b2 : b = i + 1
    · subst b2; rw [vi1]; omega
    by_cases b3 : b = S i
    · subst b3; rw [vA]
      have l1 := h.lam a ha (S i) hab hb
      rw [f7] at l1
      have l2 := h.lam a ha (i + 1) (by omega) (by omega)
      omega
    by_cases b4 : b = S (i + 1)
    · subst b4; rw [vB]
      have l1 := h.lam a ha (S (i + 1)) hab hb
      rw [f8] at l1
      have l2 := h.lam a ha i (by omega) (by omega)
      omega
    rw [vo b b1 b2 b3 b4]
    exact h.lam a ha b hab hb
  · unfold jn
    split
    · omega
    · split
      · omega
      · split
        · exact f2
        · split
          · exact f1
          · exact hr x hx

/-- P joins i and i + 1: joined on the other side, too, a curve is closed -/
theorem jn_fwd {P S : Nat → Nat} {n i : Nat} (t : Two P S n) (hi : i + 1 < n) (hp : P i = i + 1) (hne : S i ≠ i + 1) (x y : Nat) (hx : x < n) (h : Cl P S x y) (x1 : x ≠ i) (x2 : x ≠ i + 1) :
    (y ≠ i → y ≠ i + 1 → Cl P (jn S i) x y) ∧ ((y = i ∨ y = i + 1) → Cl P (jn S i) x (S i)) := by
  obtain ⟨f1, f2, f3, f4, f5, f6, f7, f8⟩ := jn_facts t.q t.qr hi hne
  have hp1 : P (i + 1) = i := by have := t.p.inv i (by omega); rw [hp] at this; exact this
  have vA : jn S i (S i) = S (i + 1) := by unfold jn; rw [if_neg f3, if_neg hne, if_pos rfl]
  have vB : jn S i (S (i + 1)) = S i := by unfold jn; rw [if_neg f5, if_neg f4, if_neg (fun e => f6 e.symm), if_pos rfl]
  induction h with
  | refl => exact ⟨fun _ _ => .refl, fun h => by omega⟩
  | @p z hz ih =>
    have hzn := hz.lt t hx
    have e1 := t.p.inv z hzn
    refine ⟨fun h1 h2 => ?_, fun h => ih.2 ?_⟩
    · refine (ih.1 (fun e => h2 ?_) (fun e => h1 ?_)).p
      · rw [e, hp]
      · rw [e, hp1]
    · rcases h with h | h
      · rw [h, hp] at e1; exact .inr e1.symm
      · rw [h, hp1] at e1; exact .inl e1.symm
  | @q z hz ih =>
    have hzn := hz.lt t hx
    have e1 := t.q.inv z hzn
    by_cases z1 : z = i
    · subst z1
      exact ⟨fun _ _ => ih.2 (.inl rfl), fun h => by omega⟩
    by_cases z2 : z = i + 1
    · subst z2
      have := (ih.2 (.inr rfl)).q
      rw [vA] at this
      exact ⟨fun _ _ => this, fun h => by omega⟩
    have hz2 := ih.1 z1 z2
    by_cases z3 : z = S i
    · subst z3
      exact ⟨fun h1 => absurd f7 h1, fun _ => hz2⟩
    by_cases z4 : z = S (i + 1)
    · subst z4
      have := hz2.q
      rw [vB] at this
      exact ⟨fun _ h2 => absurd f8 h2, fun _ => this⟩
    have vo : jn S i z = S z := by unfold jn; rw [if_neg z1, if_neg z2, if_neg z3, if_neg z4]
    have := hz2.q
    rw [vo] at this
    exact ⟨fun _ _ => this, fun h => by rcases h with h | h <;> rw [h] at e1 <;> omega⟩
theorem jn_bwd {P S : Nat → Nat} {n i : Nat} (t : Two P S n) (hi : i + 1 < n) (hp : P i = i + 1) (hne : S i ≠ i + 1) (x y : Nat) (hx : x < n) (h : Cl P (jn S i) x y) (x1 : x ≠ i) (x2 : x ≠ i + 1) :
    y < n ∧ y ≠ i ∧ y ≠ i + 1 ∧ Cl P S x y := by
  obtain ⟨f1, f2, f3, f4, f5, f6, f7, f8⟩ := jn_facts t.q t.qr hi hne
  have hp1 : P (i + 1) = i := by have := t.p.inv i (by omega); rw [hp] at this; exact this
  induction h with
  | refl => exact ⟨hx, x1, x2, .refl⟩
  | @p z hz ih =>
    obtain ⟨a, b, c, d⟩ := ih
    have e1 := t.p.inv z a
    exact ⟨t.pr z a, fun e => by rw [e, hp] at e1; exact c e1.symm, fun e => by rw [e, hp1] at e1; exact b e1.symm, d.p⟩
  | @q z hz ih =>
    obtain ⟨a, b, c, d⟩ := ih
    have e1 := t.q.inv z a
    by_cases z3 : z = S i
    · have v : jn S i z = S (i + 1) := by rw [z3]; unfold jn; rw [if_neg f3, if_neg hne, if_pos rfl]
      rw [v]
      have h1 := d.q
      rw [z3, f7] at h1
      have h2 := h1.p
      rw [hp] at h2
      exact ⟨f2, f5, f4, h2.q⟩
    by_cases z4 : z = S (i + 1)
    · have v : jn S i z = S i := by rw [z4]; unfold jn; rw [if_neg f5, if_neg f4, if_neg (fun e => f6 e.symm), if_pos rfl]
      rw [v]
      have h1 := d.q
      rw [z4, f8] at h1
      have h2 := h1.p
      rw [hp1] at h2
      exact ⟨f1, f3, hne, h2.q⟩
    have vo : jn S i z = S z := by unfold jn; rw [if_neg b, if_neg c, if_neg z3, if_neg z4]
    rw [vo]
    exact ⟨t.qr z a, fun e => z3 (by rw [← e1, e]), fun e => z4 (by rw [← e1, e]), d.q⟩
theorem jn_loop {P S : Nat → Nat} {n i : Nat} (t : Two P S n) (hi : i + 1 < n) (hp : P i = i + 1) (x y : Nat) (h : Cl P (jn S i) x y) (hx : x = i ∨ x = i + 1) : y = i ∨ y = i + 1 := by
  have hp1 : P (i + 1) = i := by have := t.p.inv i (by omega); rw [hp] at this; exact this
  induction h with
  | refl => exact hx
  | p _ ih => rcases ih with e | e <;> rw [e]
              · exact .inr hp
              · exact .inl hp1
  | q _ ih => rcases ih with e | e <;> rw [e]
              · exact .inr (by unfold jn; rw [if_pos rfl])
              · exact .inl (by unfold jn; rw [if_neg (by omega), if_pos rfl])
theorem jn_col {P S : Nat → Nat} {n i c : Nat} {x : Nat → Nat} (t : Two P S n) (hi : i + 1 < n) (hp : P i = i + 1) (hne : S i ≠ i + 1) (h : Col P S n x c) :
    Col P (jn S i) n (fun j => if j = i ∨ j = i + 1 then c else x j) (c + 1) := by
  obtain ⟨f1, f2, f3, f4, f5, f6, f7, f8⟩ := jn_facts t.q t.qr hi hne
  refine ⟨fun j hj => ?_, fun v hv => ?_, fun j k hj hk => ?_⟩
  · show (if _ then _ else _) < _
    split
    · omega
    · have := h.lt j hj; omega
  · by_cases e : v = c
    · exact ⟨i, by omega, by show (if _ then _ else _) = _; rw [if_pos (.inl rfl)]; exact e.symm⟩
    · obtain ⟨j, hj, hv2⟩ := h.surj v (by omega)
      by_cases hji : j = i ∨ j = i + 1
      · refine ⟨S i, f1, ?_⟩
        show (if _ then _ else _) = _
        rw [if_neg (by omega), ← hv2]
        refine (h.cls _ _ f1 hj).2 ?_
        rcases hji with hji | hji
        · rw [hji]; have := (Cl.refl (P := P) (Q := S) (s := S i)).q; rw [f7] at this; exact this
        · rw [hji]; have := (Cl.refl (P := P) (Q := S) (s := S i)).q.p; rw [f7, hp] at this; exact this
      · exact ⟨j, hj, by show (if _ then _ else _) = _; rw [if_neg hji]; exact hv2⟩
  · show (if _ then _ else _) = (if _ then _ else _) ↔ _
    by_cases hji : j = i ∨ j = i + 1
    · rw [if_pos hji]
      by_cases hki : k = i ∨ k = i + 1
      · rw [if_pos hki]
        refine ⟨fun _ => ?_, fun _ => rfl⟩
        have s0 := Cl.refl (P := P) (Q := jn S i) (s := j)
        rcases hji with e | e <;> rcases hki with e2 | e2
        · have h' : k = j := by omega
          rw [h']; exact s0
        · have := s0.q; rw [e] at this ⊢; rw [e2]; unfold jn at this; rw [if_pos rfl] at this; exact this
        · have := s0.q; rw [e] at this ⊢; rw [e2]; unfold jn at this; rw [if_neg (by omega), if_pos rfl] at this; exact this
        · have h' : k = j := by omega
          rw [h']; exact s0
      · rw [if_neg hki]
        have := h.lt k hk
        exact ⟨fun e => by omega, fun e => absurd (jn_loop t hi hp j k e hji) hki⟩
    · rw [if_neg hji]
      by_cases hki : k = i ∨ k = i + 1
      · rw [if_pos hki]
        have := h.lt j hj
        refine ⟨fun e => by omega, fun e => ?_⟩
        have := jn_bwd t hi hp hne j k hj e (fun e => hji (.inl e)) (fun e => hji (.inr e))
        exact absurd hki (by omega)
      · rw [if_neg hki, h.cls j k hj hk]
        refine ⟨fun e => (jn_fwd t hi hp hne j k hj e (fun e => hji (.inl e)) (fun e => hji (.inr e))).1 (fun e => hki (.inl e)) (fun e => hki (.inr e)), fun e => (jn_bwd t hi hp hne j k hj e (fun e => hji (.inl e)) (fun e => hji (.inr e))).2.2.2⟩
/-- how many curves -/
def cnt (P Q : Nat → Nat) (n : Nat) : Nat := (colours P Q n).2
theorem cnt_swap {P Q : Nat → Nat} {n : Nat} (t : Two P Q n) : cnt Q P n = cnt P Q n := col_unique (colours_col ⟨t.q, t.p, t.qr, t.pr⟩) (colours_col t).swap
theorem cnt_jn {P S : Nat → Nat} {n i : Nat} (t : Two P S n) (hi : i + 1 < n) (hp : P i = i + 1) (hne : S i ≠ i + 1) : cnt P (jn S i) n = cnt P S n + 1 :=
  col_unique (colours_col ⟨t.p, (jn_sys t.q t.qr hi hne).1, t.pr, (jn_sys t.q t.qr hi hne).2⟩) (jn_col t hi hp hne (colours_col t))
/-- joined, if not yet -/
def jn' (S : Nat → Nat) (i : Nat) : Nat → Nat := if S i = i + 1 then S else jn S i
def closed (S : Nat → Nat) (i : Nat) : Nat := if S i = i + 1 then 1 else 0
theorem jn'_at (S : Nat → Nat) (i : Nat) : jn' S i i = i + 1 := by
  unfold jn'
  split
  · assumption
  · unfold jn; rw [if_pos rfl]
theorem jn'_sys {S : Nat → Nat} {n i : Nat} (h : Sys S n) (hr : ∀ x, x < n → S x < n) (hi : i + 1 < n) : Sys (jn' S i) n ∧ ∀ x, x < n → jn' S i x < n := by
  unfold jn'
  split
  · exact ⟨h, hr⟩
  · exact jn_sys h hr hi (by assumption)
theorem cnt_jn' {P S : Nat → Nat} {n i : Nat} (t : Two P S n) (hi : i + 1 < n) (hp : P i = i + 1) : cnt P (jn' S i) n + closed S i = cnt P S n + 1 := by
  unfold jn' closed
  by_cases h : S i = i + 1
  · rw [if_pos h, if_pos h]
  · rw [if_neg h, if_neg h, cnt_jn t hi hp h]
theorem moves_over {P S : Nat → Nat} {n i : Nat} (t : Two P S n) (hi : i + 1 < n) : cnt (jn' P i) S n + closed P i = cnt P (jn' S i) n + closed S i := by
  obtain ⟨a1, a2⟩ := jn'_sys t.p t.pr hi
  obtain ⟨b1, b2⟩ := jn'_sys t.q t.qr hi
  have h1 := cnt_jn' (P := jn' P i) (S := S) ⟨a1, t.q, a2, t.qr⟩ hi (jn'_at P i)
  have h2 := cnt_jn' (P := jn' S i) (S := P) ⟨b1, t.p, b2, t.pr⟩ hi (jn'_at S i)
  rw [cnt_swap (P := jn' P i) (Q := jn' S i) ⟨a1, b1, a2, b2⟩, cnt_swap (P := P) (Q := jn' S i) ⟨t.p, b1, t.pr, b2⟩] at h2
  omega

end Go.Proofs.Ytiljhemobammdaa.Pure
