/- The curves of a pair of arch systems: the program's colours and the reference's are one, and the number of curves is the greatest colour and one more. -/
import Derived.Test.YtldbkkfkgfacdaaPWayJ
import Derived.Test.YtldbkkfkgfacdaaQD0
set_option linter.unusedVariables false
set_option linter.unusedSimpArgs false
namespace Go.Proofs.Ytldbkkfkgfacdaa.Pure
open Go.RowKit Go.Proofs.Ytldbkkfkgfacdaa.P Go.Proofs.YtldbkkfkgfacdaaW.PrintWords Go.Proofs.YtldbkkfkgfacdaaW.PrintLast Go.Proofs.YtldbkkfkgfacdaaW.PrintMore

def paint (x : List Int) (w : List Nat) (c : Int) : List Int := w.foldl (fun x j => x.set j c) x
theorem paint_length (w : List Nat) (c : Int) : ∀ x, (paint x w c).length = x.length := by
  induction w with
  | nil => intro x; rfl
  | cons a w ih => intro x; show (paint (x.set a c) w c).length = _; rw [ih]; simp
theorem paint_get (w : List Nat) (c : Int) (j : Nat) : ∀ x : List Int, j < x.length → (paint x w c).getD j 0 = if j ∈ w then c else x.getD j 0 := by
  induction w with
  | nil => intro x hj; simp [paint]
  | cons a w ih =>
    intro x hj
    show (paint (x.set a c) w c).getD j 0 = _
    rw [ih _ (by simpa using hj)]
    by_cases h : j ∈ w
    · simp [h]
    · by_cases e : a = j
      · subst e; simp [h, List.getD_eq_getElem?_getD, hj]
      · have : j ≠ a := fun e2 => e e2.symm
        simp [h, this, List.getD_eq_getElem?_getD, List.getElem?_set, e]
/-- the colours from point i on -/
def outer (P Q : Nat → Nat) (n : Nat) : Nat → Nat → List Int → Nat → List Int × Nat
  | 0, _, x, c => (x, c)
  | d + 1, i, x, c => if 0 ≤ x.getD i 0 then outer P Q n d (i + 1) x c else outer P Q n d (i + 1) (paint x (wayOf P Q n i) (c : Int)) (c + 1)
def colours (P Q : Nat → Nat) (n : Nat) : List Int × Nat := outer P Q n n 0 (List.replicate n (-1)) 0

structure CInv (P Q : Nat → Nat) (n i : Nat) (x : List Int) (c : Nat) : Prop where
  len : x.length = n
  lo : ∀ j, j < n → -1 ≤ x.getD j 0
  hi : ∀ j, j < n → x.getD j 0 ≤ (c : Int) - 1
  top : c = 0 ∨ ∃ j, j < n ∧ x.getD j 0 = (c : Int) - 1
  done : ∀ j, j < i → j < n → 0 ≤ x.getD j 0
  none : c = 0 → i = 0
  one : c = 1 → ∀ j, j < n → 0 ≤ x.getD j 0 → j ∈ wayOf P Q n 0
  bound : c ≤ i
theorem outer_inv {P Q : Nat → Nat} {n : Nat} (t : Two P Q n) (d : Nat) : ∀ i x c, i + d = n → CInv P Q n i x c → CInv P Q n n (outer P Q n d i x c).1 (outer P Q n d i x c).2 := by
  induction d with
  | zero =>
    intro i x c hi h
    obtain rfl : i = n := by omega
    exact h
  | succ d ih =>
    intro i x c hi h
    have hin : i < n := by omega
    simp only [outer]
    by_cases hx : 0 ≤ x.getD i 0
    · rw [if_pos hx]
      refine ih (i + 1) x c (by omega) ⟨h.len, h.lo, h.hi, h.top, fun j hj hjn => ?_, fun hc => ?_, h.one, by have := h.bound; omega⟩
      · by_cases e : j = i
        · subst e; exact hx
        · exact h.done j (by omega) hjn
      · have := h.hi i hin
        omega
    · rw [if_neg hx]
      have hw := t.way_self i hin
      have hg : ∀ j, j < n → (paint x (wayOf P Q n i) (c : Int)).getD j 0 = if j ∈ wayOf P Q n i then (c : Int) else x.getD j 0 := fun j hj => paint_get _ _ j x (by rw [h.len]; exact hj)
      have htop : (paint x (wayOf P Q n i) (c : Int)).getD i 0 = ((c + 1 : Nat) : Int) - 1 := by rw [hg i hin, if_pos hw]; omega
      refine ih (i + 1) _ (c + 1) (by omega) ⟨by rw [paint_length]; exact h.len, fun j hj => ?_, fun j hj => ?_, .inr ⟨i, hin, htop⟩, fun j hj hjn => ?_, fun hc => by omega, fun hc j hj hjx => ?_, by have := h.bound; omega⟩
      · rw [hg j hj]
        split
        · omega
        · exact h.lo j hj
      · rw [hg j hj]
        have := h.hi j hj
        split <;> omega
      · rw [hg j hjn]
        split
        · omega
        · by_cases e : j = i
          · subst e; rename_i hn; exact absurd hw hn
          · exact h.done j (by omega) hjn
      · obtain rfl : c = 0 := by omega
        have hi0 := h.none rfl
        subst hi0
        rw [hg j hj] at hjx
        split at hjx
        · assumption
        · have := h.hi j hj; omega
theorem colours_inv {P Q : Nat → Nat} {n : Nat} (t : Two P Q n) : CInv P Q n n (colours P Q n).1 (colours P Q n).2 := by
  have h0 : CInv P Q n 0 (List.replicate n (-1)) 0 := by
    refine ⟨by simp, fun j hj => ?_, fun j hj => ?_, .inl rfl, fun j hj => by omega, fun _ => rfl, fun hc => by omega, Nat.le_refl _⟩
    · simp [List.getD_eq_getElem?_getD, hj]
    · simp [List.getD_eq_getElem?_getD, hj]
  exact outer_inv t n 0 _ 0 (by omega) h0
/-- a pair of one curve: it goes through every point -/
theorem one_curve {P Q : Nat → Nat} {n : Nat} (t : Two P Q n) (h : (colours P Q n).2 = 1) : 0 < n ∧ ∀ j, j < n → j ∈ wayOf P Q n 0 := by
  have hi := colours_inv t
  refine ⟨?_, fun j hj => hi.one h j hj (hi.done j hj hj)⟩
  rcases hi.top with h0 | ⟨j, hj, _⟩
  · omega
  · omega

theorem rd_getD (x : List Int) (j : Nat) : rd x (j : Int) = x.getD j 0 := rd_nat x j
theorem scol_l2 {p q : List Int} (n i : Nat) (c : Int) (w : List Nat) (hw : ∀ x ∈ w, x < n) (hlw : w.length ≤ 1000) (d : Nat) : ∀ (k j : Nat) (x : List Int), j + d = w.length → x.length = n →
    spec_meColours.l2 (k + d + 1) x c (n : Int) (i : Int) (ints w) (w.length : Int) (j : Int) p q = spec_meColours.l1 k (paint x (w.drop j) c) (wrap64 (c + 1)) (n : Int) (wrap64 ((i : Int) + 1)) p q := by
  induction d with
  | zero =>
    intro k j x hj hx
    rw [spec_meColours.l2, if_neg (by omega), List.drop_of_length_le (by omega)]
    rfl
  | succ d ih =>
    intro k j x hj hx
    have hlt : j < w.length := by omega
    have hwj := hw w[j] (List.getElem_mem hlt)
    rw [show k + (d + 1) + 1 = (k + d + 1) + 1 by omega, spec_meColours.l2, if_pos (by omega), if_pos (by omega), if_pos (by rw [ints_length]; omega), rd_ints w j hlt, if_pos (by omega), if_pos (by omega), Int.toNat_natCast, wrap_succ (by omega), ih k (j + 1) _ (by omega) (by simpa using hx), List.drop_eq_getElem_cons hlt]
    rfl
theorem icol_l1 {p q : List Int} (n i : Nat) (c : Int) (w : List Nat) (hw : ∀ x ∈ w, x < n) (hlw : w.length ≤ 1000) (d : Nat) : ∀ (k j : Nat) (x : List Int), j + d = w.length → x.length = n →
    impl_Meander_curves.l1 (k + d + 1) x c (n : Int) (i : Int) (ints w) (w.length : Int) (j : Int) p q = impl_Meander_curves.l0 k (paint x (w.drop j) c) (wrap64 (c + 1)) (n : Int) (wrap64 ((i : Int) + 1)) p q := by
  induction d with
  | zero =>
    intro k j x hj hx
    rw [impl_Meander_curves.l1, if_neg (by omega), List.drop_of_length_le (by omega)]
    rfl
  | succ d ih =>
    intro k j x hj hx
    have hlt : j < w.length := by omega
    have hwj := hw w[j] (List.getElem_mem hlt)
    rw [show k + (d + 1) + 1 = (k + d + 1) + 1 by omega, impl_Meander_curves.l1, if_pos (by omega), if_pos (by omega), if_pos (by rw [ints_length]; omega), rd_ints w j hlt, if_pos (by omega), if_pos (by omega), Int.toNat_natCast, wrap_succ (by omega), ih k (j + 1) _ (by omega) (by simpa using hx), List.drop_eq_getElem_cons hlt]
    rfl
theorem both_l {p q : List Int} (h : Pair p q) (d : Nat) : ∀ (k i c : Nat) (x : List Int), i + d = p.length → x.length = p.length → c ≤ i → 60 * d + 60 ≤ k →
    spec_meColours.l1 k x (c : Int) (p.length : Int) (i : Int) p q = some (outer (qof p) (qof q) p.length d i x c).1 ∧
    impl_Meander_curves.l0 k x (c : Int) (p.length : Int) (i : Int) p q = some ((outer (qof p) (qof q) p.length d i x c).1, ((outer (qof p) (qof q) p.length d i x c).2 : Int)) := by
  induction d with
  | zero =>
    intro k i c x hi hx hc hk
    obtain ⟨k, rfl⟩ : ∃ m, k = m + 1 := ⟨k - 1, by omega⟩
    rw [spec_meColours.l1, impl_Meander_curves.l0, if_neg (by omega), if_neg (by omega)]
    exact ⟨rfl, rfl⟩
  | succ d ih =>
    intro k i c x hi hx hc hk
    have hn := (good_len h.gp).1
    have hin : i < p.length := by omega
    obtain ⟨k, rfl⟩ : ∃ m, k = m + 1 := ⟨k - 1, by omega⟩
    rw [spec_meColours.l1, impl_Meander_curves.l0]
    simp only [outer]
    have c1 : (i : Int) < (p.length : Int) := by omega
    have c2 : (0 : Int) ≤ (i : Int) := by omega
    have c3 : (i : Int) < (x.length : Int) := by omega
    simp only [c1, c2, c3, if_true, rd_getD]
    by_cases hx0 : 0 ≤ x.getD i 0
    · have : x.getD i 0 ≥ 0 := hx0
      simp only [hx0, this, if_true]
      rw [wrap_succ (by omega)]
      exact ih k (i + 1) c x (by omega) hx (by omega) (by omega)
    · have : ¬ x.getD i 0 ≥ 0 := hx0
      simp only [hx0, this, if_false]
      have hlw := h.two.way_length i hin
      have hw := h.two.way_lt i hin
      rw [sway_ev h i hin k (by omega), iway_ev h i hin k (by omega), Option.bind_some, Option.bind_some]
      obtain ⟨w, hwe⟩ : ∃ w, w = wayOf (qof p) (qof q) p.length i := ⟨_, rfl⟩
      rw [← hwe] at hlw hw ⊢
      obtain ⟨k', hk'⟩ : ∃ k', k = k' + w.length + 1 := ⟨k - w.length - 1, by omega⟩
      have s2 := scol_l2 (p := p) (q := q) p.length i c w hw (by omega) w.length k' 0 x (by omega) hx
      have i2 := icol_l1 (p := p) (q := q) p.length i c w hw (by omega) w.length k' 0 x (by omega) hx
      rw [show ((0 : Nat) : Int) = 0 from rfl, List.drop_zero, wrap_succ (by omega), wrap_succ (by omega)] at s2 i2
      rw [ints_length, hk', s2, i2]
      exact ih k' (i + 1) (c + 1) _ (by omega) (by rw [paint_length]; exact hx) (by omega) (by omega)
theorem scol_l0 {p q : List Int} (n : Nat) (hn : n ≤ 1000) (d : Nat) : ∀ (k i : Nat), i + d = n →
    spec_meColours.l0 (k + d + 1) (List.replicate i (-1) ++ List.replicate d 0) (n : Int) (i : Int) p q = spec_meColours.l1 k (List.replicate n (-1)) 0 (n : Int) 0 p q := by
  induction d with
  | zero =>
    intro k i hi
    obtain rfl : i = n := by omega
    rw [spec_meColours.l0, if_neg (by omega)]
    simp
  | succ d ih =>
    intro k i hi
    rw [show k + (d + 1) + 1 = (k + d + 1) + 1 by omega, spec_meColours.l0, if_pos (by omega), if_pos (by omega), if_pos (by simp; omega), Int.toNat_natCast, wrap_succ (by omega)]
    have e : (List.replicate i (-1 : Int) ++ List.replicate (d + 1) 0).set i (-1) = List.replicate (i + 1) (-1) ++ List.replicate d 0 := by
      rw [List.set_append_right (h := by simp), List.length_replicate, Nat.sub_self, List.replicate_succ, List.set_cons_zero, List.replicate_succ', List.append_assoc]
      rfl
    rw [e]
    exact ih k (i + 1) (by omega)
theorem scolours_ev {p q : List Int} (h : Pair p q) (k : Nat) (hk : 900 ≤ k) : spec_meColours.f k p q = some (colours (qof p) (qof q) p.length).1 := by
  have hn := (good_len h.gp).1
  unfold spec_meColours.f
  rw [if_pos (by omega), if_pos (by omega), Option.bind_some, Int.toNat_natCast]
  obtain ⟨k', hk'⟩ : ∃ k', k = k' + p.length + 1 := ⟨k - p.length - 1, by omega⟩
  have := scol_l0 (p := p) (q := q) p.length (by omega) p.length k' 0 (by omega)
  simp only [List.replicate_zero, List.nil_append] at this
  rw [show ((0 : Nat) : Int) = 0 from rfl] at this
  rw [List.length_replicate, hk', this]
  exact (both_l h p.length k' 0 0 _ (by omega) (by simp) (by omega) (by omega)).1
theorem most_val (a b : Int) : spec_l1Most.f a b = some (if a > b then a else b) := by
  unfold spec_l1Most.f
  split <;> rfl
theorem count_l0 (x : List Int) (c : Nat) (hlx : x.length ≤ 1000) (hc : c ≤ 1000) (hi : ∀ j, j < x.length → x.getD j 0 ≤ (c : Int) - 1) (lo : ∀ j, j < x.length → -1 ≤ x.getD j 0) (d : Nat) : ∀ (k i : Nat) (m : Int), i + d = x.length → d < k → -1 ≤ m → m ≤ (c : Int) - 1 →
    (m = (c : Int) - 1 ∨ ∃ j, i ≤ j ∧ j < x.length ∧ x.getD j 0 = (c : Int) - 1) → spec_meCount.l0 k m x (x.length : Int) (i : Int) = some (c : Int) := by
  induction d with
  | zero =>
    intro k i m hid hk h1 h2 h3
    obtain ⟨k, rfl⟩ : ∃ m, k = m + 1 := ⟨k - 1, by omega⟩
    rw [spec_meCount.l0, if_neg (by omega)]
    rcases h3 with h3 | ⟨j, h4, h5, _⟩
    · rw [wrap_id (by omega) (by omega), h3]; congr 1; omega
    · omega
  | succ d ih =>
    intro k i m hid hk h1 h2 h3
    obtain ⟨k, rfl⟩ : ∃ m, k = m + 1 := ⟨k - 1, by omega⟩
    rw [spec_meCount.l0, if_pos (by omega), if_pos (by omega), if_pos (by omega), most_val, Option.bind_some, wrap_succ (by omega), rd_getD]
    have hx := hi i (by omega)
    have hl := lo i (by omega)
    refine ih k (i + 1) _ (by omega) (by omega) (by split <;> omega) (by split <;> omega) ?_
    rcases h3 with h3 | ⟨j, h4, h5, h6⟩
    · left; split <;> omega
    · by_cases e : j = i
      · subst e; left; split <;> omega
      · right; exact ⟨j, by omega, h5, h6⟩
theorem count_ev {p q : List Int} (h : Pair p q) (k : Nat) (hk : 900 ≤ k) : spec_meCount.f k p q = some ((colours (qof p) (qof q) p.length).2 : Int) := by
  have hn := (good_len h.gp).1
  have inv := colours_inv h.two
  unfold spec_meCount.f
  rw [scolours_ev h k hk, Option.bind_some]
  have hb := inv.bound
  have := count_l0 (colours (qof p) (qof q) p.length).1 (colours (qof p) (qof q) p.length).2 (by rw [inv.len]; omega) (by omega) (fun j hj => inv.hi j (by rw [← inv.len]; exact hj)) (fun j hj => inv.lo j (by rw [← inv.len]; exact hj)) p.length k 0 (-1) (by rw [inv.len]; omega) (by omega) (by omega) (by omega) (by
    rcases inv.top with h0 | ⟨j, hj, e⟩
    · left; omega
    · right; exact ⟨j, by omega, by rw [inv.len]; exact hj, e⟩)
  exact this
/-- is a pair one curve -/
def single (p q : List Int) : Bool := decide ((colours (qof p) (qof q) p.length).2 = 1)
theorem count_single {p q : List Int} (h : Pair p q) : ((((colours (qof p) (qof q) p.length).2 : Int)) == 1) = single p q := by
  unfold single
  by_cases e : (colours (qof p) (qof q) p.length).2 = 1
  · simp [e]
  · have : ¬ (((colours (qof p) (qof q) p.length).2 : Int) = 1) := by omega
    simp [e, this]

end Go.Proofs.Ytldbkkfkgfacdaa.Pure
