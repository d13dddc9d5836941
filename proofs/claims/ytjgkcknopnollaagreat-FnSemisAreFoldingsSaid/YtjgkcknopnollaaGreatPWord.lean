/- Words: a list is one of 0 and so on, each once, exactly if, sorted by insertion, it tells each place's own number. Both tests of it are one. -/
import Derived.Test.YtjgkcknopnollaaGreatPNum
import Derived.Test.YtjgkcknopnollaaGreatPWordM
import Derived.Test.YtjgkcknopnollaaGreatPHas
import Derived.Test.YtjgkcknopnollaaGreatQA2
set_option linter.unusedVariables false
set_option linter.unusedSimpArgs false
namespace Go.Proofs.YtjgkcknopnollaaGreat.Pure
open Go.RowKit Go.Proofs.YtjgkcknopnollaaGreat.D Go.Proofs.YtjgkcknopnollaaGreatW.PrintWords Go.Proofs.YtjgkcknopnollaaGreatW.PrintLast Go.Proofs.YtjgkcknopnollaaGreatW.PrintMore

theorem less_val (a b : Int) : cmp_Less_int.f a b = some (decide (a < b)) := by
  simp [cmp_Less_int.f, cmp_isNaN_int.f]
theorem swap_get (x : List Int) (j p : Nat) (a b : Int) (hj : j + 1 < x.length) : ((x.set (j + 1) a).set j b).getD p 0 = if p = j then b else if p = j + 1 then a else x.getD p 0 := by
  simp only [List.getD_eq_getElem?_getD, List.getElem?_set, List.length_set]
  by_cases h1 : p = j
  · subst h1; simp [show p < x.length by omega]
  · rw [if_neg (show ¬ j = p by omega), if_neg h1]
    by_cases h2 : p = j + 1
    · subst h2; simp [hj]
    · rw [if_neg (show ¬ j + 1 = p by omega), if_neg h2]
theorem swap_perm (x : List Int) (j : Nat) (hj : j + 1 < x.length) : List.Perm ((x.set (j + 1) (x.getD j 0)).set j (x.getD (j + 1) 0)) x := by
  have h := Array.perm_iff_toList_perm.1 (Array.swap_perm (xs := x.toArray) (i := j + 1) (j := j) (by simpa using hj) (by simp; omega))
  rw [Array.toList_swap] at h
  simpa [List.getD_eq_getElem?_getD, hj, show j < x.length by omega] using h
/-- ordered so far -/
def upTo (x : List Int) (i : Nat) : Prop := ∀ p q, p < q → q < i → x.getD p 0 ≤ x.getD q 0
def upBut (x : List Int) (i j : Nat) : Prop := ∀ p q, p < q → q ≤ i → q ≠ j → x.getD p 0 ≤ x.getD q 0
theorem ins_l1 (n i K : Nat) (hi : i < n) (hn : n ≤ 1000)
    (next : ∀ (k : Nat) (x : List Int), K ≤ k → x.length = n → upTo x (i + 1) → ∃ s, slices_insertionSortOrdered_int.l0 k x 0 (n : Int) ((i + 1 : Nat) : Int) = some s ∧ s.Perm x ∧ upTo s n) :
    ∀ (j k : Nat) (x : List Int), j ≤ i → K + j + 1 ≤ k → x.length = n → upBut x i j → ∃ s, slices_insertionSortOrdered_int.l1 k x 0 (n : Int) (i : Int) (j : Int) = some s ∧ s.Perm x ∧ upTo s n := by
  intro j
  induction j with
  | zero =>
    intro k x hj hk hx hs
    obtain ⟨k, rfl⟩ : ∃ m, k = m + 1 := ⟨k - 1, by omega⟩
    rw [slices_insertionSortOrdered_int.l1, if_neg (by omega), wrap_succ (by omega)]
    exact next k x (by omega) hx (fun p q h1 h2 => hs p q h1 (by omega) (by omega))
  | succ j ih =>
    intro k x hj hk hx hs
    obtain ⟨k, rfl⟩ : ∃ m, k = m + 1 := ⟨k - 1, by omega⟩
    have e : wrap64 (((j + 1 : Nat) : Int) - 1) = (j : Int) := by rw [wrap_id (by omega) (by omega)]; omega
    rw [slices_insertionSortOrdered_int.l1, if_pos (by omega), if_pos (by omega), if_pos (by omega), e, if_pos (by omega), if_pos (by omega), less_val, Option.bind_some, rd_nat, rd_nat, Int.toNat_natCast, Int.toNat_natCast]
    by_cases hlt : x.getD (j + 1) 0 < x.getD j 0
    · rw [if_pos (by simpa using hlt)]
      have hg := fun p => swap_get x j p (x.getD j 0) (x.getD (j + 1) 0) (by omega)
      obtain ⟨s, h1, h2, h3⟩ := ih k ((x.set (j + 1) (x.getD j 0)).set j (x.getD (j + 1) 0)) (by omega) (by omega) (by simpa using hx) (fun p q hpq hqi hqj => by
        rw [hg, hg, if_neg hqj]
        by_cases q1 : q = j + 1
        · rw [if_pos q1]
          by_cases p1 : p = j
          · rw [if_pos p1]; omega
          · rw [if_neg p1, if_neg (by omega)]
            exact hs p j (by omega) (by omega) (by omega)
        · rw [if_neg q1]
          by_cases p1 : p = j
          · rw [if_pos p1]
            exact hs (j + 1) q (by omega) hqi q1
          · rw [if_neg p1]
            by_cases p2 : p = j + 1
            · rw [if_pos p2]
              exact hs j q (by omega) hqi q1
            · rw [if_neg p2]
              exact hs p q hpq hqi q1)
      exact ⟨s, h1, h2.trans (swap_perm x j (by omega)), h3⟩
    · rw [if_neg (by simpa using hlt), wrap_succ (by omega)]
      refine next k x (by omega) hx (fun p q h1 h2 => ?_)
      by_cases q1 : q = j + 1
      · subst q1
        by_cases p1 : p = j
        · subst p1; omega
        · have := hs p j (by omega) (by omega) (by omega)
          omega
      · exact hs p q h1 (by omega) q1
theorem ins_l0 (n : Nat) (hn : n ≤ 12) (d : Nat) : ∀ (i k : Nat) (x : List Int), i + d = n → 20 * d + 1 ≤ k → x.length = n → upTo x i →
    ∃ s, slices_insertionSortOrdered_int.l0 k x 0 (n : Int) (i : Int) = some s ∧ s.Perm x ∧ upTo s n := by
  induction d with
  | zero =>
    intro i k x hi hk hx hs
    obtain ⟨k, rfl⟩ : ∃ m, k = m + 1 := ⟨k - 1, by omega⟩
    rw [slices_insertionSortOrdered_int.l0, if_neg (by omega)]
    obtain rfl : i = n := by omega
    exact ⟨x, rfl, List.Perm.refl _, hs⟩
  | succ d ih =>
    intro i k x hi hk hx hs
    obtain ⟨k, rfl⟩ : ∃ m, k = m + 1 := ⟨k - 1, by omega⟩
    rw [slices_insertionSortOrdered_int.l0, if_pos (by omega)]
    exact ins_l1 n i (20 * d + 1) (by omega) (by omega) (fun k x hk hx hs => ih (i + 1) k x (by omega) hk hx hs) i k x (Nat.le_refl _) (by omega) hx (fun p q h1 h2 h3 => hs p q h1 (by omega))
theorem sort_at (l : List Int) (hl : l.length ≤ 12) (k : Nat) (hk : 300 ≤ k) : ∃ s, s.Perm l ∧ upTo s l.length ∧ slices_Sort_int_int.f k l = some s := by
  obtain ⟨k, rfl⟩ : ∃ m, k = m + 2 := ⟨k - 2, by omega⟩
  obtain ⟨t, ht⟩ : ∃ t, bits_Len.f (IntKind.u64.wrap (l.length : Int)) = some t := by
    have e : IntKind.u64.wrap (l.length : Int) = (l.length : Int) := by
      simp [IntKind.wrap, IntKind.bits, IntKind.signed]; omega
    rw [e]
    unfold bits_Len.f bits_Len64.f
    rw [if_pos (by omega)]
    exact ⟨_, rfl⟩
  unfold slices_Sort_int_int.f
  rw [ht, Option.bind_some, slices_pdqsortOrdered_int.f, slices_pdqsortOrdered_int.l0, if_pos (by rw [wrap_id (by omega) (by omega)]; omega)]
  unfold slices_insertionSortOrdered_int.f
  by_cases h0 : l.length = 0
  · obtain ⟨k, rfl⟩ : ∃ m, k = m + 1 := ⟨k - 1, by omega⟩
    refine ⟨l, List.Perm.refl _, fun p q _ h => by omega, ?_⟩
    rw [slices_insertionSortOrdered_int.l0, if_neg (by rw [show wrap64 (0 + 1) = 1 by unfold wrap64; decide]; omega)]
    rfl
  · obtain ⟨s, g1, g2, g3⟩ := ins_l0 l.length hl (l.length - 1) 1 k l (by omega) (by omega) rfl (fun p q _ h => by omega)
    refine ⟨s, g2, g3, ?_⟩
    rw [show wrap64 (0 + 1) = ((1 : Nat) : Int) by unfold wrap64; decide, g1]
    rfl
/-- does each place tell its own number, from place i on -/
def own (s : List Int) : Nat → Nat → Bool
  | 0, _ => true
  | d + 1, i => if s.getD i 0 = (i : Int) then own s d (i + 1) else false
theorem own_iff (s : List Int) (d : Nat) : ∀ i, own s d i = true ↔ ∀ j, i ≤ j → j < i + d → s.getD j 0 = (j : Int) := by
  induction d with
  | zero => intro i; exact ⟨fun _ j h1 h2 => by omega, fun _ => rfl⟩
  | succ d ih =>
    intro i
    by_cases h : s.getD i 0 = (i : Int)
    · rw [own, if_pos h, ih]
      exact ⟨fun g j h1 h2 => if e : j = i then e ▸ h else g j (by omega) (by omega), fun g j h1 h2 => g j (by omega) (by omega)⟩
    · rw [own, if_neg h]
      constructor
      · intro g; exact absurd g (by simp)
      · intro g; exact absurd (g i (Nat.le_refl _) (by omega)) h
theorem isw_l0 (s : List Int) (hl : s.length ≤ 12) (d : Nat) : ∀ (k i : Nat), i + d = s.length → d < k → impl_isWord.l0 k s (s.length : Int) (i : Int) = some (own s d i) := by
  induction d with
  | zero =>
    intro k i hi hk
    obtain ⟨k, rfl⟩ : ∃ m, k = m + 1 := ⟨k - 1, by omega⟩
    rw [impl_isWord.l0, if_neg (by omega)]; rfl
  | succ d ih =>
    intro k i hi hk
    obtain ⟨k, rfl⟩ : ∃ m, k = m + 1 := ⟨k - 1, by omega⟩
    rw [impl_isWord.l0, if_pos (by omega), if_pos (by omega), if_pos (by omega), rd_nat, wrap_succ (by omega), ih k (i + 1) (by omega) (by omega), own]
    split <;> rfl
theorem own_word (l s : List Int) (hp : s.Perm l) (hs : upTo s l.length) : own s s.length 0 = wordB l := by
  have hlen := hp.length_eq
  have hd : s.Pairwise (· ≠ ·) ↔ l.Pairwise (· ≠ ·) := hp.pairwise_iff (fun h => Ne.symm h)
  rw [Bool.eq_iff_iff, own_iff]
  unfold wordB inR
  simp only [Bool.and_eq_true, decide_eq_true_eq, List.all_eq_true]
  constructor
  · intro h
    have hg : ∀ i (hi : i < s.length), s[i] = (i : Int) := fun i hi => by rw [← getD_get s i hi]; exact h i (by omega) (by omega)
    refine ⟨fun x hx => ?_, hd.1 (List.pairwise_iff_getElem.2 fun i j hi hj hij => by rw [hg i hi, hg j hj]; omega)⟩
    obtain ⟨i, hi, e⟩ := List.getElem_of_mem (hp.mem_iff.2 hx)
    rw [← e, hg i hi]
    omega
  · rintro ⟨h1, h2⟩ j _ hj
    have h3 := List.pairwise_iff_getElem.1 (hd.2 h2)
    have hr : ∀ i, i < s.length → 0 ≤ s.getD i 0 ∧ s.getD i 0 ≤ (s.length : Int) - 1 := fun i hi => by
      rw [getD_get s i hi, hlen]
      exact h1 _ (hp.mem_iff.1 (List.getElem_mem hi))
    refine ident s.length (fun i => s.getD i 0) (fun i hi => (hr i hi).1) (fun i hi => (hr i hi).2) (fun i j hij hj => ?_) j (by omega)
    have h4 := hs i j hij (by omega)
    have h5 := h3 i j (by omega) hj hij
    show s.getD i 0 < s.getD j 0
    rw [getD_get s i (by omega), getD_get s j hj] at h4 ⊢
    omega
theorem isWord_ev (l : List Int) (hl : l.length ≤ 12) (k : Nat) (hk : 300 ≤ k) : impl_isWord.f k l = some (wordB l) := by
  obtain ⟨s, h1, h2, h3⟩ := sort_at l hl k hk
  have hlen := h1.length_eq
  unfold impl_isWord.f slices_Clone_int_int.f
  rw [if_pos (by omega), Option.bind_some, h3, Option.bind_some, ← hlen]
  have := isw_l0 s (by omega) s.length k 0 (by omega) (by omega)
  rw [own_word l s h1 h2] at this
  exact this
theorem sAll_l0 (l : List Int) (a b : Int) (hl : l.length ≤ 1048576) (d : Nat) : ∀ (k i : Nat), i + d = l.length → d < k →
    spec_l1All.l0 k a b l (l.length : Int) (i : Int) = some ((l.drop i).all fun x => decide (a ≤ x ∧ x ≤ b)) := by
  induction d with
  | zero =>
    intro k i hi hk
    obtain ⟨k, rfl⟩ : ∃ m, k = m + 1 := ⟨k - 1, by omega⟩
    simp only [spec_l1All.l0]
    rw [if_neg (by omega), List.drop_of_length_le (by omega)]
    rfl
  | succ d ih =>
    intro k i hi hk
    obtain ⟨k, rfl⟩ : ∃ m, k = m + 1 := ⟨k - 1, by omega⟩
    simp only [spec_l1All.l0]
    have h : i < l.length := by omega
    rw [if_pos (by omega), if_pos (by omega), if_pos (by omega), wrap_succ (by omega), rd_get h, sIn_val, Option.bind_some, ih k (i + 1) (by omega) (by omega), List.drop_eq_getElem_cons h, List.all_cons]
    by_cases hx : a ≤ l[i] ∧ l[i] ≤ b <;> simp [hx]
theorem sAll_ev (l : List Int) (a b : Int) (hl : l.length ≤ 1048576) (k : Nat) (hk : l.length < k) : spec_l1All.f k l a b = some (l.all fun x => decide (a ≤ x ∧ x ≤ b)) := by
  unfold spec_l1All.f
  have := sAll_l0 l a b hl l.length k 0 (by omega) hk
  simpa using this
/-- is no number told twice, from place i on -/
theorem once_step (l : List Int) (i : Nat) (h : i < l.length) : (∀ j, i ≤ j → (hj : j < l.length) → l[j] ∉ l.take j) ↔ l[i] ∉ l.take i ∧ (∀ j, i + 1 ≤ j → (hj : j < l.length) → l[j] ∉ l.take j) :=
  ⟨fun g => ⟨g i (Nat.le_refl _) h, fun j h1 hj => g j (by omega) hj⟩, fun g j h1 hj => if e : j = i then by subst e; exact g.1 else g.2 j (by omega) hj⟩
theorem once_all (l : List Int) : (∀ j, 0 ≤ j → (hj : j < l.length) → l[j] ∉ l.take j) ↔ l.Pairwise (· ≠ ·) := by
  rw [List.pairwise_iff_getElem]
  constructor
  · intro g i j hi hj hij e
    exact g j (by omega) hj (List.mem_iff_getElem.2 ⟨i, by simp; omega, by simpa using e⟩)
  · intro g j _ hj hm
    obtain ⟨i, hi, e⟩ := List.mem_iff_getElem.1 hm
    simp at hi e
    exact g i j (by omega) hj (by omega) e

end Go.Proofs.YtjgkcknopnollaaGreat.Pure
