/- The reference's two small tests: is a number in bounds, is it in a list. Words: a list is one of 0 and so on, each once, exactly if, sorted by insertion, it tells each place's own number. Both tests of it are one. The test of stacks of one to eight numbers: the program's and the reference's are one. TurnFolding's answer told outright: each stamp lies by so many places further. A turned stack is a stack, and a folding exactly if it was one. A stack read from below is a folding exactly if it was one; so is one that is numbered backwards. -/
import Derived.Test.YtjgkcknopnollaaPM1
import Derived.Test.YtjgkcknopnollaaG1
import Derived.Test.YtjgkcknopnollaaG3
import Derived.Test.YtjgkcknopnollaaG4
import Derived.Test.YtjgkcknopnollaaG5
import Derived.Test.YtjgkcknopnollaaG8
import Derived.Test.YtjgkcknopnollaaG9
set_option linter.unusedVariables false
set_option linter.unusedSimpArgs false
namespace Go.Proofs.Ytjgkcknopnollaa.Pure
open Go.RowKit Go.Proofs.Ytjgkcknopnollaa.G Go.Proofs.YtjgkcknopnollaaW.PrintWords Go.Proofs.YtjgkcknopnollaaW.PrintLast Go.Proofs.YtjgkcknopnollaaW.PrintMore

theorem sIn_val (a b c : Int) : spec_l1In.f a b c = some (decide (b ≤ a ∧ a ≤ c)) := by
  unfold spec_l1In.f
  by_cases h : b ≤ a <;> simp [h]
theorem sHas_l0 (l : List Int) (a : Int) (hl : l.length ≤ 1048576) (d : Nat) : ∀ (k i : Nat), i + d = l.length → d < k →
    spec_l1Has.l0 k a l (l.length : Int) (i : Int) = some (decide (a ∈ l.drop i)) := by
  induction d with
  | zero =>
    intro k i hi hk
    obtain ⟨k, rfl⟩ : ∃ m, k = m + 1 := ⟨k - 1, by omega⟩
    rw [spec_l1Has.l0, if_neg (by omega), List.drop_of_length_le (by omega)]; simp
  | succ d ih =>
    intro k i hi hk
    obtain ⟨k, rfl⟩ : ∃ m, k = m + 1 := ⟨k - 1, by omega⟩
    have hlt : i < l.length := by omega
    rw [spec_l1Has.l0, if_pos (by omega), if_pos (by omega), if_pos (by omega), rd_get hlt, wrap_succ (by omega), ih k (i + 1) (by omega) (by omega), List.drop_eq_getElem_cons hlt]
    by_cases e : l[i] = a
    · rw [if_pos e]; congr 1; symm; rw [decide_eq_true_eq, List.mem_cons]; exact .inl e.symm
    · rw [if_neg e]; congr 1; rw [decide_eq_decide, List.mem_cons]
      exact ⟨.inr, fun g => g.resolve_left fun h => e h.symm⟩
theorem sHas_ev (l : List Int) (a : Int) (hl : l.length ≤ 1048576) (k : Nat) (hk : l.length < k) : spec_l1Has.f k l a = some (decide (a ∈ l)) := by
  unfold spec_l1Has.f
  have := sHas_l0 l a hl l.length k 0 (by omega) hk
  simpa using this
theorem less_val (a b : Int) : cmp_Less_int.f a b = some (decide (a < b)) := by
  simp [cmp_Less_int.f, cmp_isNaN_int.f]
theorem swap_get (x : List Int) (j p : Nat) (a b : Int) (hj : j + 1 < x.length) : ((x.set (j + 1) a).set j b).getD p 0 = if p = j then b else if p = j + 1 then a else x.getD p 0 := by
  simp only [List.getD_eq_getElem?_getD, List.getElem?_set, List.length_set]
  by_cases h1 : p = j
  · subst h1; simp [show p < x.length by omega]
  · rw [if_neg (show ¬ j = p by omega), if_neg h1]
    by_cases h2 : p = j + 1
    · subst h2; simp [hj]
    · rw [if_neg (show ¬ j + 1 = p by omega), if_neg h2]
theorem swap_perm (x : List Int) (j : Nat) (hj : j + 1 < x.length) : List.Perm ((x.set (j + 1) (x.getD j 0)).set j (x.getD (j + 1) 0)) x := by
  have h := Array.perm_iff_toList_perm.1 (Array.swap_perm (xs := x.toArray) (i := j + 1) (j := j) (by simpa using hj) (by simp; omega))
  rw [Array.toList_swap] at h
  simpa [List.getD_eq_getElem?_getD, hj, show j < x.length by omega] using h
/-- ordered so far -/
def upTo (x : List Int) (i : Nat) : Prop := ∀ p q, p < q → q < i → x.getD p 0 ≤ x.getD q 0
def upBut (x : List Int) (i j : Nat) : Prop := ∀ p q, p < q → q ≤ i → q ≠ j → x.getD p 0 ≤ x.getD q 0
theorem ins_l1 (n i K : Nat) (hi : i < n) (hn : n ≤ 1000)
    (next : ∀ (k : Nat) (x : List Int), K ≤ k → x.length = n → upTo x (i + 1) → ∃ s, slices_insertionSortOrdered_int.l0 k x 0 (n : Int) ((i + 1 : Nat) : Int) = some s ∧ s.Perm x ∧ upTo s n) :
    ∀ (j k : Nat) (x : List Int), j ≤ i → K + j + 1 ≤ k → x.length = n → upBut x i j → ∃ s, slices_insertionSortOrdered_int.l1 k x 0 (n : Int) (i : Int) (j : Int) = some s ∧ s.Perm x ∧ upTo s n := by
  intro j
  induction j with
  | zero =>
    intro k x hj hk hx hs
    obtain ⟨k, rfl⟩ : ∃ m, k = m + 1 := ⟨k - 1, by omega⟩
    rw [slices_insertionSortOrdered_int.l1, if_neg (by omega), wrap_succ (by omega)]
    exact next k x (by omega) hx (fun p q h1 h2 => hs p q h1 (by omega) (by omega))
  | succ j ih =>
    intro k x hj hk hx hs
    obtain ⟨k, rfl⟩ : ∃ m, k = m + 1 := ⟨k - 1, by omega⟩
    have e : wrap64 (((j + 1 : Nat) : Int) - 1) = (j : Int) := by rw [wrap_id (by omega) (by omega)]; omega
    rw [slices_insertionSortOrdered_int.l1, if_pos (by omega), if_pos (by omega), if_pos (by omega), e, if_pos (by omega), if_pos (by omega), less_val, Option.bind_some, rd_nat, rd_nat, Int.toNat_natCast, Int.toNat_natCast]
    by_cases hlt : x.getD (j + 1) 0 < x.getD j 0
    · rw [if_pos (by simpa using hlt)]
      have hg := fun p => swap_get x j p (x.getD j 0) (x.getD (j + 1) 0) (by omega)
      obtain ⟨s, h1, h2, h3⟩ := ih k ((x.set (j + 1) (x.getD j 0)).set j (x.getD (j + 1) 0)) (by omega) (by omega) (by simpa using hx) (fun p q hpq hqi hqj => by
        rw [hg, hg, if_neg hqj]
        by_cases q1 : q = j + 1
        · rw [if_pos q1]
          by_cases p1 : p = j
          · rw [if_pos p1]; omega
          · rw [if_neg p1, if_neg (by omega)]
            exact hs p j (by omega) (by omega) (by omega)
        · rw [if_neg q1]
          by_cases p1 : p = j
          · rw [if_pos p1]
            exact hs (j + 1) q (by omega) hqi q1
          · rw [if_neg p1]
            by_cases p2 : p = j + 1
            · rw [if_pos p2]
              exact hs j q (by omega) hqi q1
            · rw [if_neg p2]
              exact hs p q hpq hqi q1)
      exact ⟨s, h1, h2.trans (swap_perm x j (by omega)), h3⟩
    · rw [if_neg (by simpa using hlt), wrap_succ (by omega)]
      refine next k x (by omega) hx (fun p q h1 h2 => ?_)
      by_cases q1 : q = j + 1
      · subst q1
        by_cases p1 : p = j
        · subst p1; omega
        · have := hs p j (by omega) (by omega) (by omega)
          omega
      · exact hs p q h1 (by omega) q1
theorem ins_l0 (n : Nat) (hn : n ≤ 12) (d : Nat) : ∀ (i k : Nat) (x : List Int), i + d = n → 20 * d + 1 ≤ k → x.length = n → upTo x i →
    ∃ s, slices_insertionSortOrdered_int.l0 k x 0 (n : Int) (i : Int) = some s ∧ s.Perm x ∧ upTo s n := by
  induction d with
  | zero =>
    intro i k x hi hk hx hs
    obtain ⟨k, rfl⟩ : ∃ m, k = m + 1 := ⟨k - 1, by omega⟩
    rw [slices_insertionSortOrdered_int.l0, if_neg (by omega)]
    obtain rfl : i = n := by omega
    exact ⟨x, rfl, List.Perm.refl _, hs⟩
  | succ d ih =>
    intro i k x hi hk hx hs
    obtain ⟨k, rfl⟩ : ∃ m, k = m + 1 := ⟨k - 1, by omega⟩
    rw [slices_insertionSortOrdered_int.l0, if_pos (by omega)]
    exact ins_l1 n i (20 * d + 1) (by omega) (by omega) (fun k x hk hx hs => ih (i + 1) k x (by omega) hk hx hs) i k x (Nat.le_refl _) (by omega) hx (fun p q h1 h2 h3 => hs p q h1 (by omega))
theorem sort_at (l : List Int) (hl : l.length ≤ 12) (k : Nat) (hk : 300 ≤ k) : ∃ s, s.Perm l ∧ upTo s l.length ∧ slices_Sort_int_int.f k l = some s := by
  obtain ⟨k, rfl⟩ : ∃ m, k = m + 2 := ⟨k - 2, by omega⟩
  obtain ⟨t, ht⟩ : ∃ t, bits_Len.f (IntKind.u64.wrap (l.length : Int)) = some t := by
    have e : IntKind.u64.wrap (l.length : Int) = (l.length : Int) := by
      simp [IntKind.wrap, IntKind.bits, IntKind.signed]; omega
    rw [e]
    unfold bits_Len.f bits_Len64.f
    rw [if_pos (by omega)]
    exact ⟨_, rfl⟩
  unfold slices_Sort_int_int.f
  rw [ht, Option.bind_some, slices_pdqsortOrdered_int.f, slices_pdqsortOrdered_int.l0, if_pos (by rw [wrap_id (by omega) (by omega)]; omega)]
  unfold slices_insertionSortOrdered_int.f
  by_cases h0 : l.length = 0
  · obtain ⟨k, rfl⟩ : ∃ m, k = m + 1 := ⟨k - 1, by omega⟩
    refine ⟨l, List.Perm.refl _, fun p q _ h => by omega, ?_⟩
    rw [slices_insertionSortOrdered_int.l0, if_neg (by rw [show wrap64 (0 + 1) = 1 by unfold wrap64; decide]; omega)]
    rfl
  · obtain ⟨s, g1, g2, g3⟩ := ins_l0 l.length hl (l.length - 1) 1 k l (by omega) (by omega) rfl (fun p q _ h => by omega)
    refine ⟨s, g2, g3, ?_⟩
    rw [show wrap64 (0 + 1) = ((1 : Nat) : Int) by unfold wrap64; decide, g1]
    rfl
/-- does each place tell its own number, from place i on -/
def own (s : List Int) : Nat → Nat → Bool
  | 0, _ => true
  | d + 1, i => if s.getD i 0 = (i : Int) then own s d (i + 1) else false
theorem own_iff (s : List Int) (d : Nat) : ∀ i, own s d i = true ↔ ∀ j, i ≤ j → j < i + d → s.getD j 0 = (j : Int) := by
  induction d with
  | zero => intro i; exact ⟨fun _ j h1 h2 => by omega, fun _ => rfl⟩
  | succ d ih =>
    intro i
    by_cases h : s.getD i 0 = (i : Int)
    · rw [own, if_pos h, ih]
      exact ⟨fun g j h1 h2 => if e : j = i then e ▸ h else g j (by omega) (by omega), fun g j h1 h2 => g j (by omega) (by omega)⟩
    · rw [own, if_neg h]
      constructor
      · intro g; exact absurd g (by simp)
      · intro g; exact absurd (g i (Nat.le_refl _) (by omega)) h
theorem isw_l0 (s : List Int) (hl : s.length ≤ 12) (d : Nat) : ∀ (k i : Nat), i + d = s.length → d < k → impl_isWord.l0 k s (s.length : Int) (i : Int) = some (own s d i) := by
  induction d with
  | zero =>
    intro k i hi hk
    obtain ⟨k, rfl⟩ : ∃ m, k = m + 1 := ⟨k - 1, by omega⟩
    rw [impl_isWord.l0, if_neg (by omega)]; rfl
  | succ d ih =>
    intro k i hi hk
    obtain ⟨k, rfl⟩ : ∃ m, k = m + 1 := ⟨k - 1, by omega⟩
    rw [impl_isWord.l0, if_pos (by omega), if_pos (by omega), if_pos (by omega), rd_nat, wrap_succ (by omega), ih k (i + 1) (by omega) (by omega), own]
    split <;> rfl
theorem own_word (l s : List Int) (hp : s.Perm l) (hs : upTo s l.length) : own s s.length 0 = wordB l := by
  have hlen := hp.length_eq
  have hd : s.Pairwise (· ≠ ·) ↔ l.Pairwise (· ≠ ·) := hp.pairwise_iff (fun h => Ne.symm h)
  rw [Bool.eq_iff_iff, own_iff]
  unfold wordB inR
  simp only [Bool.and_eq_true, decide_eq_true_eq, List.all_eq_true]
  constructor
  · intro h
    have hg : ∀ i (hi : i < s.length), s[i] = (i : Int) := fun i hi => by rw [← getD_get s i hi]; exact h i (by omega) (by omega)
    refine ⟨fun x hx => ?_, hd.1 (List.pairwise_iff_getElem.2 fun i j hi hj hij => by rw [hg i hi, hg j hj]; omega)⟩
    obtain ⟨i, hi, e⟩ := List.getElem_of_mem (hp.mem_iff.2 hx)
    rw [← e, hg i hi]
    omega
  · rintro ⟨h1, h2⟩ j _ hj
    have h3 := List.pairwise_iff_getElem.1 (hd.2 h2)
    have hr : ∀ i, i < s.length → 0 ≤ s.getD i 0 ∧ s.getD i 0 ≤ (s.length : Int) - 1 := fun i hi => by
      rw [getD_get s i hi, hlen]
      exact h1 _ (hp.mem_iff.1 (List.getElem_mem hi))
    refine ident s.length (fun i => s.getD i 0) (fun i hi => (hr i hi).1) (fun i hi => (hr i hi).2) (fun i j hij hj => ?_) j (by omega)
    have h4 := hs i j hij (by omega)
    have h5 := h3 i j (by omega) hj hij
    show s.getD i 0 < s.getD j 0
    rw [getD_get s i (by omega), getD_get s j hj] at h4 ⊢
    omega
theorem isWord_ev (l : List Int) (hl : l.length ≤ 12) (k : Nat) (hk : 300 ≤ k) : impl_isWord.f k l = some (wordB l) := by
  obtain ⟨s, h1, h2, h3⟩ := sort_at l hl k hk
  have hlen := h1.length_eq
  unfold impl_isWord.f slices_Clone_int_int.f
  rw [if_pos (by omega), Option.bind_some, h3, Option.bind_some, ← hlen]
  have := isw_l0 s (by omega) s.length k 0 (by omega) (by omega)
  rw [own_word l s h1 h2] at this
  exact this
theorem sAll_l0 (l : List Int) (a b : Int) (hl : l.length ≤ 1048576) (d : Nat) : ∀ (k i : Nat), i + d = l.length → d < k →
    spec_l1All.l0 k a b l (l.length : Int) (i : Int) = some ((l.drop i).all fun x => decide (a ≤ x ∧ x ≤ b)) := by
  induction d with
  | zero =>
    intro k i hi hk
    obtain ⟨k, rfl⟩ : ∃ m, k = m + 1 := ⟨k - 1, by omega⟩
    simp only [spec_l1All.l0]
    rw [if_neg (by omega), List.drop_of_length_le (by omega)]
    rfl
  | succ d ih =>
    intro k i hi hk
    obtain ⟨k, rfl⟩ : ∃ m, k = m + 1 := ⟨k - 1, by omega⟩
    simp only [spec_l1All.l0]
    have h : i < l.length := by omega
    rw [if_pos (by omega), if_pos (by omega), if_pos (by omega), wrap_succ (by omega), rd_get h, sIn_val, Option.bind_some, ih k (i + 1) (by omega) (by omega), List.drop_eq_getElem_cons h, List.all_cons]
    by_cases hx : a ≤ l[i] ∧ l[i] ≤ b <;> simp [hx]
theorem sAll_ev (l : List Int) (a b : Int) (hl : l.length ≤ 1048576) (k : Nat) (hk : l.length < k) : spec_l1All.f k l a b = some (l.all fun x => decide (a ≤ x ∧ x ≤ b)) := by
  unfold spec_l1All.f
  have := sAll_l0 l a b hl l.length k 0 (by omega) hk
  simpa using this
/-- is no number told twice, from place i on -/
theorem once_step (l : List Int) (i : Nat) (h : i < l.length) : (∀ j, i ≤ j → (hj : j < l.length) → l[j] ∉ l.take j) ↔ l[i] ∉ l.take i ∧ (∀ j, i + 1 ≤ j → (hj : j < l.length) → l[j] ∉ l.take j) :=
  ⟨fun g => ⟨g i (Nat.le_refl _) h, fun j h1 hj => g j (by omega) hj⟩, fun g j h1 hj => if e : j = i then by subst e; exact g.1 else g.2 j (by omega) hj⟩
theorem once_all (l : List Int) : (∀ j, 0 ≤ j → (hj : j < l.length) → l[j] ∉ l.take j) ↔ l.Pairwise (· ≠ ·) := by
  rw [List.pairwise_iff_getElem]
  constructor
  · intro g i j hi hj hij e
    exact g j (by omega) hj (List.mem_iff_getElem.2 ⟨i, by simp; omega, by simpa using e⟩)
  · intro g j _ hj hm
    obtain ⟨i, hi, e⟩ := List.mem_iff_getElem.1 hm
    simp at hi e
    exact g i j (by omega) hj (by omega) e
open Classical in
theorem pe_l0 (l : List Int) (hl : l.length ≤ 12) (d : Nat) : ∀ (k i : Nat), i + d = l.length → d + 30 < k →
    spec_spStack.l0 k l l (l.length : Int) (i : Int) = some (decide (∀ j, i ≤ j → (hj : j < l.length) → l[j] ∉ l.take j)) := by
  induction d with
  | zero =>
    intro k i hi hk
    obtain ⟨k, rfl⟩ : ∃ m, k = m + 1 := ⟨k - 1, by omega⟩
    rw [spec_spStack.l0, if_neg (by omega)]
    congr 1; symm
    rw [decide_eq_true_eq]
    intro j h1 hj; omega
  | succ d ih =>
    intro k i hi hk
    obtain ⟨k, rfl⟩ : ∃ m, k = m + 1 := ⟨k - 1, by omega⟩
    have hlt : i < l.length := by omega
    rw [spec_spStack.l0, if_pos (by omega), if_pos (by omega), if_pos (by omega), if_pos (by omega), Int.toNat_natCast, rd_get hlt, sHas_ev _ _ (by simp; omega) k (by simp; omega), Option.bind_some, wrap_succ (by omega), ih k (i + 1) (by omega) (by omega)]
    by_cases h : l[i] ∈ l.take i
    · rw [if_pos (by simpa using h)]
      congr 1; symm
      rw [decide_eq_false_iff_not, once_step l i hlt]
      exact fun g => g.1 h
    · rw [if_neg (by simpa using h)]
      congr 1
      rw [decide_eq_decide, once_step l i hlt]
      exact ⟨fun g => ⟨h, g⟩, fun g => g.2⟩
def stackB (l : List Int) : Bool := decide (1 ≤ l.length ∧ l.length ≤ 8) && wordB l
theorem iIn_val (a b c : Int) : impl_in.f a b c = some (decide (b ≤ a ∧ a ≤ c)) := by
  unfold impl_in.f
  by_cases h : b ≤ a <;> simp [h]
theorem spStack_ev (l : List Int) (hl : l.length ≤ 1048576) (k : Nat) (hk : l.length + 100 ≤ k) : spec_spStack.f k l = some (stackB l) := by
  obtain ⟨k, rfl⟩ : ∃ m, k = m + 1 := ⟨k - 1, by omega⟩
  unfold spec_spStack.f stackB
  rw [sIn_val, Option.bind_some]
  by_cases h : 1 ≤ l.length ∧ l.length ≤ 8
  · rw [if_pos (by simp; omega), sAll_ev l _ _ hl (k + 1) (by omega), Option.bind_some, spec_spStack.j0, wrap_id (by omega) (by omega)]
    unfold wordB inR
    cases ha : (l.all fun x => decide (0 ≤ x ∧ x ≤ (l.length : Int) - 1)) with
    | false => simp
    | true =>
      have := pe_l0 l (by omega) l.length k 0 (by omega) (by omega)
      rw [if_neg (by simp)]
      rw [Int.natCast_zero] at this
      rw [this]
      simp only [h, and_self, decide_true, Bool.true_and]
      exact congrArg some (decide_eq_decide.2 (once_all l))
  · rw [if_neg (by simp; omega), spec_spStack.j0, if_pos rfl]
    simp [h]
theorem isStack_ev (l : List Int) (k : Nat) (hk : 300 ≤ k) : impl_isStack.f k l = some (stackB l) := by
  unfold impl_isStack.f stackB
  rw [iIn_val, Option.bind_some]
  by_cases h : 1 ≤ l.length ∧ l.length ≤ 8
  · rw [if_pos (by simp; omega), isWord_ev l (by omega) k hk]; simp [h]
  · rw [if_neg (by simp; omega)]; simp [h]
theorem stackB_len {l : List Int} (h : stackB l = true) : 1 ≤ l.length ∧ l.length ≤ 8 := by
  unfold stackB at h; simp only [Bool.and_eq_true, decide_eq_true_eq] at h; exact h.1
theorem stackB_word {l : List Int} (h : stackB l = true) : wordB l = true := by
  unfold stackB at h; simp only [Bool.and_eq_true] at h; exact h.2
theorem rest_mod (a n : Int) (hn : 1 ≤ n ∧ n ≤ 8) (ha : -1000 ≤ a ∧ a ≤ 1000) : Int.tmod (wrap64 (Int.tmod (wrap64 a) n + n)) n = a % n := by
  rw [wrap_id (x := a) (by omega) (by omega)]
  have key : Int.tmod a n = if 0 ≤ a then a % n else -((-a) % n) := by
    by_cases h : 0 ≤ a
    · rw [if_pos h, Int.tmod_eq_emod_of_nonneg h]
    · rw [if_neg h, ← Int.tmod_eq_emod_of_nonneg (by omega : 0 ≤ -a), Int.neg_tmod, Int.neg_neg]
  have b1 := Int.emod_nonneg a (by omega : n ≠ 0)
  have b2 := Int.emod_lt_of_pos a (by omega : 0 < n)
  have b3 := Int.emod_nonneg (-a) (by omega : n ≠ 0)
  have b4 := Int.emod_lt_of_pos (-a) (by omega : 0 < n)
  rw [key]
  have h0 : 0 ≤ (if 0 ≤ a then a % n else -((-a) % n)) + n := by split <;> omega
  have h1 : (if 0 ≤ a then a % n else -((-a) % n)) + n ≤ 100 := by split <;> omega
  rw [wrap_id (by omega) (by omega), Int.tmod_eq_emod_of_nonneg h0]
  have hc : n = 1 ∨ n = 2 ∨ n = 3 ∨ n = 4 ∨ n = 5 ∨ n = 6 ∨ n = 7 ∨ n = 8 := by omega
  rcases hc with rfl | rfl | rfl | rfl | rfl | rfl | rfl | rfl <;> split <;> omega
/-- where a place goes -/
def tgt (n : Nat) (y : Int) (j : Nat) : Nat := (((j : Int) + y) % (n : Int)).toNat
theorem tgt_lt (n : Nat) (hn : 1 ≤ n) (y : Int) (j : Nat) : tgt n y j < n := by
  unfold tgt
  have b1 := Int.emod_nonneg ((j : Int) + y) (by omega : (n : Int) ≠ 0)
  have b2 := Int.emod_lt_of_pos ((j : Int) + y) (by omega : 0 < (n : Int))
  omega
theorem tgt_val (n : Nat) (hn : 1 ≤ n) (y : Int) (j : Nat) : ((tgt n y j : Nat) : Int) = ((j : Int) + y) % (n : Int) := by
  unfold tgt
  have b1 := Int.emod_nonneg ((j : Int) + y) (by omega : (n : Int) ≠ 0)
  omega
theorem tgt_back (n : Nat) (hn : 1 ≤ n ∧ n ≤ 8) (y : Int) (j : Nat) (hj : j < n) : tgt n (-y) (tgt n y j) = j := by
  have h1 := tgt_val n hn.1 y j
  have h2 := tgt_val n hn.1 (-y) (tgt n y j)
  rw [h1] at h2
  have hc : n = 1 ∨ n = 2 ∨ n = 3 ∨ n = 4 ∨ n = 5 ∨ n = 6 ∨ n = 7 ∨ n = 8 := by omega
  have e : (((j : Int) + y) % (n : Int) + -y) % (n : Int) = (j : Int) := by
    rcases hc with rfl | rfl | rfl | rfl | rfl | rfl | rfl | rfl <;> omega
  rw [e] at h2
  omega
theorem tgt_inj (n : Nat) (hn : 1 ≤ n ∧ n ≤ 8) (y : Int) (i j : Nat) (hi : i < n) (hj : j < n) (h : tgt n y i = tgt n y j) : i = j := by
  have h1 := tgt_back n hn y i hi
  rw [h, tgt_back n hn y j hj] at h1
  exact h1.symm
/-- r is l turned by y -/
structure Turned (l : List Int) (y : Int) (r : List Int) : Prop where
  len : r.length = l.length
  at_ : ∀ j, j < l.length → r.getD (tgt l.length y j) 0 = l.getD j 0
theorem turned_loop (l : List Int) (y : Int) (hl : 1 ≤ l.length ∧ l.length ≤ 8) (hb : -100 ≤ y ∧ y ≤ 100) (d : Nat) : ∀ (i : Nat) (x : List Int), i + d = l.length → x.length = l.length → (∀ j, j < i → x.getD (tgt l.length y j) 0 = l.getD j 0) →
    ∃ r, Turned l y r ∧ ∀ k, d < k → spec_spTurn.l0 k y (l.length : Int) x l (l.length : Int) (i : Int) = some r ∧ impl_TurnFolding.l0 k l y x l (l.length : Int) (i : Int) = some (r, true) := by
  induction d with
  | zero =>
    intro i x hi hx hv
    refine ⟨x, ⟨hx, fun j hj => hv j (by omega)⟩, fun k hk => ?_⟩
    obtain ⟨k, rfl⟩ : ∃ m, k = m + 1 := ⟨k - 1, by omega⟩
    rw [spec_spTurn.l0, impl_TurnFolding.l0, if_neg (by omega), if_neg (by omega)]
    exact ⟨rfl, rfl⟩
  | succ d ih =>
    intro i x hi hx hv
    have ht : Int.tmod (wrap64 (Int.tmod (wrap64 ((i : Int) + y)) (l.length : Int) + (l.length : Int))) (l.length : Int) = ((tgt l.length y i : Nat) : Int) := by
      rw [rest_mod _ _ (by omega) (by omega), tgt_val _ hl.1]
    have hlt := tgt_lt l.length hl.1 y i
    obtain ⟨r, h1, h2⟩ := ih (i + 1) (x.set (tgt l.length y i) (rd l (i : Int))) (by omega) (by simpa using hx) (fun j hj => by
      rw [List.getD_eq_getElem?_getD, List.getElem?_set]
      by_cases e : tgt l.length y i = tgt l.length y j
      · have := tgt_inj l.length hl y i j (by omega) (by omega) e
        subst this
        rw [if_pos rfl, if_pos (by omega), Option.getD_some, rd_nat]
      · rw [if_neg e, ← List.getD_eq_getElem?_getD]
        refine hv j ?_
        by_cases h : j = i
        · subst h; exact absurd rfl e
        · omega)
    refine ⟨r, h1, fun k hk => ?_⟩
    obtain ⟨k, rfl⟩ : ∃ m, k = m + 1 := ⟨k - 1, by omega⟩
    have c1 : (i : Int) < (l.length : Int) := by omega
    have c2 : (0 : Int) ≤ (i : Int) := by omega
    have c3 : ¬ (l.length : Int) = 0 := by omega
    have c4 : ((tgt l.length y i : Nat) : Int) < (x.length : Int) := by omega
    have c5 : (0 : Int) ≤ ((tgt l.length y i : Nat) : Int) := by omega
    have e : impl_rest.f (wrap64 ((i : Int) + y)) (l.length : Int) = some ((tgt l.length y i : Nat) : Int) := by
      unfold impl_rest.f; rw [if_neg c3, ht]
    rw [spec_spTurn.l0, impl_TurnFolding.l0, e, ht]
    simp only [c1, c2, c3, c4, c5, if_true, if_false, Option.bind_some, Int.toNat_natCast]
    rw [wrap_succ (by omega)]
    exact h2 k (by omega)
theorem turned_word {l r : List Int} {y : Int} (hl : 1 ≤ l.length ∧ l.length ≤ 8) (h : Turned l y r) (m : Nat) (hm : m < l.length) : r.getD m 0 = l.getD (tgt l.length (-y) m) 0 := by
  have h1 := h.at_ (tgt l.length (-y) m) (tgt_lt _ hl.1 _ _)
  have h2 := tgt_back l.length hl (-y) m hm
  rw [Int.neg_neg] at h2
  rw [h2] at h1
  exact h1
theorem turned_back {l r s : List Int} {y : Int} (hl : 1 ≤ l.length ∧ l.length ≤ 8) (h : Turned l y r) (h2 : Turned r (-y) s) : s = l := by
  have e : s.length = l.length := by rw [h2.len, h.len]
  refine List.ext_getElem e fun j h3 h4 => ?_
  have g := h2.at_ (tgt l.length y j) (by rw [h.len]; exact tgt_lt _ hl.1 _ _)
  rw [h.len, tgt_back l.length hl y j h4, h.at_ j h4, getD_get _ _ h3, getD_get _ _ h4] at g
  exact g
theorem wordB_iff (l : List Int) : wordB l = true ↔ (∀ i, i < l.length → 0 ≤ l.getD i 0 ∧ l.getD i 0 ≤ (l.length : Int) - 1) ∧ ∀ i j, i < l.length → j < l.length → i ≠ j → l.getD i 0 ≠ l.getD j 0 := by
  unfold wordB inR
  rw [Bool.and_eq_true, List.all_eq_true, decide_eq_true_eq, List.pairwise_iff_getElem]
  constructor
  · rintro ⟨h1, h2⟩
    refine ⟨fun i hi => ?_, fun i j hi hj hij => ?_⟩
    · rw [getD_get l i hi]; exact of_decide_eq_true (h1 _ (List.getElem_mem hi))
    · rw [getD_get l i hi, getD_get l j hj]
      rcases Nat.lt_or_ge i j with h | h
      · exact h2 i j hi hj h
      · exact fun e => h2 j i hj hi (by omega) e.symm
  · rintro ⟨h1, h2⟩
    refine ⟨fun x hx => ?_, fun i j hi hj hij => ?_⟩
    · obtain ⟨n, hn, rfl⟩ := List.getElem_of_mem hx
      have := h1 n hn
      rw [getD_get l n hn] at this
      exact decide_eq_true this
    · have := h2 i j hi hj (by omega)
      rw [getD_get l i hi, getD_get l j hj] at this
      exact this
theorem turned_isword {l r : List Int} {y : Int} (hl : 1 ≤ l.length ∧ l.length ≤ 8) (hw : wordB l = true) (h : Turned l y r) : wordB r = true := by
  obtain ⟨h1, h2⟩ := (wordB_iff l).1 hw
  refine (wordB_iff r).2 ⟨fun i hi => ?_, fun i j hi hj hij => ?_⟩
  · rw [h.len] at hi ⊢
    rw [turned_word hl h i hi]
    exact h1 _ (tgt_lt _ hl.1 _ _)
  · rw [h.len] at hi hj
    rw [turned_word hl h i hi, turned_word hl h j hj]
    exact h2 _ _ (tgt_lt _ hl.1 _ _) (tgt_lt _ hl.1 _ _) (fun e => hij (tgt_inj _ hl _ _ _ hi hj e))
theorem mod_if (n : Nat) (hn : 1 ≤ n ∧ n ≤ 8) (y : Int) (j : Nat) (hj : j < n) : ((j : Int) + y) % (n : Int) = if (j : Int) + y % (n : Int) < (n : Int) then (j : Int) + y % (n : Int) else (j : Int) + y % (n : Int) - (n : Int) := by
  have hc : n = 1 ∨ n = 2 ∨ n = 3 ∨ n = 4 ∨ n = 5 ∨ n = 6 ∨ n = 7 ∨ n = 8 := by omega
  rcases hc with rfl | rfl | rfl | rfl | rfl | rfl | rfl | rfl <;> split <;> omega
theorem turned_fold {l r : List Int} {y : Int} (hl : 1 ≤ l.length ∧ l.length ≤ 8) (hw : wordB l = true) (h : Turned l y r) : foldB r = foldB l := by
  have hwr := turned_isword hl hw h
  obtain ⟨P, p1, p2⟩ := fold_iff l hl hw
  obtain ⟨R, q1, q2⟩ := fold_iff r (by rw [h.len]; exact hl) hwr
  have hv : ∀ x, x < l.length → (0 ≤ P.getD x 0 ∧ P.getD x 0 < (l.length : Int)) ∧ R.getD x 0 = if P.getD x 0 + y % (l.length : Int) < (l.length : Int) then P.getD x 0 + y % (l.length : Int) else P.getD x 0 + y % (l.length : Int) - (l.length : Int) := by
    intro x hx
    obtain ⟨j, hj, e⟩ := word_all l (by omega) hw x hx
    have g1 := p1.at_ j hj
    rw [e, Int.toNat_natCast] at g1
    have g2 := q1.at_ (tgt l.length y j) (by rw [h.len]; exact tgt_lt _ hl.1 _ _)
    rw [h.at_ j hj, e, Int.toNat_natCast, tgt_val _ hl.1, mod_if _ hl y j hj] at g2
    rw [g1, g2]
    exact ⟨by omega, rfl⟩
  have ht := Int.emod_nonneg y (by omega : (l.length : Int) ≠ 0)
  have ht2 := Int.emod_lt_of_pos y (by omega : 0 < (l.length : Int))
  have hx : ∀ a b, a < b → b + 1 < l.length → (b - a) % 2 = 0 → xc R a b = xc P a b := by
    intro a b hab hb hp
    have ap := p1.apart
    have hlP := p1.len
    unfold xc
    rw [(hv a (by omega)).2, (hv (a + 1) (by omega)).2, (hv b (by omega)).2, (hv (b + 1) (by omega)).2]
    exact crB_turn (l.length : Int) (y % (l.length : Int)) _ _ _ _ (hv a (by omega)).1 (hv (a + 1) (by omega)).1 (hv b (by omega)).1 (hv (b + 1) (by omega)).1 ⟨ht, ht2⟩
      (ap a b (by omega) (by omega) (by omega)) (ap a (b + 1) (by omega) (by omega) (by omega)) (ap (a + 1) b (by omega) (by omega) (by omega)) (ap (a + 1) (b + 1) (by omega) (by omega) (by omega))
  have hiff : foldB r = true ↔ foldB l = true := by
    rw [p2, q2, h.len]
    exact ⟨fun g a b h1 h2 h3 => by rw [← hx a b h1 h2 h3]; exact g a b h1 h2 h3, fun g a b h1 h2 h3 => by rw [hx a b h1 h2 h3]; exact g a b h1 h2 h3⟩
  cases h1 : foldB r with
  | true => exact (hiff.1 h1).symm
  | false =>
    cases h2 : foldB l with
    | false => rfl
    | true => rw [hiff.2 h2] at h1; cases h1
theorem bool_iff {a b : Bool} (h : a = true ↔ b = true) : a = b := by
  cases a <;> cases b <;> simp at h ⊢
theorem rev_getD (l : List Int) (i : Nat) (hi : i < l.length) : l.reverse.getD i 0 = l.getD (l.length - 1 - i) 0 := by
  rw [getD_get _ _ (by simpa using hi), getD_get _ _ (by omega), List.getElem_reverse]
theorem rev_isword {l : List Int} (hw : wordB l = true) : wordB l.reverse = true := by
  obtain ⟨h1, h2⟩ := (wordB_iff l).1 hw
  refine (wordB_iff _).2 ⟨fun i hi => ?_, fun i j hi hj hij => ?_⟩
  · rw [List.length_reverse] at hi ⊢
    rw [rev_getD l i hi]; exact h1 _ (by omega)
  · rw [List.length_reverse] at hi hj
    rw [rev_getD l i hi, rev_getD l j hj]; exact h2 _ _ (by omega) (by omega) (by omega)
theorem rev_fold {l : List Int} (hl : 1 ≤ l.length ∧ l.length ≤ 8) (hw : wordB l = true) : foldB l.reverse = foldB l := by
  have hwr := rev_isword hw
  obtain ⟨P, p1, p2⟩ := fold_iff l hl hw
  obtain ⟨R, q1, q2⟩ := fold_iff l.reverse (by rw [List.length_reverse]; exact hl) hwr
  have hv : ∀ x, x < l.length → R.getD x 0 = (l.length : Int) - 1 - P.getD x 0 := by
    intro x hx
    obtain ⟨j, hj, e⟩ := word_all l (by omega) hw x hx
    have g1 := p1.at_ j hj
    rw [e, Int.toNat_natCast] at g1
    have g2 := q1.at_ (l.length - 1 - j) (by rw [List.length_reverse]; omega)
    rw [rev_getD l _ (by omega), show l.length - 1 - (l.length - 1 - j) = j by omega, e, Int.toNat_natCast] at g2
    rw [g1, g2]; omega
  have hx : ∀ a b, a < b → b + 1 < l.length → (b - a) % 2 = 0 → xc R a b = xc P a b := by
    intro a b hab hb hp
    have ap := p1.apart
    have hlP := p1.len
    unfold xc
    rw [hv a (by omega), hv (a + 1) (by omega), hv b (by omega), hv (b + 1) (by omega)]
    exact crB_below _ _ _ _ _ (ap a b (by omega) (by omega) (by omega)) (ap a (b + 1) (by omega) (by omega) (by omega)) (ap (a + 1) b (by omega) (by omega) (by omega)) (ap (a + 1) (b + 1) (by omega) (by omega) (by omega))
  refine bool_iff ?_
  rw [p2, q2, List.length_reverse]
  exact ⟨fun g a b h1 h2 h3 => by rw [← hx a b h1 h2 h3]; exact g a b h1 h2 h3, fun g a b h1 h2 h3 => by rw [hx a b h1 h2 h3]; exact g a b h1 h2 h3⟩
/-- numbered backwards -/
def numb (l : List Int) : List Int := l.map fun x => (l.length : Int) - 1 - x
theorem numb_len (l : List Int) : (numb l).length = l.length := by simp [numb]
theorem numb_getD (l : List Int) (i : Nat) (hi : i < l.length) : (numb l).getD i 0 = (l.length : Int) - 1 - l.getD i 0 := by
  rw [getD_get _ _ (by rw [numb_len]; exact hi), getD_get _ _ hi]; simp [numb]
theorem numb_isword {l : List Int} (hw : wordB l = true) : wordB (numb l) = true := by
  obtain ⟨h1, h2⟩ := (wordB_iff l).1 hw
  refine (wordB_iff _).2 ⟨fun i hi => ?_, fun i j hi hj hij => ?_⟩
  · rw [numb_len] at hi ⊢
    rw [numb_getD l i hi]; have := h1 i hi; omega
  · rw [numb_len] at hi hj
    rw [numb_getD l i hi, numb_getD l j hj]; have := h2 i j hi hj hij; omega
theorem numb_fold {l : List Int} (hl : 1 ≤ l.length ∧ l.length ≤ 8) (hw : wordB l = true) : foldB (numb l) = foldB l := by
  have hwr := numb_isword hw
  obtain ⟨P, p1, p2⟩ := fold_iff l hl hw
  obtain ⟨R, q1, q2⟩ := fold_iff (numb l) (by rw [numb_len]; exact hl) hwr
  have hv : ∀ x, x < l.length → R.getD x 0 = P.getD (l.length - 1 - x) 0 := by
    intro x hx
    obtain ⟨j, hj, e⟩ := word_all l (by omega) hw (l.length - 1 - x) (by omega)
    have g1 := p1.at_ j hj
    rw [e, Int.toNat_natCast] at g1
    have g2 := q1.at_ j (by rw [numb_len]; exact hj)
    rw [numb_getD l j hj, e, show ((l.length : Int) - 1 - ((l.length - 1 - x : Nat) : Int)).toNat = x by omega] at g2
    rw [g1, g2]
  have hx : ∀ a b, a < b → b + 1 < l.length → (b - a) % 2 = 0 → xc R a b = xc P (l.length - 2 - b) (l.length - 2 - a) := by
    intro a b hab hb hp
    have ap := p1.apart
    have hlP := p1.len
    unfold xc
    rw [hv a (by omega), hv (a + 1) (by omega), hv b (by omega), hv (b + 1) (by omega), show l.length - 1 - (a + 1) = l.length - 2 - a by omega, show l.length - 1 - (b + 1) = l.length - 2 - b by omega, show l.length - 2 - b + 1 = l.length - 1 - b by omega, show l.length - 2 - a + 1 = l.length - 1 - a by omega]
    have n1 := ap (l.length - 1 - a) (l.length - 1 - b) (by omega) (by omega) (by omega)
    have n2 := ap (l.length - 1 - a) (l.length - 2 - b) (by omega) (by omega) (by omega)
    have n3 := ap (l.length - 2 - a) (l.length - 1 - b) (by omega) (by omega) (by omega)
    have n4 := ap (l.length - 2 - a) (l.length - 2 - b) (by omega) (by omega) (by omega)
    generalize P.getD (l.length - 1 - a) 0 = u1 at n1 n2 n3 n4 ⊢
    generalize P.getD (l.length - 2 - a) 0 = u2 at n1 n2 n3 n4 ⊢
    generalize P.getD (l.length - 1 - b) 0 = v1 at n1 n2 n3 n4 ⊢
    generalize P.getD (l.length - 2 - b) 0 = v2 at n1 n2 n3 n4 ⊢
    rw [crB_iff u1 u2 v1 v2 n1 n2 n3 n4, crB_iff v2 v1 u2 u1 (by omega) (by omega) (by omega) (by omega)]
    congr 1
    apply propext
    omega
  refine bool_iff ?_
  rw [p2, q2, numb_len]
  constructor
  · intro g a b h1 h2 h3
    have := hx (l.length - 2 - b) (l.length - 2 - a) (by omega) (by omega) (by omega)
    rw [show l.length - 2 - (l.length - 2 - a) = a by omega, show l.length - 2 - (l.length - 2 - b) = b by omega] at this
    rw [← this]
    exact g _ _ (by omega) (by omega) (by omega)
  · intro g a b h1 h2 h3
    rw [hx a b h1 h2 h3]
    exact g _ _ (by omega) (by omega) (by omega)

end Go.Proofs.Ytjgkcknopnollaa.Pure
