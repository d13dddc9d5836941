/- Plain facts on whole numbers and lists that our pure texts share: no program in sight. Words: what a word is. The reference's two small tests: is a number in bounds, is it in a list. Words: a list is one of 0 and so on, each once, exactly if, sorted by insertion, it tells each place's own number. Both tests of it are one. The test of words of at most twelve numbers: the program's and the reference's are one. Joins that cross: the program's search for the first pair and the reference's are one. Words that close: joins that do not cross. Words that close: the program's test of a meander's word and the reference's are one. -/
import Derived.Test.YtldbkkfkgfacdaaQA3
set_option linter.unusedVariables false
set_option linter.unusedSimpArgs false
namespace Go.Proofs.Ytldbkkfkgfacdaa.Pure
open Go.RowKit Go.Proofs.Ytldbkkfkgfacdaa.P Go.Proofs.YtldbkkfkgfacdaaW.PrintWords Go.Proofs.YtldbkkfkgfacdaaW.PrintLast Go.Proofs.YtldbkkfkgfacdaaW.PrintMore

theorem wrap_id {x : Int} (h0 : -9223372036854775808 ≤ x) (h1 : x ≤ 9223372036854775807) : wrap64 x = x := by
 unfold wrap64; omega
theorem wrap_succ {i : Nat} (h : i < 9223372036854775807) : wrap64 ((i : Int) + 1) = ((i + 1 : Nat) : Int) := by
 unfold wrap64; omega
theorem rd_get {l : List Int} {i : Nat} (h : i < l.length) : rd l (i : Int) = l[i] := by
 unfold rd; simp [h]
theorem rd_nat (l : List Int) (i : Nat) : rd l (i : Int) = l.getD i 0 := by
 unfold rd; simp
/-- is a list a word -/
def inR (l : List Int) : Bool := l.all fun x => decide (0 ≤ x ∧ x ≤ (l.length : Int) - 1)
def wordB (l : List Int) : Bool := inR l && decide (l.Pairwise (· ≠ ·))
theorem ident (n : Nat) (f : Nat → Int) (h0 : ∀ i, i < n → 0 ≤ f i) (h1 : ∀ i, i < n → f i ≤ (n : Int) - 1) (hs : ∀ i j, i < j → j < n → f i < f j) : ∀ i, i < n → f i = (i : Int) := by
 have up : ∀ i, i < n → (i : Int) ≤ f i := by
  intro i
  induction i with
  | zero => intro h; simpa using h0 0 h
  | succ i ih => intro h; have := ih (by omega); have := hs i (i + 1) (by omega) h; omega
 have dn : ∀ d, d < n → f (n - 1 - d) ≤ (n : Int) - 1 - d := by
  intro d
  induction d with
  | zero => intro h; have := h1 (n - 1) (by omega); simpa using this
  | succ d ih => intro h; have := ih (by omega); have := hs (n - 1 - (d + 1)) (n - 1 - d) (by omega) (by omega); omega
 intro i hi; have h2 := up i hi; have h3 := dn (n - 1 - i) (by omega); rw [show n - 1 - (n - 1 - i) = i by omega] at h3; omega
theorem getD_get (l : List Int) (i : Nat) (h : i < l.length) : l.getD i 0 = l[i] := by simp [List.getD_eq_getElem?_getD, h]
theorem wordB_in {l : List Int} (h : wordB l = true) (i : Nat) (hi : i < l.length) : 0 ≤ rd l (i : Int) ∧ rd l (i : Int) < (l.length : Int) := by
 unfold wordB inR at h; simp only [Bool.and_eq_true, List.all_eq_true, decide_eq_true_eq] at h; have := h.1 _ (List.getElem_mem hi); rw [rd_get hi]; omega
theorem sIn_val (a b c : Int) : spec_l1In.f a b c = some (decide (b ≤ a ∧ a ≤ c)) := by
 unfold spec_l1In.f; by_cases h : b ≤ a <;> simp [h]
theorem sHas_l0 (l : List Int) (a : Int) (hl : l.length ≤ 1048576) (d : Nat) : ∀ (k i : Nat), i + d = l.length → d < k →
  spec_l1Has.l0 k a l (l.length : Int) (i : Int) = some (decide (a ∈ l.drop i)) := by
 induction d with
 | zero =>
  intro k i hi hk; obtain ⟨k, rfl⟩ : ∃ m, k = m + 1 := ⟨k - 1, by omega⟩; rw [spec_l1Has.l0, if_neg (by omega), List.drop_of_length_le (by omega)]; simp
 | succ d ih =>
  intro k i hi hk; obtain ⟨k, rfl⟩ : ∃ m, k = m + 1 := ⟨k - 1, by omega⟩; (have hlt : i < l.length := by omega); rw [spec_l1Has.l0, if_pos (by omega), if_pos (by omega), if_pos (by omega), rd_get hlt, wrap_succ (by omega), ih k (i + 1) (by omega) (by omega), List.drop_eq_getElem_cons hlt]
  by_cases e : l[i] = a
  ·rw [if_pos e]; congr 1; symm; rw [decide_eq_true_eq, List.mem_cons]; exact .inl e.symm
  rw [if_neg e]; congr 1; rw [decide_eq_decide, List.mem_cons]; exact ⟨.inr, fun g => g.resolve_left fun h => e h.symm⟩
theorem sHas_ev (l : List Int) (a : Int) (hl : l.length ≤ 1048576) (k : Nat) (hk : l.length < k) : spec_l1Has.f k l a = some (decide (a ∈ l)) := by
 unfold spec_l1Has.f; have := sHas_l0 l a hl l.length k 0 (by omega) hk
 simpa using this
theorem less_val (a b : Int) : cmp_Less_int.f a b = some (decide (a < b)) := by
 simp [cmp_Less_int.f, cmp_isNaN_int.f]
theorem swap_get (x : List Int) (j p : Nat) (a b : Int) (hj : j + 1 < x.length) : ((x.set (j + 1) a).set j b).getD p 0 = if p = j then b else if p = j + 1 then a else x.getD p 0 := by
 simp only [List.getD_eq_getElem?_getD, List.getElem?_set, List.length_set]
 by_cases h1 : p = j
 ·subst h1; simp [show p < x.length by omega]
 rw [if_neg (show ¬ j = p by omega), if_neg h1]
 by_cases h2 : p = j + 1
 ·subst h2; simp [hj]
 rw [if_neg (show ¬ j + 1 = p by omega), if_neg h2]
theorem swap_perm (x : List Int) (j : Nat) (hj : j + 1 < x.length) : List.Perm ((x.set (j + 1) (x.getD j 0)).set j (x.getD (j + 1) 0)) x := by
 have h := Array.perm_iff_toList_perm.1 (Array.swap_perm (xs := x.toArray) (i := j + 1) (j := j) (by simpa using hj) (by simp; omega)); rw [Array.toList_swap] at h
 simpa [List.getD_eq_getElem?_getD, hj, show j < x.length by omega] using h
/-- ordered so far -/
def upTo (x : List Int) (i : Nat) : Prop := ∀ p q, p < q → q < i → x.getD p 0 ≤ x.getD q 0
def upBut (x : List Int) (i j : Nat) : Prop := ∀ p q, p < q → q ≤ i → q ≠ j → x.getD p 0 ≤ x.getD q 0
theorem ins_l1 (n i K : Nat) (hi : i < n) (hn : n ≤ 1000)
  (next : ∀ (k : Nat) (x : List Int), K ≤ k → x.length = n → upTo x (i + 1) → ∃ s, slices_insertionSortOrdered_int.l0 k x 0 (n : Int) ((i + 1 : Nat) : Int) = some s ∧ s.Perm x ∧ upTo s n) :
  ∀ (j k : Nat) (x : List Int), j ≤ i → K + j + 1 ≤ k → x.length = n → upBut x i j → ∃ s, slices_insertionSortOrdered_int.l1 k x 0 (n : Int) (i : Int) (j : Int) = some s ∧ s.Perm x ∧ upTo s n := by
 intro j
 induction j with
 | zero =>
  intro k x hj hk hx hs; obtain ⟨k, rfl⟩ : ∃ m, k = m + 1 := ⟨k - 1, by omega⟩; rw [slices_insertionSortOrdered_int.l1, if_neg (by omega), wrap_succ (by omega)]; exact next k x (by omega) hx (fun p q h1 h2 => hs p q h1 (by omega) (by omega))
 | succ j ih =>
  intro k x hj hk hx hs; obtain ⟨k, rfl⟩ : ∃ m, k = m + 1 := ⟨k - 1, by omega⟩; (have e : wrap64 (((j + 1 : Nat) : Int) - 1) = (j : Int) := by rw [wrap_id (by omega) (by omega)]; omega); rw [slices_insertionSortOrdered_int.l1, if_pos (by omega), if_pos (by omega), if_pos (by omega), e, if_pos (by omega), if_pos (by omega), less_val, Option.bind_some, rd_nat, rd_nat, Int.toNat_natCast, Int.toNat_natCast]
  by_cases hlt : x.getD (j + 1) 0 < x.getD j 0
  ·rw [if_pos (by simpa using hlt)]; have hg := fun p => swap_get x j p (x.getD j 0) (x.getD (j + 1) 0) (by omega)
   obtain ⟨s, h1, h2, h3⟩ := ih k ((x.set (j + 1) (x.getD j 0)).set j (x.getD (j + 1) 0)) (by omega) (by omega) (by simpa using hx) (fun p q hpq hqi hqj => by
    rw [hg, hg, if_neg hqj]
    by_cases q1 : q = j + 1
    ·rw [if_pos q1]
     by_cases p1 : p = j
     ·rw [if_pos p1]; omega
     rw [if_neg p1, if_neg (by omega)]
     exact hs p j (by omega) (by omega) (by omega)
    rw [if_neg q1]
    by_cases p1 : p = j
    ·rw [if_pos p1]
     exact hs (j + 1) q (by omega) hqi q1
    rw [if_neg p1]
    by_cases p2 : p = j + 1
    ·rw [if_pos p2]
     exact hs j q (by omega) hqi q1
    rw [if_neg p2]
    exact hs p q hpq hqi q1)
   exact ⟨s, h1, h2.trans (swap_perm x j (by omega)), h3⟩
  rw [if_neg (by simpa using hlt), wrap_succ (by omega)]; refine next k x (by omega) hx (fun p q h1 h2 => ?_)
  by_cases q1 : q = j + 1
  ·subst q1
   by_cases p1 : p = j
   ·subst p1; omega
   have := hs p j (by omega) (by omega) (by omega); omega
  exact hs p q h1 (by omega) q1
theorem ins_l0 (n : Nat) (hn : n ≤ 12) (d : Nat) : ∀ (i k : Nat) (x : List Int), i + d = n → 20 * d + 1 ≤ k → x.length = n → upTo x i →
  ∃ s, slices_insertionSortOrdered_int.l0 k x 0 (n : Int) (i : Int) = some s ∧ s.Perm x ∧ upTo s n := by
 induction d with
 | zero =>
  intro i k x hi hk hx hs; obtain ⟨k, rfl⟩ : ∃ m, k = m + 1 := ⟨k - 1, by omega⟩; rw [slices_insertionSortOrdered_int.l0, if_neg (by omega)]; (obtain rfl : i = n := by omega); exact ⟨x, rfl, List.Perm.refl _, hs⟩
 | succ d ih =>
  intro i k x hi hk hx hs; obtain ⟨k, rfl⟩ : ∃ m, k = m + 1 := ⟨k - 1, by omega⟩; rw [slices_insertionSortOrdered_int.l0, if_pos (by omega)]; exact ins_l1 n i (20 * d + 1) (by omega) (by omega) (fun k x hk hx hs => ih (i + 1) k x (by omega) hk hx hs) i k x (Nat.le_refl _) (by omega) hx (fun p q h1 h2 h3 => hs p q h1 (by omega))
theorem sort_at (l : List Int) (hl : l.length ≤ 12) (k : Nat) (hk : 300 ≤ k) : ∃ s, s.Perm l ∧ upTo s l.length ∧ slices_Sort_int_int.f k l = some s := by
 obtain ⟨k, rfl⟩ : ∃ m, k = m + 2 := ⟨k - 2, by omega⟩
 obtain ⟨t, ht⟩ : ∃ t, bits_Len.f (IntKind.u64.wrap (l.length : Int)) = some t := by
  have e : IntKind.u64.wrap (l.length : Int) = (l.length : Int) := by
   simp [IntKind.wrap, IntKind.bits, IntKind.signed]; omega
  rw [e]; unfold bits_Len.f bits_Len64.f; rw [if_pos (by omega)]; exact ⟨_, rfl⟩
 unfold slices_Sort_int_int.f; rw [ht, Option.bind_some, slices_pdqsortOrdered_int.f, slices_pdqsortOrdered_int.l0, if_pos (by rw [wrap_id (by omega) (by omega)]; omega)]; unfold slices_insertionSortOrdered_int.f
 by_cases h0 : l.length = 0
 ·obtain ⟨k, rfl⟩ : ∃ m, k = m + 1 := ⟨k - 1, by omega⟩; refine ⟨l, List.Perm.refl _, fun p q _ h => by omega, ?_⟩; rw [slices_insertionSortOrdered_int.l0, if_neg (by rw [show wrap64 (0 + 1) = 1 by unfold wrap64; decide]; omega)]; rfl
 obtain ⟨s, g1, g2, g3⟩ := ins_l0 l.length hl (l.length - 1) 1 k l (by omega) (by omega) rfl (fun p q _ h => by omega); refine ⟨s, g2, g3, ?_⟩; rw [show wrap64 (0 + 1) = ((1 : Nat) : Int) by unfold wrap64; decide, g1]; rfl
/-- does each place tell its own number, from place i on -/
def own (s : List Int) : Nat → Nat → Bool
 | 0, _ => true
 | d + 1, i => if s.getD i 0 = (i : Int) then own s d (i + 1) else false
theorem own_iff (s : List Int) (d : Nat) : ∀ i, own s d i = true ↔ ∀ j, i ≤ j → j < i + d → s.getD j 0 = (j : Int) := by
 induction d with
 | zero => intro i; exact ⟨fun _ j h1 h2 => by omega, fun _ => rfl⟩
 | succ d ih =>
  intro i
  by_cases h : s.getD i 0 = (i : Int)
  ·rw [own, if_pos h, ih]; exact ⟨fun g j h1 h2 => if e : j = i then e ▸ h else g j (by omega) (by omega), fun g j h1 h2 => g j (by omega) (by omega)⟩
  rw [own, if_neg h]
  constructor
  ·intro g; exact absurd g (by simp)
  intro g; exact absurd (g i (Nat.le_refl _) (by omega)) h
theorem isw_l0 (s : List Int) (hl : s.length ≤ 12) (d : Nat) : ∀ (k i : Nat), i + d = s.length → d < k → impl_isWord.l0 k s (s.length : Int) (i : Int) = some (own s d i) := by
 induction d with
 | zero =>
  intro k i hi hk; obtain ⟨k, rfl⟩ : ∃ m, k = m + 1 := ⟨k - 1, by omega⟩; rw [impl_isWord.l0, if_neg (by omega)]; rfl
 | succ d ih =>
  intro k i hi hk; obtain ⟨k, rfl⟩ : ∃ m, k = m + 1 := ⟨k - 1, by omega⟩; rw [impl_isWord.l0, if_pos (by omega), if_pos (by omega), if_pos (by omega), rd_nat, wrap_succ (by omega), ih k (i + 1) (by omega) (by omega), own]
  split <;> rfl
theorem own_word (l s : List Int) (hp : s.Perm l) (hs : upTo s l.length) : own s s.length 0 = wordB l := by
 have hlen := hp.length_eq; have hd : s.Pairwise (· ≠ ·) ↔ l.Pairwise (· ≠ ·) := hp.pairwise_iff (fun h => Ne.symm h); rw [Bool.eq_iff_iff, own_iff]; unfold wordB inR; simp only [Bool.and_eq_true, decide_eq_true_eq, List.all_eq_true]
 constructor
 ·intro h; (have hg : ∀ i (hi : i < s.length), s[i] = (i : Int) := fun i hi => by rw [← getD_get s i hi]; exact h i (by omega) (by omega)); refine ⟨fun x hx => ?_, hd.1 (List.pairwise_iff_getElem.2 fun i j hi hj hij => by rw [hg i hi, hg j hj]; omega)⟩; obtain ⟨i, hi, e⟩ := List.getElem_of_mem (hp.mem_iff.2 hx); rw [← e, hg i hi]; omega
 rintro ⟨h1, h2⟩ j _ hj; have h3 := List.pairwise_iff_getElem.1 (hd.2 h2)
 have hr : ∀ i, i < s.length → 0 ≤ s.getD i 0 ∧ s.getD i 0 ≤ (s.length : Int) - 1 := fun i hi => by
  rw [getD_get s i hi, hlen]; exact h1 _ (hp.mem_iff.1 (List.getElem_mem hi))
 refine ident s.length (fun i => s.getD i 0) (fun i hi => (hr i hi).1) (fun i hi => (hr i hi).2) (fun i j hij hj => ?_) j (by omega); have h4 := hs i j hij (by omega); have h5 := h3 i j (by omega) hj hij; show s.getD i 0 < s.getD j 0; rw [getD_get s i (by omega), getD_get s j hj] at h4 ⊢; omega
theorem isWord_ev (l : List Int) (hl : l.length ≤ 12) (k : Nat) (hk : 300 ≤ k) : impl_isWord.f k l = some (wordB l) := by
 obtain ⟨s, h1, h2, h3⟩ := sort_at l hl k hk; have hlen := h1.length_eq; unfold impl_isWord.f slices_Clone_int_int.f; rw [if_pos (by omega), Option.bind_some, h3, Option.bind_some, ← hlen]; have := isw_l0 s (by omega) s.length k 0 (by omega) (by omega); rw [own_word l s h1 h2] at this; exact this
theorem sAll_l0 (l : List Int) (a b : Int) (hl : l.length ≤ 1048576) (d : Nat) : ∀ (k i : Nat), i + d = l.length → d < k →
  spec_l1All.l0 k a b l (l.length : Int) (i : Int) = some ((l.drop i).all fun x => decide (a ≤ x ∧ x ≤ b)) := by
 induction d with
 | zero =>
  intro k i hi hk; obtain ⟨k, rfl⟩ : ∃ m, k = m + 1 := ⟨k - 1, by omega⟩; simp only [spec_l1All.l0]; rw [if_neg (by omega), List.drop_of_length_le (by omega)]; rfl
 | succ d ih =>
  intro k i hi hk; obtain ⟨k, rfl⟩ : ∃ m, k = m + 1 := ⟨k - 1, by omega⟩; simp only [spec_l1All.l0]; (have h : i < l.length := by omega); rw [if_pos (by omega), if_pos (by omega), if_pos (by omega), wrap_succ (by omega), rd_get h, sIn_val, Option.bind_some, ih k (i + 1) (by omega) (by omega), List.drop_eq_getElem_cons h, List.all_cons]; by_cases hx : a ≤ l[i] ∧ l[i] ≤ b <;> simp [hx]
theorem sAll_ev (l : List Int) (a b : Int) (hl : l.length ≤ 1048576) (k : Nat) (hk : l.length < k) : spec_l1All.f k l a b = some (l.all fun x => decide (a ≤ x ∧ x ≤ b)) := by
 unfold spec_l1All.f; have := sAll_l0 l a b hl l.length k 0 (by omega) hk
 simpa using this
/-- is no number told twice, from place i on -/
theorem once_step (l : List Int) (i : Nat) (h : i < l.length) : (∀ j, i ≤ j → (hj : j < l.length) → l[j] ∉ l.take j) ↔ l[i] ∉ l.take i ∧ (∀ j, i + 1 ≤ j → (hj : j < l.length) → l[j] ∉ l.take j) :=
 ⟨fun g => ⟨g i (Nat.le_refl _) h, fun j h1 hj => g j (by omega) hj⟩, fun g j h1 hj => if e : j = i then by subst e; exact g.1 else g.2 j (by omega) hj⟩
theorem once_all (l : List Int) : (∀ j, 0 ≤ j → (hj : j < l.length) → l[j] ∉ l.take j) ↔ l.Pairwise (· ≠ ·) := by
 rw [List.pairwise_iff_getElem]
 constructor
 ·intro g i j hi hj hij e; exact g j (by omega) hj (List.mem_iff_getElem.2 ⟨i, by simp; omega, by simpa using e⟩)
 intro g j _ hj hm; obtain ⟨i, hi, e⟩ := List.mem_iff_getElem.1 hm; simp at hi e; exact g i j (by omega) hj (by omega) e
open Classical in
theorem pe_l0 (l : List Int) (hl : l.length ≤ 12) (d : Nat) : ∀ (k i : Nat), i + d = l.length → d + 30 < k →
  spec_peWord.l0 k l l (l.length : Int) (i : Int) = some (decide (∀ j, i ≤ j → (hj : j < l.length) → l[j] ∉ l.take j)) := by
 induction d with
 | zero =>
  intro k i hi hk; obtain ⟨k, rfl⟩ : ∃ m, k = m + 1 := ⟨k - 1, by omega⟩; rw [spec_peWord.l0, if_neg (by omega)]
  congr 1; symm
  rw [decide_eq_true_eq]; intro j h1 hj; omega
 | succ d ih =>
  intro k i hi hk; obtain ⟨k, rfl⟩ : ∃ m, k = m + 1 := ⟨k - 1, by omega⟩; (have hlt : i < l.length := by omega); rw [spec_peWord.l0, if_pos (by omega), if_pos (by omega), if_pos (by omega), if_pos (by omega), Int.toNat_natCast, rd_get hlt, sHas_ev _ _ (by simp; omega) k (by simp; omega), Option.bind_some, wrap_succ (by omega), ih k (i + 1) (by omega) (by omega)]
  by_cases h : l[i] ∈ l.take i
  ·rw [if_pos (by simpa using h)]
   congr 1; symm
   rw [decide_eq_false_iff_not, once_step l i hlt]; exact fun g => g.1 h
  rw [if_neg (by simpa using h)]
  congr 1
  rw [decide_eq_decide, once_step l i hlt]; exact ⟨fun g => ⟨h, g⟩, fun g => g.2⟩
def ptsB (l : List Int) : Bool := decide (l.length ≤ 12) && wordB l
theorem peWord_ev (l : List Int) (hl : l.length ≤ 1048576) (k : Nat) (hk : l.length + 100 ≤ k) : spec_peWord.f k l = some (ptsB l) := by
 obtain ⟨k, rfl⟩ : ∃ m, k = m + 1 := ⟨k - 1, by omega⟩; unfold spec_peWord.f ptsB
 by_cases h : l.length ≤ 12
 ·rw [if_neg (by omega), sAll_ev l _ _ hl (k + 1) (by omega), Option.bind_some, spec_peWord.j0, wrap_id (by omega) (by omega)]; unfold wordB inR
  cases ha : (l.all fun x => decide (0 ≤ x ∧ x ≤ (l.length : Int) - 1)) with
  | false => simp
  | true =>
   have := pe_l0 l h l.length k 0 (by omega) (by omega); rw [if_neg (by simp)]; rw [Int.natCast_zero] at this; rw [this]; simp only [h, decide_true, Bool.true_and]; exact congrArg some (decide_eq_decide.2 (once_all l))
 rw [if_pos (by omega), spec_peWord.j0, if_pos rfl]; simp [h]
theorem isPoints_ev (l : List Int) (k : Nat) (hk : 300 ≤ k) : impl_isPoints.f k l = some (ptsB l) := by
 unfold impl_isPoints.f ptsB
 by_cases h : l.length ≤ 12
 ·rw [if_pos (by omega), isWord_ev l h k hk]; simp [h]
 rw [if_neg (by omega)]; simp [h]
theorem ptsB_len {l : List Int} (h : ptsB l = true) : l.length ≤ 12 := by
 unfold ptsB at h; simp at h; exact h.1
theorem ptsB_word {l : List Int} (h : ptsB l = true) : wordB l = true := by
 unfold ptsB at h; simp only [Bool.and_eq_true] at h; exact h.2
def crB (a b c d : Int) : Bool := (decide (min a b < c) && decide (c < max a b)) != (decide (min a b < d) && decide (d < max a b))
theorem scross_val (a b c d : Int) : spec_peCross.f a b c d = some (crB a b c d) := by
 have between : ∀ x, spec_peBetween.f x a b = some (decide (min a b < x) && decide (x < max a b)) := by
  intro x; (have h1 : spec_l1Least.f a b = some (min a b) := by unfold spec_l1Least.f; split <;> congr 1 <;> omega); (have h2 : spec_l1Most.f a b = some (max a b) := by unfold spec_l1Most.f; split <;> congr 1 <;> omega); unfold spec_peBetween.f; rw [h1, h2]
  by_cases h : min a b < x
  ·simp only [Option.bind_some, if_pos h]; rw [decide_eq_true h, Bool.true_and]
  simp only [if_neg h, Option.bind_some]; rw [decide_eq_false h, Bool.false_and]
 unfold spec_peCross.f crB; rw [between, between]; rfl
theorem icross_val (a b c d : Int) : impl_cross.f a b c d = some (crB a b c d) := rfl
def c4 (l : List Int) (i j : Nat) : Bool := crB (l.getD i 0) (l.getD (i + 1) 0) (l.getD j 0) (l.getD (j + 1) 0)
def four (i j : Nat) : List Int := [(i : Int), ((i + 1 : Nat) : Int), (j : Int), ((j + 1 : Nat) : Int)]
/-- the first join ahead of join j that crosses it -/
def innerF (l : List Int) (j : Nat) : Nat → Nat → Option Nat
 | 0, _ => none
 | d + 1, i => if i < j then (if c4 l i j = true then some i else innerF l j d (i + 2)) else none
def outF (l : List Int) : Nat → Nat → List Int × Bool
 | 0, _ => ([], false)
 | e + 1, j => if j + 1 < l.length then (match innerF l j l.length (j % 2) with | some i => (four i j, true) | none => outF l e (j + 1)) else ([], false)
def crs (l : List Int) : List Int × Bool := outF l l.length 0
theorem outF_snd (l : List Int) (e : Nat) : ∀ j, (outF l e j).2 = !decide ((outF l e j).1 = []) := by
 induction e with
 | zero => intro j; rfl
 | succ e ih =>
  intro j; rw [outF]
  split
  ·split
   ·rfl
   exact ih _
  rfl
theorem tmod2 (j : Nat) : Int.tmod (j : Int) 2 = ((j % 2 : Nat) : Int) := by
 rw [Int.tmod_eq_emod_of_nonneg (by omega)]; omega
theorem sinner (l : List Int) (j K : Nat) (hl : l.length ≤ 12) (hj : j + 1 < l.length) (N : List Int × Bool) (next : ∀ k, K ≤ k → spec_peCrossing.l0 k l ((j + 1 : Nat) : Int) = some N) (d : Nat) :
  ∀ (i k : Nat), j ≤ i + 2 * d → i ≤ j + 1 → K + d + 1 ≤ k → spec_peCrossing.l1 k l (j : Int) (i : Int) = some (match innerF l j d i with | some i => (four i j, true) | none => N) := by
 induction d with
 | zero =>
  intro i k hi hi2 hk; obtain ⟨k, rfl⟩ : ∃ m, k = m + 1 := ⟨k - 1, by omega⟩; rw [spec_peCrossing.l1, if_neg (by omega), wrap_succ (by omega), next k (by omega)]; rfl
 | succ d ih =>
  intro i k hi hi2 hk; obtain ⟨k, rfl⟩ : ∃ m, k = m + 1 := ⟨k - 1, by omega⟩; rw [spec_peCrossing.l1, innerF, wrap_succ (i := i) (by omega), wrap_succ (i := j) (by omega)]
  by_cases h : i < j
  ·rw [if_pos (by omega), if_pos (by omega), if_pos (by omega), if_pos (by omega), if_pos (by omega), if_pos (by omega), if_pos (by omega), if_pos (by omega), if_pos (by omega), scross_val, Option.bind_some, rd_nat, rd_nat, rd_nat, rd_nat, if_pos h]; show (if c4 l i j = true then _ else _) = _
   by_cases hc : c4 l i j = true
   ·rw [if_pos hc, if_pos hc]; rfl
   rw [if_neg hc, if_neg hc, wrap_id (by omega) (by omega)]; exact ih (i + 2) k (by omega) (by omega) (by omega)
  rw [if_neg (by omega), if_neg h, next k (by omega)]
theorem scrossing (l : List Int) (hl : l.length ≤ 12) (e : Nat) : ∀ (j k : Nat), j + e = l.length → 20 * e + 1 ≤ k → spec_peCrossing.l0 k l (j : Int) = some (outF l e j) := by
 induction e with
 | zero =>
  intro j k hj hk; obtain ⟨k, rfl⟩ : ∃ m, k = m + 1 := ⟨k - 1, by omega⟩; rw [spec_peCrossing.l0, wrap_succ (by omega), if_neg (by omega)]; rfl
 | succ e ih =>
  intro j k hj hk; obtain ⟨k, rfl⟩ : ∃ m, k = m + 1 := ⟨k - 1, by omega⟩; rw [spec_peCrossing.l0, outF, wrap_succ (by omega)]
  by_cases h : j + 1 < l.length
  ·rw [if_pos (by omega), if_pos h, tmod2]; exact sinner l j (20 * e + 1) hl h (outF l e (j + 1)) (fun k hk => ih (j + 1) k (by omega) hk) l.length (j % 2) k (by omega) (by omega) (by omega)
  rw [if_neg (by omega), if_neg h]
theorem iinner (l : List Int) (j K : Nat) (hl : l.length ≤ 12) (hj : j + 1 < l.length) (N : List Int) (next : ∀ k, K ≤ k → impl_crossing.l0 k l (l.length : Int) ((j + 1 : Nat) : Int) = some N) (d : Nat) :
  ∀ (i k : Nat), j ≤ i + 2 * d → i ≤ j + 1 → K + 2 * d + 2 ≤ k → impl_crossing.l1 k l (j : Int) (i : Int) (l.length : Int) (j : Int) = some (match innerF l j d i with | some i => four i j | none => N) := by
 induction d with
 | zero =>
  intro i k hi hi2 hk; obtain ⟨k, rfl⟩ : ∃ m, k = m + 2 := ⟨k - 2, by omega⟩; rw [impl_crossing.l1, if_neg (by omega), impl_crossing.j2, if_neg (by simp), wrap_succ (by omega), next k (by omega)]; rfl
 | succ d ih =>
  intro i k hi hi2 hk; obtain ⟨k, rfl⟩ : ∃ m, k = m + 2 := ⟨k - 2, by omega⟩; have hd : decide (((j + 1 : Nat) : Int) < (l.length : Int)) = true := decide_eq_true (by omega); rw [impl_crossing.l1, innerF, impl_crossing.j2, impl_crossing.j2, wrap_succ (i := i) (by omega), wrap_succ (i := j) (by omega), hd]
  by_cases h : i < j
  ·rw [if_pos (by omega), if_pos rfl, if_pos (by omega), if_pos (by omega), if_pos (by omega), if_pos (by omega), if_pos (by omega), if_pos (by omega), if_pos (by omega), if_pos (by omega), icross_val, Option.bind_some, rd_nat, rd_nat, rd_nat, rd_nat, if_pos h]; show (if c4 l i j = true then _ else _) = _
   by_cases hc : c4 l i j = true
   ·rw [if_pos hc, if_pos hc]; rfl
   rw [if_neg hc, if_neg hc, wrap_id (by omega) (by omega)]; exact ih (i + 2) k (by omega) (by omega) (by omega)
  rw [if_neg (by omega), if_neg (by simp), if_neg h, next k (by omega)]
theorem icrossing (l : List Int) (hl : l.length ≤ 12) (e : Nat) : ∀ (j k : Nat), j + e = l.length → 40 * e + 1 ≤ k → impl_crossing.l0 k l (l.length : Int) (j : Int) = some (outF l e j).1 := by
 induction e with
 | zero =>
  intro j k hj hk; obtain ⟨k, rfl⟩ : ∃ m, k = m + 1 := ⟨k - 1, by omega⟩; rw [impl_crossing.l0, if_neg (by omega)]; rfl
 | succ e ih =>
  intro j k hj hk; obtain ⟨k, rfl⟩ : ∃ m, k = m + 1 := ⟨k - 1, by omega⟩; rw [impl_crossing.l0, outF, if_pos (by omega), tmod2]
  by_cases h : j + 1 < l.length
  ·rw [if_pos h, iinner l j (40 * e + 1) hl h (outF l e (j + 1)).1 (fun k hk => ih (j + 1) k (by omega) hk) l.length (j % 2) k (by omega) (by omega) (by omega)]
   congr 1
   split <;> rfl
  rw [if_neg h]; obtain ⟨k, rfl⟩ : ∃ m, k = m + 3 := ⟨k - 3, by omega⟩; have hd : decide (((j + 1 : Nat) : Int) < (l.length : Int)) = false := decide_eq_false (by omega); (obtain rfl : e = 0 := by omega); have hn := ih (j + 1) (k + 1) (by omega) (by omega)
  have hj2 : impl_crossing.j2 (k + 2) l (j : Int) ((j % 2 : Nat) : Int) (l.length : Int) (j : Int) false = some [] := by
   rw [impl_crossing.j2, if_neg (by simp), wrap_succ (i := j) (by omega), hn]; rfl
  rw [impl_crossing.l1, wrap_succ (i := j) (by omega), hd, hj2]
  split <;> rfl
theorem scrossing_ev (l : List Int) (hl : l.length ≤ 12) (k : Nat) (hk : 500 ≤ k) : spec_peCrossing.f k l = some (crs l) := by
 have := scrossing l hl l.length 0 k (by omega) (by omega); unfold spec_peCrossing.f crs; exact this
theorem icrossing_ev (l : List Int) (hl : l.length ≤ 12) (k : Nat) (hk : 500 ≤ k) : impl_crossing.f k l = some (crs l).1 := by
 have := icrossing l hl l.length 0 k (by omega) (by omega); unfold impl_crossing.f crs; exact this
theorem crs_snd (l : List Int) : (crs l).2 = !decide ((crs l).1 = []) := outF_snd _ _ _
def openB (l : List Int) : Bool := ptsB l && decide ((crs l).1 = [])
theorem peOpen_ev (l : List Int) (hl : l.length ≤ 1048576) (k : Nat) (hk : l.length + 500 ≤ k) : spec_peOpen.f k l = some (openB l) := by
 unfold spec_peOpen.f openB; rw [peWord_ev l hl k (by omega), Option.bind_some]
 cases hp : ptsB l with
 | false => rfl
 | true => rw [if_pos rfl, scrossing_ev l (ptsB_len hp) k (by omega), Option.bind_some, crs_snd]; simp
/-- does the last join, back to 0, cross none below -/
def clF (l : List Int) : Nat → Nat → Bool
 | 0, _ => true
 | d + 1, i => if i + 1 < l.length then (if crB (l.getD i 0) (l.getD (i + 1) 0) (l.getD (l.length - 1) 0) 0 = true then false else clF l d (i + 2)) else true
theorem sclosed_l0 (l : List Int) (hl : l.length ≤ 12) (d : Nat) : ∀ (i k : Nat), l.length ≤ i + 2 * d + 1 → i ≤ l.length + 1 → d < k →
  spec_peClosed.l0 k l (l.length : Int) (i : Int) = some (clF l d i) := by
 induction d with
 | zero =>
  intro i k h1 h2 hk; obtain ⟨k, rfl⟩ : ∃ m, k = m + 1 := ⟨k - 1, by omega⟩; rw [spec_peClosed.l0, wrap_succ (by omega), if_neg (by omega)]; rfl
 | succ d ih =>
  intro i k h1 h2 hk; obtain ⟨k, rfl⟩ : ∃ m, k = m + 1 := ⟨k - 1, by omega⟩; (have e : (1 ≤ l.length) → wrap64 ((l.length : Int) - 1) = ((l.length - 1 : Nat) : Int) := fun _ => by rw [wrap_id (by omega) (by omega)]; omega); rw [spec_peClosed.l0, clF, wrap_succ (by omega)]
  by_cases h : i + 1 < l.length
  ·rw [e (by omega), if_pos (by omega), if_pos (by omega), if_pos (by omega), if_pos (by omega), if_pos (by omega), if_pos (by omega), if_pos (by omega), scross_val, Option.bind_some, rd_nat, rd_nat, rd_nat, if_pos h]
   by_cases hc : crB (l.getD i 0) (l.getD (i + 1) 0) (l.getD (l.length - 1) 0) 0 = true
   ·rw [if_pos hc, if_pos hc]
   rw [if_neg hc, if_neg hc, wrap_id (by omega) (by omega)]; exact ih (i + 2) k (by omega) (by omega) (by omega)
  rw [if_neg (by omega), if_neg h]
theorem icloses_l0 (l : List Int) (hl : l.length ≤ 12) (d : Nat) : ∀ (i k : Nat), l.length ≤ i + 2 * d + 1 → i ≤ l.length + 1 → d < k →
  impl_closes.l0 k l (l.length : Int) (i : Int) = some (clF l d i) := by
 induction d with
 | zero =>
  intro i k h1 h2 hk; obtain ⟨k, rfl⟩ : ∃ m, k = m + 1 := ⟨k - 1, by omega⟩; rw [impl_closes.l0, wrap_succ (by omega), if_neg (by omega)]; rfl
 | succ d ih =>
  intro i k h1 h2 hk; obtain ⟨k, rfl⟩ : ∃ m, k = m + 1 := ⟨k - 1, by omega⟩; (have e : (1 ≤ l.length) → wrap64 ((l.length : Int) - 1) = ((l.length - 1 : Nat) : Int) := fun _ => by rw [wrap_id (by omega) (by omega)]; omega); rw [impl_closes.l0, clF, wrap_succ (by omega)]
  by_cases h : i + 1 < l.length
  ·rw [e (by omega), if_pos (by omega), if_pos (by omega), if_pos (by omega), if_pos (by omega), if_pos (by omega), if_pos (by omega), if_pos (by omega), icross_val, Option.bind_some, rd_nat, rd_nat, rd_nat, if_pos h]
   by_cases hc : crB (l.getD i 0) (l.getD (i + 1) 0) (l.getD (l.length - 1) 0) 0 = true
   ·rw [if_pos hc, if_pos hc]
   rw [if_neg hc, if_neg hc, wrap_id (by omega) (by omega)]; exact ih (i + 2) k (by omega) (by omega) (by omega)
  rw [if_neg (by omega), if_neg h]
def clB (l : List Int) : Bool := decide (2 ≤ l.length ∧ l.length % 2 = 0 ∧ l.getD 0 0 = 0) && clF l l.length 1
def closedB (l : List Int) : Bool := openB l && clB l
theorem bne_zero (x : Int) : (x != 0) = !decide (x = 0) := by
 by_cases h : x = 0 <;> simp [h]
theorem closes_ev (l : List Int) (hl : l.length ≤ 12) (k : Nat) (hk : 100 ≤ k) : impl_closes.f k l = some (clB l) := by
 obtain ⟨k, rfl⟩ : ∃ m, k = m + 1 := ⟨k - 1, by omega⟩; unfold impl_closes.f clB; have j1 : ∀ n, impl_closes.j0 (k + 1) l n true = some false := fun n => by rw [impl_closes.j0, if_pos rfl]
 by_cases h1 : l.length < 2
 ·rw [if_pos (by omega), j1]; simp [show ¬ 2 ≤ l.length by omega]
 rw [if_neg (by omega)]
 by_cases h2 : l.length % 2 = 0
 ·rw [if_pos (by omega), if_pos (by omega), impl_closes.j0, bne_zero]; have hz : rd l 0 = l.getD 0 0 := rd_nat l 0; rw [hz]; generalize l.getD 0 0 = z
  by_cases h3 : z = 0
  ·have := icloses_l0 l hl l.length 1 k (by omega) (by omega) (by omega); rw [if_neg (by simp [h3]), show (1 : Int) = ((1 : Nat) : Int) from rfl, this]; simp [h2, h3, show 2 ≤ l.length by omega]
  rw [if_pos (by simp [h3])]; simp [h3]
 rw [if_neg (by omega), j1]; simp [h2]
theorem isMeanderWord_ev (l : List Int) (k : Nat) (hk : 500 ≤ k) : impl_isMeanderWord.f k l = some (closedB l) := by
 unfold impl_isMeanderWord.f closedB openB; rw [isPoints_ev l k (by omega), Option.bind_some]
 cases hp : ptsB l with
 | false => rfl
 | true =>
  rw [if_pos rfl, icrossing_ev l (ptsB_len hp) k (by omega), Option.bind_some]
  by_cases h : (crs l).1 = []
  ·rw [if_pos h, closes_ev l (ptsB_len hp) k (by omega)]; simp [h]
  rw [if_neg h]; simp [h]
theorem peClosed_ev (l : List Int) (hl : l.length ≤ 1048576) (k : Nat) (hk : l.length + 600 ≤ k) : spec_peClosed.f k l = some (closedB l) := by
 obtain ⟨k, rfl⟩ : ∃ m, k = m + 1 := ⟨k - 1, by omega⟩; unfold spec_peClosed.f closedB clB; have j1 : ∀ n, spec_peClosed.j0 (k + 1) l n true = some false := fun n => by rw [spec_peClosed.j0, if_pos rfl]
 by_cases h1 : l.length < 2
 ·rw [if_pos (by omega), j1]; simp [show ¬ 2 ≤ l.length by omega]
 rw [if_neg (by omega)]
 by_cases h2 : l.length % 2 = 0
 ·rw [if_neg (by omega), peOpen_ev l hl (k + 1) (by omega), Option.bind_some]
  cases ho : openB l with
  | false => rw [if_neg (by simp), j1]; simp
  | true =>
   (have hp : ptsB l = true := by unfold openB at ho; simp only [Bool.and_eq_true] at ho; exact ho.1); have hl12 := ptsB_len hp; rw [if_pos rfl, if_pos (by omega), spec_peClosed.j0, bne_zero]; have hz : rd l 0 = l.getD 0 0 := rd_nat l 0; rw [hz]; generalize l.getD 0 0 = z
   by_cases h3 : z = 0
   ·have := sclosed_l0 l hl12 l.length 1 k (by omega) (by omega) (by omega); rw [if_neg (by simp [h3]), show (1 : Int) = ((1 : Nat) : Int) from rfl, this]; simp [h2, h3, show 2 ≤ l.length by omega]
   rw [if_pos (by simp [h3])]; simp [h3]
 rw [if_pos (by omega), j1]; simp [h2]
theorem closedB_pts {l : List Int} (h : closedB l = true) : ptsB l = true := by
 unfold closedB openB at h; simp only [Bool.and_eq_true] at h; exact h.1.1

end Go.Proofs.Ytldbkkfkgfacdaa.Pure
