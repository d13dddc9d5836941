/- Lists of whole numbers in order: how slices.Compare compares them, and the one sorted list of lists. -/
set_option linter.unusedVariables false
namespace Go.Proofs.YtjgkcknopnollaaGreat.SortL
/-- slices.Compare's answer. -/
def cmpL : List Int → List Int → Int
  | [], [] => 0
  | [], _ :: _ => -1
  | _ :: _, [] => 1
  | a :: as, b :: bs => if a < b then -1 else if b < a then 1 else cmpL as bs
theorem cmpL_self : ∀ a, cmpL a a = 0
  | [] => rfl
  | a :: as => by
    have h := cmpL_self as
    unfold cmpL
    rw [if_neg (by omega), if_neg (by omega)]; exact h
theorem cmpL_swap : ∀ a b, cmpL b a = - cmpL a b
  | [], [] => rfl
  | [], _ :: _ => rfl
  | _ :: _, [] => rfl
  | a :: as, b :: bs => by
    have h := cmpL_swap as bs
    unfold cmpL
    by_cases h1 : a < b
    · rw [if_pos h1, if_neg (by omega), if_pos h1]; rfl
    · by_cases h2 : b < a
      · rw [if_pos h2, if_neg h1, if_pos h2]
      · rw [if_neg h1, if_neg h2, if_neg h2, if_neg h1]; exact h
theorem cmpL_eq : ∀ a b, cmpL a b = 0 → a = b
  | [], [], _ => rfl
  | [], _ :: _, h => by simp [cmpL] at h
  | _ :: _, [], h => by simp [cmpL] at h
  | a :: as, b :: bs, h => by
    unfold cmpL at h
    by_cases h1 : a < b
    · rw [if_pos h1] at h; omega
    · by_cases h2 : b < a
      · rw [if_neg h1, if_pos h2] at h; omega
      · rw [if_neg h1, if_neg h2] at h
        rw [cmpL_eq as bs h, show a = b by omega]
theorem cmpL_trans : ∀ a b c, cmpL a b < 0 → cmpL b c < 0 → cmpL a c < 0
  | [], [], _, h, _ => by simp [cmpL] at h
  | [], _ :: _, [], _, h => by simp [cmpL] at h
  | [], _ :: _, _ :: _, _, _ => by simp [cmpL]
  | _ :: _, [], _, h, _ => by simp [cmpL] at h
  | _ :: _, _ :: _, [], _, h => by simp [cmpL] at h
  | a :: as, b :: bs, c :: cs, h, h' => by
    have ih := cmpL_trans as bs cs
    unfold cmpL at h h' ⊢
    by_cases h1 : a < b
    · by_cases h2 : b < c
      · rw [if_pos (by omega)]; omega
      · by_cases h3 : c < b
        · rw [if_neg h2, if_pos h3] at h'; omega
        · rw [if_pos (by omega)]; omega
    · by_cases h4 : b < a
      · rw [if_neg h1, if_pos h4] at h; omega
      · rw [if_neg h1, if_neg h4] at h
        by_cases h2 : b < c
        · rw [if_pos (by omega)]; omega
        · by_cases h3 : c < b
          · rw [if_neg h2, if_pos h3] at h'; omega
          · rw [if_neg h2, if_neg h3] at h'
            rw [if_neg (by omega), if_neg (by omega)]
            exact ih h h'
theorem cmpL_ntrans (a b c : List Int) (h : ¬ cmpL a b < 0) (h' : ¬ cmpL b c < 0) : ¬ cmpL a c < 0 := by
  intro hac
  by_cases e1 : cmpL a b = 0
  · rw [cmpL_eq a b e1] at hac; exact h' hac
  · by_cases e2 : cmpL b c = 0
    · rw [cmpL_eq b c e2] at h; exact h hac
    · have s1 := cmpL_swap a b
      have s2 := cmpL_swap b c
      have s3 := cmpL_swap a c
      have := cmpL_trans c b a (by omega) (by omega)
      omega
/-- in order: none is less than one before it -/
def Sorted (xs : List (List Int)) : Prop := xs.Pairwise (fun a b => ¬ cmpL b a < 0)
def insL (x : List Int) : List (List Int) → List (List Int)
  | [] => [x]
  | y :: ys => if cmpL y x < 0 then y :: insL x ys else x :: y :: ys
def sortL : List (List Int) → List (List Int)
  | [] => []
  | x :: xs => insL x (sortL xs)
theorem insL_perm (x : List Int) : ∀ ys, (insL x ys).Perm (x :: ys)
  | [] => .refl _
  | y :: ys => by
    unfold insL
    by_cases h : cmpL y x < 0
    · rw [if_pos h]; exact ((insL_perm x ys).cons y).trans (.swap x y ys)
    · rw [if_neg h]
theorem sortL_perm : ∀ xs, (sortL xs).Perm xs
  | [] => .refl _
  | x :: xs => (insL_perm x (sortL xs)).trans ((sortL_perm xs).cons x)
theorem sortL_length (xs : List (List Int)) : (sortL xs).length = xs.length := (sortL_perm xs).length_eq
theorem insL_sorted (x : List Int) : ∀ ys, Sorted ys → Sorted (insL x ys)
  | [], _ => by unfold insL Sorted; simp
  | y :: ys, h => by
    unfold Sorted at h
    rw [List.pairwise_cons] at h
    unfold insL
    by_cases hc : cmpL y x < 0
    · rw [if_pos hc]
      unfold Sorted
      rw [List.pairwise_cons]
      refine ⟨fun z hz => ?_, insL_sorted x ys h.2⟩
      rcases List.mem_cons.1 ((insL_perm x ys).mem_iff.1 hz) with rfl | hz
      · have := cmpL_swap y z; omega
      · exact h.1 z hz
    · rw [if_neg hc]
      unfold Sorted
      rw [List.pairwise_cons]
      refine ⟨fun z hz => ?_, List.pairwise_cons.2 h⟩
      rcases List.mem_cons.1 hz with rfl | hz
      · exact hc
      · exact cmpL_ntrans z y x (h.1 z hz) hc
theorem sortL_sorted : ∀ xs, Sorted (sortL xs)
  | [] => by unfold sortL Sorted; simp
  | x :: xs => insL_sorted x _ (sortL_sorted xs)
/-- two lists in order with the same elements are one -/
theorem sorted_eq : ∀ (xs ys : List (List Int)), xs.Perm ys → Sorted xs → Sorted ys → xs = ys
  | [], ys, hp, _, _ => (List.nil_perm.1 hp).symm
  | x :: xs, [], hp, _, _ => absurd hp.length_eq (by simp)
  | x :: xs, y :: ys, hp, hx, hy => by
    unfold Sorted at hx hy
    have hx' := List.pairwise_cons.1 hx
    have hy' := List.pairwise_cons.1 hy
    have e : x = y := by
      rcases List.mem_cons.1 (hp.mem_iff.1 (List.mem_cons_self (a := x) (l := xs))) with e | h1
      · exact e
      · rcases List.mem_cons.1 (hp.mem_iff.2 (List.mem_cons_self (a := y) (l := ys))) with e | h2
        · exact e.symm
        · have a1 := hy'.1 x h1
          have a2 := hx'.1 y h2
          have s := cmpL_swap x y
          exact cmpL_eq x y (by omega)
    subst e
    rw [sorted_eq xs ys (List.Perm.cons_inv hp) hx'.2 hy'.2]
theorem sortL_eq {xs ys : List (List Int)} (hp : ys.Perm xs) (hs : Sorted ys) : ys = sortL xs := sorted_eq _ _ (hp.trans (sortL_perm xs).symm) hs (sortL_sorted xs)
theorem sortL_of_sorted {xs : List (List Int)} (hs : Sorted xs) : sortL xs = xs := (sortL_eq (.refl _) hs).symm
theorem sortL_congr {xs ys : List (List Int)} (hp : xs.Perm ys) : sortL xs = sortL ys := sortL_eq ((sortL_perm xs).trans hp) (sortL_sorted xs)
end Go.Proofs.YtjgkcknopnollaaGreat.SortL
