/- Crossed arcs of a stack: the program's list of them and the reference's are one. -/
import Derived.Test.YtjgkcknopnollaaGreatPWordM
import Derived.Test.YtjgkcknopnollaaGreatQA2
set_option linter.unusedVariables false
set_option linter.unusedSimpArgs false
namespace Go.Proofs.YtjgkcknopnollaaGreat.Pure
open Go.RowKit Go.Proofs.YtjgkcknopnollaaGreat.D Go.Proofs.YtjgkcknopnollaaGreatW.PrintWords Go.Proofs.YtjgkcknopnollaaGreatW.PrintLast Go.Proofs.YtjgkcknopnollaaGreatW.PrintMore

def crB (a b c d : Int) : Bool := (decide (min a b < c) && decide (c < max a b)) != (decide (min a b < d) && decide (d < max a b))
theorem icross_val (a b c d : Int) : impl_cross.f a b c d = some (crB a b c d) := rfl
theorem crB_iff (a b c d : Int) (h1 : a ≠ c) (h2 : a ≠ d) (h3 : b ≠ c) (h4 : b ≠ d) :
    crB a b c d = decide ((min a b < min c d ∧ min c d < max a b ∧ max a b < max c d) ∨ (min c d < min a b ∧ min a b < max c d ∧ max c d < max a b)) := by
  have e : ∀ x, (decide (min a b < x) && decide (x < max a b)) = decide (min a b < x ∧ x < max a b) := fun x => (Bool.decide_and _ _).symm
  unfold crB
  rw [e, e]
  by_cases g1 : min a b < c ∧ c < max a b
  · by_cases g2 : min a b < d ∧ d < max a b
    · rw [decide_eq_true g1, decide_eq_true g2]; symm; rw [bne_self_eq_false, decide_eq_false_iff_not]; omega
    · rw [decide_eq_true g1, decide_eq_false g2]; symm
      show decide _ = true
      rw [decide_eq_true_eq]; omega
  · by_cases g2 : min a b < d ∧ d < max a b
    · rw [decide_eq_false g1, decide_eq_true g2]; symm
      show decide _ = true
      rw [decide_eq_true_eq]; omega
    · rw [decide_eq_false g1, decide_eq_false g2]; symm; rw [bne_self_eq_false, decide_eq_false_iff_not]; omega
theorem least_val (a b : Int) : spec_l1Least.f a b = some (min a b) := by unfold spec_l1Least.f; split <;> congr 1 <;> omega
theorem most_val (a b : Int) : spec_l1Most.f a b = some (max a b) := by unfold spec_l1Most.f; split <;> congr 1 <;> omega
theorem nest (m m' M M' : Int) : (if m < m' then (if m' < M then (if M < M' then (some true) else (if m' < m then (if m < M' then (some (decide (M' < M))) else (some false)) else (some false))) else (if m' < m then (if m < M' then (some (decide (M' < M))) else (some false)) else (some false))) else (if m' < m then (if m < M' then (some (decide (M' < M))) else (some false)) else (some false)))
    = some (decide ((m < m' ∧ m' < M ∧ M < M') ∨ (m' < m ∧ m < M' ∧ M' < M))) := by
  by_cases h1 : m < m' <;> by_cases h2 : m' < M <;> by_cases h3 : M < M' <;> by_cases h4 : m' < m <;> by_cases h5 : m < M' <;> by_cases h6 : M' < M <;> simp [h1, h2, h3, h4, h5, h6]
/-- do the joints at two stamps cross -/
def xc (P : List Int) (i j : Nat) : Bool := crB (P.getD i 0) (P.getD (i + 1) 0) (P.getD j 0) (P.getD (j + 1) 0)
def apart (P : List Int) : Prop := ∀ x y, x < P.length → y < P.length → x ≠ y → P.getD x 0 ≠ P.getD y 0
theorem spcross_odd (P : List Int) (i j : Nat) (hij : i < j) (hj : j ≤ 1000) (h : (j - i) % 2 = 1) : spec_spCross.f P (i : Int) (j : Int) = some false := by
  unfold spec_spCross.f
  have e : wrap64 ((j : Int) - (i : Int)) = ((j - i : Nat) : Int) := by rw [wrap_id (by omega) (by omega)]; omega
  have t : Int.tmod ((j - i : Nat) : Int) 2 = 1 := by rw [Int.tmod_eq_emod_of_nonneg (by omega)]; omega
  rw [e, if_pos t]
theorem spcross_even (P : List Int) (hP : apart P) (i j : Nat) (hij : i + 2 ≤ j) (hj : j + 1 < P.length) (hl : P.length ≤ 1000) (h : (j - i) % 2 = 0) : spec_spCross.f P (i : Int) (j : Int) = some (xc P i j) := by
  unfold spec_spCross.f
  have e : wrap64 ((j : Int) - (i : Int)) = ((j - i : Nat) : Int) := by rw [wrap_id (by omega) (by omega)]; omega
  have t : ¬ Int.tmod ((j - i : Nat) : Int) 2 = 1 := by rw [Int.tmod_eq_emod_of_nonneg (by omega)]; omega
  rw [e, if_neg t, wrap_succ (i := i) (by omega), wrap_succ (i := j) (by omega), if_pos (by omega), if_pos (by omega), if_pos (by omega), if_pos (by omega), least_val, most_val, Option.bind_some, Option.bind_some,
    if_pos (by omega), if_pos (by omega), if_pos (by omega), if_pos (by omega), least_val, most_val, Option.bind_some, Option.bind_some, nest, rd_nat, rd_nat, rd_nat, rd_nat]
  unfold xc
  rw [crB_iff _ _ _ _ (hP i j (by omega) (by omega) (by omega)) (hP i (j + 1) (by omega) (by omega) (by omega)) (hP (i + 1) j (by omega) (by omega) (by omega)) (hP (i + 1) (j + 1) (by omega) (by omega) (by omega))]
/-- the joints behind that one crosses -/
def arcs (P : List Int) (n i : Nat) : Nat → Nat → List (List Int)
  | 0, _ => []
  | d + 1, j => if j + 1 < n then (if xc P i j = true then [[(i : Int), (j : Int)]] else []) ++ arcs P n i d (j + 2) else []
def allArcs (P : List Int) (n : Nat) : Nat → Nat → List (List Int)
  | 0, _ => []
  | e + 1, i => if i + 1 < n then arcs P n i n (i + 2) ++ allArcs P n e (i + 1) else []
theorem arcs_len (P : List Int) (n i : Nat) (d : Nat) : ∀ j, (arcs P n i d j).length ≤ d := by
  induction d with
  | zero => intro j; simp [arcs]
  | succ d ih =>
    intro j
    have := ih (j + 2)
    rw [arcs]
    split
    · rw [List.length_append]
      split <;> simp <;> omega
    · simp
theorem allArcs_len (P : List Int) (n : Nat) (e : Nat) : ∀ i, (allArcs P n e i).length ≤ n * e := by
  induction e with
  | zero => intro i; simp [allArcs]
  | succ e ih =>
    intro i
    rw [allArcs, Nat.mul_succ]
    split
    · have h1 := ih (i + 1)
      have h2 := arcs_len P n i n (i + 2)
      rw [List.length_append]; omega
    · simp
theorem sarc_l1 (l P : List Int) (hP : apart P) (hl : l.length ≤ 12) (hPl : P.length = l.length) (i K : Nat) (R : List (List Int))
    (next : ∀ k acc, K ≤ k → acc.length ≤ 600 + 20 * (i + 1) → spec_spCrossed.l0 k l P acc ((i + 1 : Nat) : Int) = some (acc ++ R)) (d : Nat) :
    ∀ (j k : Nat) (acc : List (List Int)), i + 2 ≤ j → (j - i) % 2 = 0 → l.length ≤ j + 2 * d + 1 → j ≤ 1000 → K + 2 * d + 2 ≤ k → acc.length + d ≤ 600 + 20 * (i + 1) →
      spec_spCrossed.l1 k l P acc (i : Int) (j : Int) = some (acc ++ arcs P l.length i d j ++ R) := by
  induction d with
  | zero =>
    intro j k acc h1 h2 h3 h4 hk ha
    obtain ⟨k, rfl⟩ : ∃ m, k = m + 1 := ⟨k - 1, by omega⟩
    rw [spec_spCrossed.l1, wrap_succ (i := j) (by omega), if_neg (by omega), wrap_succ (by omega), next k acc (by omega) (by omega)]
    simp [arcs]
  | succ d ih =>
    intro j k acc h1 h2 h3 h4 hk ha
    obtain ⟨k, rfl⟩ : ∃ m, k = m + 2 := ⟨k - 2, by omega⟩
    rw [spec_spCrossed.l1, wrap_succ (i := j) (by omega), arcs]
    by_cases hj : j + 1 < l.length
    · rw [if_pos (by omega), if_pos hj, spcross_even P hP i j h1 (by omega) (by omega) h2, Option.bind_some]
      have odd : ∀ acc : List (List Int), acc.length + d ≤ 600 + 20 * (i + 1) → spec_spCrossed.l1 (k + 1) l P acc (i : Int) ((j + 1 : Nat) : Int) = some (acc ++ arcs P l.length i d (j + 2) ++ R) := by
        intro acc ha
        rw [spec_spCrossed.l1, wrap_succ (i := j + 1) (by omega)]
        by_cases hj2 : j + 2 < l.length
        · rw [if_pos (by omega), spcross_odd P i (j + 1) (by omega) (by omega) (by omega), Option.bind_some, if_neg (by simp)]
          exact ih (j + 2) k acc (by omega) (by omega) (by omega) (by omega) (by omega) ha
        · rw [if_neg (by omega), wrap_succ (by omega), next k acc (by omega) (by omega)]
          have : arcs P l.length i d (j + 2) = [] := by cases d with | zero => rfl | succ d => rw [arcs, if_neg (by omega)]
          rw [this, List.append_nil]
      by_cases hc : xc P i j = true
      · rw [if_pos hc, if_pos hc, if_pos (by omega), odd _ (by simp; omega)]
        simp
      · rw [if_neg hc, if_neg hc, odd _ (by omega)]
        simp
    · rw [if_neg (by omega), if_neg hj, wrap_succ (by omega), next (k + 1) acc (by omega) (by omega)]
      simp
theorem sarc_l0 (l P : List Int) (hP : apart P) (hl : l.length ≤ 12) (hPl : P.length = l.length) (e : Nat) : ∀ (i k : Nat) (acc : List (List Int)), i + e = l.length → 40 * e + 1 ≤ k → acc.length ≤ 600 + 20 * i →
    spec_spCrossed.l0 k l P acc (i : Int) = some (acc ++ allArcs P l.length e i) := by
  induction e with
  | zero =>
    intro i k acc hi hk ha
    obtain ⟨k, rfl⟩ : ∃ m, k = m + 1 := ⟨k - 1, by omega⟩
    rw [spec_spCrossed.l0, wrap_succ (by omega), if_neg (by omega)]
    simp [allArcs]
  | succ e ih =>
    intro i k acc hi hk ha
    obtain ⟨k, rfl⟩ : ∃ m, k = m + 1 := ⟨k - 1, by omega⟩
    rw [spec_spCrossed.l0, wrap_succ (by omega), allArcs]
    by_cases h : i + 1 < l.length
    · rw [if_pos (by omega), if_pos h]
      obtain ⟨k, rfl⟩ : ∃ m, k = m + 1 := ⟨k - 1, by omega⟩
      rw [spec_spCrossed.l1, wrap_succ (i := i + 1) (by omega)]
      by_cases h2 : i + 2 < l.length
      · rw [if_pos (by omega), spcross_odd P i (i + 1) (by omega) (by omega) (by omega), Option.bind_some, if_neg (by simp)]
        have := sarc_l1 l P hP hl hPl i (40 * e + 1) (allArcs P l.length e (i + 1)) (fun k acc hk ha => ih (i + 1) k acc (by omega) hk ha) l.length (i + 2) k acc (by omega) (by omega) (by omega) (by omega) (by omega) (by omega)
        rw [this, List.append_assoc]
      · rw [if_neg (by omega), wrap_succ (by omega), ih (i + 1) k acc (by omega) (by omega) (by omega)]
        have : arcs P l.length i l.length (i + 2) = [] := by
          obtain ⟨d, hd⟩ : ∃ d, l.length = d + 1 := ⟨l.length - 1, by omega⟩
          rw [hd, arcs, if_neg (by omega)]
        rw [this, List.nil_append]
    · rw [if_neg (by omega), if_neg h]; simp
theorem iarc_l1 (l P : List Int) (hl : l.length ≤ 12) (h0 : 1 ≤ l.length) (hPl : P.length = l.length) (i K : Nat) (R : List (List Int))
    (next : ∀ k acc, K ≤ k → acc.length ≤ 600 + 20 * (i + 1) → impl_crossedArcs.l0 k l P acc ((l.length - 1 : Nat) : Int) ((i + 1 : Nat) : Int) = some (acc ++ R)) (d : Nat) :
    ∀ (j k : Nat) (acc : List (List Int)), i + 2 ≤ j → l.length ≤ j + 2 * d + 1 → j ≤ 1000 → K + d + 1 ≤ k → acc.length + d ≤ 600 + 20 * (i + 1) →
      impl_crossedArcs.l1 k l P acc (i : Int) (j : Int) ((l.length - 1 : Nat) : Int) (i : Int) = some (acc ++ arcs P l.length i d j ++ R) := by
  have e1 : wrap64 ((l.length : Int) - 1) = ((l.length - 1 : Nat) : Int) := by rw [wrap_id (by omega) (by omega)]; omega
  induction d with
  | zero =>
    intro j k acc h1 h3 h4 hk ha
    obtain ⟨k, rfl⟩ : ∃ m, k = m + 1 := ⟨k - 1, by omega⟩
    rw [impl_crossedArcs.l1, e1, if_neg (by omega), wrap_succ (by omega), next k acc (by omega) (by omega)]
    simp [arcs]
  | succ d ih =>
    intro j k acc h1 h3 h4 hk ha
    obtain ⟨k, rfl⟩ : ∃ m, k = m + 1 := ⟨k - 1, by omega⟩
    rw [impl_crossedArcs.l1, e1, arcs]
    by_cases hj : j + 1 < l.length
    · rw [wrap_succ (i := i) (by omega), wrap_succ (i := j) (by omega), if_pos (by omega), if_pos (by omega), if_pos (by omega), if_pos (by omega), if_pos (by omega), if_pos (by omega), if_pos (by omega), if_pos (by omega), if_pos (by omega), if_pos hj, icross_val, Option.bind_some, rd_nat, rd_nat, rd_nat, rd_nat, wrap_id (x := (j : Int) + 2) (by omega) (by omega), show (j : Int) + 2 = ((j + 2 : Nat) : Int) by omega]
      show (if xc P i j = true then _ else _) = _
      by_cases hc : xc P i j = true
      · rw [if_pos hc, if_pos hc, if_pos (by omega), ih (j + 2) k _ (by omega) (by omega) (by omega) (by omega) (by simp; omega)]
        simp
      · rw [if_neg hc, if_neg hc, ih (j + 2) k _ (by omega) (by omega) (by omega) (by omega) (by omega)]
        simp
    · rw [if_neg (by omega), if_neg hj, wrap_succ (by omega), next k acc (by omega) (by omega)]
      simp
theorem iarc_l0 (l P : List Int) (hl : l.length ≤ 12) (h0 : 1 ≤ l.length) (hPl : P.length = l.length) (e : Nat) : ∀ (i k : Nat) (acc : List (List Int)), i + e = l.length → 40 * e + 1 ≤ k → acc.length ≤ 600 + 20 * i →
    impl_crossedArcs.l0 k l P acc ((l.length - 1 : Nat) : Int) (i : Int) = some (acc ++ allArcs P l.length e i) := by
  induction e with
  | zero =>
    intro i k acc hi hk ha
    obtain ⟨k, rfl⟩ : ∃ m, k = m + 1 := ⟨k - 1, by omega⟩
    rw [impl_crossedArcs.l0, if_neg (by omega)]
    simp [allArcs]
  | succ e ih =>
    intro i k acc hi hk ha
    obtain ⟨k, rfl⟩ : ∃ m, k = m + 1 := ⟨k - 1, by omega⟩
    rw [impl_crossedArcs.l0, allArcs]
    by_cases h : i + 1 < l.length
    · rw [if_pos (by omega), if_pos h, wrap_id (x := (i : Int) + 2) (by omega) (by omega), show (i : Int) + 2 = ((i + 2 : Nat) : Int) by omega]
      have := iarc_l1 l P hl h0 hPl i (40 * e + 1) (allArcs P l.length e (i + 1)) (fun k acc hk ha => ih (i + 1) k acc (by omega) hk ha) l.length (i + 2) k acc (by omega) (by omega) (by omega) (by omega) (by omega)
      rw [this, List.append_assoc]
    · rw [if_neg (by omega), if_neg h]; simp
/-- the places of all numbers -/
theorem places (l : List Int) (hl : l.length ≤ 12) (hw : wordB l = true) (d : Nat) : ∀ (i : Nat) (x : List Int), i + d = l.length → x.length = l.length →
    (∀ j, j < i → x.getD (l.getD j 0).toNat 0 = (j : Int)) → ∃ r, r.length = l.length ∧ (∀ j, j < l.length → r.getD (l.getD j 0).toNat 0 = (j : Int)) ∧
    ∀ k, d < k → spec_spPlaces.l0 k x l (l.length : Int) (i : Int) = some r ∧ impl_inverse.l0 k x l (l.length : Int) (i : Int) = some r := by
  have hdis : ∀ i j, i < l.length → j < l.length → i ≠ j → l.getD i 0 ≠ l.getD j 0 := by
    unfold wordB at hw
    simp only [Bool.and_eq_true, decide_eq_true_eq] at hw
    have h2 := List.pairwise_iff_getElem.1 hw.2
    intro i j hi hj hij
    rw [getD_get l i hi, getD_get l j hj]
    by_cases h : i < j
    · exact h2 i j hi hj h
    · exact Ne.symm (h2 j i hj hi (by omega))
  induction d with
  | zero =>
    intro i x hi hx hp
    refine ⟨x, hx, fun j hj => hp j (by omega), fun k hk => ?_⟩
    obtain ⟨k, rfl⟩ : ∃ m, k = m + 1 := ⟨k - 1, by omega⟩
    rw [spec_spPlaces.l0, impl_inverse.l0, if_neg (by omega), if_neg (by omega)]
    exact ⟨rfl, rfl⟩
  | succ d ih =>
    intro i x hi hx hp
    have hr := wordB_in hw i (by omega)
    have hri : rd l (i : Int) = l.getD i 0 := rd_nat l i
    obtain ⟨r, h1, h2, h3⟩ := ih (i + 1) (x.set (rd l (i : Int)).toNat (i : Int)) (by omega) (by simpa using hx) (fun j hj => by
      have hrj := wordB_in hw j (by omega)
      rw [show rd l (j : Int) = l.getD j 0 from rd_nat l j] at hrj
      rw [hri] at hr ⊢
      by_cases e : j = i
      · subst e
        rw [List.getD_eq_getElem?_getD, List.getElem?_set_self (by omega)]; rfl
      · have := hdis j i (by omega) (by omega) e
        rw [List.getD_eq_getElem?_getD, List.getElem?_set_ne (by omega), ← List.getD_eq_getElem?_getD]
        exact hp j (by omega))
    refine ⟨r, h1, h2, fun k hk => ?_⟩
    obtain ⟨k, rfl⟩ : ∃ m, k = m + 1 := ⟨k - 1, by omega⟩
    have c1 : (i : Int) < (l.length : Int) := by omega
    have c2 : (0 : Int) ≤ (i : Int) := by omega
    have c3 : 0 ≤ rd l (i : Int) := hr.1
    have c4 : rd l (i : Int) < (x.length : Int) := by omega
    rw [spec_spPlaces.l0, impl_inverse.l0]
    simp only [c1, c2, c3, c4, if_true]
    rw [wrap_succ (by omega)]
    exact h3 k (by omega)
theorem php (n : Nat) : ∀ l : List Int, l.Nodup → (∀ x ∈ l, 0 ≤ x ∧ x < (n : Int)) → l.length ≤ n := by
  induction n with
  | zero =>
    intro l _ h
    cases l with
    | nil => exact Nat.le_refl _
    | cons x t => have := h x (List.mem_cons_self ..); omega
  | succ n ih =>
    intro l hn h
    by_cases hm : (n : Int) ∈ l
    · have h1 := ih (l.erase (n : Int)) (hn.erase _) (fun x hx => by
        have h2 := (hn.mem_erase_iff).1 hx
        have h3 := h x h2.2
        have h4 := h2.1
        omega)
      rw [List.length_erase_of_mem hm] at h1
      omega
    · have h1 := ih l hn (fun x hx => by
        have h3 := h x hx
        have h4 : x ≠ (n : Int) := fun e => hm (e ▸ hx)
        omega)
      omega
theorem word_all (l : List Int) (hl : l.length ≤ 12) (hw : wordB l = true) (x : Nat) (hx : x < l.length) : ∃ i, i < l.length ∧ l.getD i 0 = (x : Int) := by
  have hm : (x : Int) ∈ l := by
    refine Classical.byContradiction fun hm => ?_
    unfold wordB inR at hw
    rw [Bool.and_eq_true] at hw
    have hn : ((x : Int) :: l).Nodup := List.nodup_cons.2 ⟨hm, of_decide_eq_true hw.2⟩
    have := php l.length _ hn (fun y hy => by
      rcases List.mem_cons.1 hy with rfl | hy
      · omega
      · have := of_decide_eq_true (List.all_eq_true.1 hw.1 y hy); omega)
    rw [List.length_cons] at this
    omega
  obtain ⟨i, hi, e⟩ := List.getElem_of_mem hm
  exact ⟨i, hi, by rw [getD_get l i hi]; exact e⟩
theorem places_ev (l : List Int) (hl : l.length ≤ 12) (hw : wordB l = true) : ∃ P, P.length = l.length ∧ apart P ∧ ∀ k, l.length < k → spec_spPlaces.f k l = some P ∧ impl_inverse.f k l = some P := by
  obtain ⟨P, h1, h2, h3⟩ := places l hl hw l.length 0 (List.replicate l.length 0) (by omega) (by simp) (fun j hj => by omega)
  refine ⟨P, h1, fun x y hx hy hxy e => ?_, fun k hk => ?_⟩
  · obtain ⟨i, hi, e1⟩ := word_all l hl hw x (by omega)
    obtain ⟨j, hj, e2⟩ := word_all l hl hw y (by omega)
    have g1 := h2 i hi
    have g2 := h2 j hj
    rw [e1, Int.toNat_natCast] at g1
    rw [e2, Int.toNat_natCast] at g2
    rw [g1, g2] at e
    have : i = j := by omega
    subst this
    rw [e1] at e2
    omega
  · obtain ⟨h4, h5⟩ := h3 k hk
    rw [Int.natCast_zero] at h4 h5
    unfold spec_spPlaces.f impl_inverse.f
    rw [if_pos (by omega), if_pos (by omega), if_pos (by omega), if_pos (by omega), Int.toNat_natCast, h4, h5]
    exact ⟨rfl, rfl⟩
/-- both lists of crossed arcs -/
theorem crossed_ev (l : List Int) (hl : 1 ≤ l.length ∧ l.length ≤ 8) (hw : wordB l = true) : ∃ R : List (List Int), R.length ≤ 64 ∧ (∀ x ∈ R, x.length = 2) ∧ ∀ k, 700 ≤ k → spec_spCrossed.f k l = some R ∧ impl_crossedArcs.f k l = some R := by
  obtain ⟨P, h1, h2, h3⟩ := places_ev l (by omega) hw
  have two_arcs : ∀ i d j, ∀ x ∈ arcs P l.length i d j, x.length = 2 := by
    intro i d
    induction d with
    | zero => intro j x hx; simp [arcs] at hx
    | succ d ih =>
      intro j x hx
      rw [arcs] at hx
      split at hx
      · rcases List.mem_append.1 hx with h | h
        · split at h
          · simp at h; rw [h]; rfl
          · simp at h
        · exact ih _ x h
      · simp at hx
  have two : ∀ e i, ∀ x ∈ allArcs P l.length e i, x.length = 2 := by
    intro e
    induction e with
    | zero => intro i x hx; simp [allArcs] at hx
    | succ e ih =>
      intro i x hx
      rw [allArcs] at hx
      split at hx
      · rcases List.mem_append.1 hx with h | h
        · exact two_arcs _ _ _ x h
        · exact ih _ x h
      · simp at hx
  refine ⟨allArcs P l.length l.length 0, ?_, two _ _, fun k hk => ?_⟩
  · have h4 := allArcs_len P l.length l.length 0
    have h5 : l.length * l.length ≤ 8 * 8 := Nat.mul_le_mul hl.2 hl.2
    omega
  · obtain ⟨h4, h5⟩ := h3 k (by omega)
    have s := sarc_l0 l P h2 (by omega) h1 l.length 0 k [] (by omega) (by omega) (by simp)
    have i := iarc_l0 l P (by omega) (by omega) h1 l.length 0 k [] (by omega) (by omega) (by simp)
    rw [Int.natCast_zero, List.nil_append] at s i
    unfold spec_spCrossed.f impl_crossedArcs.f
    rw [h4, h5, Option.bind_some, Option.bind_some, wrap_id (by omega) (by omega), show (l.length : Int) - 1 = ((l.length - 1 : Nat) : Int) by omega, s, i]
    exact ⟨rfl, rfl⟩

end Go.Proofs.YtjgkcknopnollaaGreat.Pure
