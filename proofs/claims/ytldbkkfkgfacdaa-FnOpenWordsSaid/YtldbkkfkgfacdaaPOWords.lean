/- Open words: what their functions answer; a word turned round, mirrored or inverted; the first crossing's place; the list of open words is in order. -/
import Derived.Test.YtldbkkfkgfacdaaPDrawW
import Derived.Test.YtldbkkfkgfacdaaPJoins
import Derived.Test.YtldbkkfkgfacdaaPRev
import Derived.Test.YtldbkkfkgfacdaaQD0
set_option linter.unusedVariables false
set_option linter.unusedSimpArgs false
namespace Go.Proofs.Ytldbkkfkgfacdaa.Pure
open Go.RowKit Go.Proofs.Ytldbkkfkgfacdaa.P Go.Proofs.YtldbkkfkgfacdaaW.PrintWords Go.Proofs.YtldbkkfkgfacdaaW.PrintLast Go.Proofs.YtldbkkfkgfacdaaW.PrintMore

theorem clone_val (l : List Int) (h : l.length ≤ 1000) : slices_Clone_int_int.f l = some l := by
  unfold slices_Clone_int_int.f
  rw [if_pos (by omega)]
theorem isOpen_ans (l : List Int) (k : Nat) (hk : 1000 ≤ k) : impl_IsOpenPermutation.f k l = some (openB l, decide (l.length ≤ 12)) := by
  unfold impl_IsOpenPermutation.f openB
  rw [isPoints_ev l k (by omega), Option.bind_some]
  cases hp : ptsB l with
  | false => simp; omega
  | true =>
    rw [if_pos rfl, icrossing_ev l (ptsB_len hp) k (by omega), Option.bind_some, Bool.true_and]
    have h12 := ptsB_len hp
    rw [nil_beq, decide_eq_true h12, decide_eq_true (by omega : (l.length : Int) ≤ 12)]
theorem sSame_l0 (l : List Int) (hl : l.length ≤ 1048576) (d : Nat) : ∀ (k i : Nat), i + d = l.length → d < k → laws_sSame.l0 k l l (l.length : Int) (i : Int) = some true := by
  induction d with
  | zero =>
    intro k i hi hk
    obtain ⟨k, rfl⟩ : ∃ m, k = m + 1 := ⟨k - 1, by omega⟩
    rw [laws_sSame.l0, if_neg (by omega)]
  | succ d ih =>
    intro k i hi hk
    obtain ⟨k, rfl⟩ : ∃ m, k = m + 1 := ⟨k - 1, by omega⟩
    rw [laws_sSame.l0, if_pos (by omega), if_pos (by omega), if_pos (by omega), if_pos (by omega), if_pos rfl, wrap_succ (by omega)]
    exact ih k (i + 1) (by omega) (by omega)
theorem sSame_ev (l : List Int) (hl : l.length ≤ 1000) (k : Nat) (hk : 1100 ≤ k) : laws_sSame.f k l l = some true := by
  unfold laws_sSame.f
  rw [if_pos rfl]
  exact sSame_l0 l (by omega) l.length k 0 (by omega) (by omega)
theorem big_ans (l0 l1 : List Int) (h0 : l0.length ≤ maxLen) (h1 : l1.length ≤ maxLen) : laws_big.f l0 l1 = some (!decide (l0.length + l1.length ≤ 1048576)) := by
  unfold maxLen at h0 h1
  unfold laws_big.f
  by_cases hb : (l0.length : Int) > 1048576
  · rw [if_pos hb, decide_eq_false (by omega)]; rfl
  · rw [if_neg hb, wrap_id (by omega) (by omega)]
    congr 1
    rw [← decide_not, decide_eq_decide]; omega
theorem wordB_iff (l : List Int) : wordB l = true ↔ (∀ i, i < l.length → 0 ≤ l.getD i 0 ∧ l.getD i 0 ≤ (l.length : Int) - 1) ∧ ∀ i j, i < l.length → j < l.length → i ≠ j → l.getD i 0 ≠ l.getD j 0 := by
  unfold wordB inR
  rw [Bool.and_eq_true, List.all_eq_true, decide_eq_true_eq, List.pairwise_iff_getElem]
  constructor
  · rintro ⟨h1, h2⟩
    refine ⟨fun i hi => ?_, fun i j hi hj hij => ?_⟩
    · rw [getD_get l i hi]; exact of_decide_eq_true (h1 _ (List.getElem_mem hi))
    · rw [getD_get l i hi, getD_get l j hj]
      rcases Nat.lt_or_ge i j with h | h
      · exact h2 i j hi hj h
      · exact fun e => h2 j i hj hi (by omega) e.symm
  · rintro ⟨h1, h2⟩
    refine ⟨fun x hx => ?_, fun i j hi hj hij => ?_⟩
    · obtain ⟨n, hn, rfl⟩ := List.getElem_of_mem hx
      have := h1 n hn
      rw [getD_get l n hn] at this
      exact decide_eq_true this
    · have := h2 i j hi hj (by omega)
      rw [getD_get l i hi, getD_get l j hj] at this
      exact this
theorem crB_iff (a b c d : Int) (h1 : a ≠ c) (h2 : a ≠ d) (h3 : b ≠ c) (h4 : b ≠ d) :
    crB a b c d = decide ((min a b < min c d ∧ min c d < max a b ∧ max a b < max c d) ∨ (min c d < min a b ∧ min a b < max c d ∧ max c d < max a b)) := by
  have e : ∀ x, (decide (min a b < x) && decide (x < max a b)) = decide (min a b < x ∧ x < max a b) := fun x => (Bool.decide_and _ _).symm
  unfold crB
  rw [e, e]
  by_cases g1 : min a b < c ∧ c < max a b
  · by_cases g2 : min a b < d ∧ d < max a b
    · rw [decide_eq_true g1, decide_eq_true g2]; symm; rw [bne_self_eq_false, decide_eq_false_iff_not]; omega
    · rw [decide_eq_true g1, decide_eq_false g2]; symm
      show decide _ = true
      rw [decide_eq_true_eq]; omega
  · by_cases g2 : min a b < d ∧ d < max a b
    · rw [decide_eq_false g1, decide_eq_true g2]; symm
      show decide _ = true
      rw [decide_eq_true_eq]; omega
    · rw [decide_eq_false g1, decide_eq_false g2]; symm; rw [bne_self_eq_false, decide_eq_false_iff_not]; omega
theorem crB_below (n a b c d : Int) (h1 : a ≠ c) (h2 : a ≠ d) (h3 : b ≠ c) (h4 : b ≠ d) : crB (n - a) (n - b) (n - c) (n - d) = crB a b c d := by
  rw [crB_iff a b c d h1 h2 h3 h4, crB_iff _ _ _ _ (by omega) (by omega) (by omega) (by omega)]
  congr 1
  apply propext
  omega
theorem rev_getD (l : List Int) (i : Nat) (hi : i < l.length) : l.reverse.getD i 0 = l.getD (l.length - 1 - i) 0 := by
  rw [getD_get _ _ (by simpa using hi), getD_get _ _ (by omega), List.getElem_reverse]
theorem rev_isword {l : List Int} (hw : wordB l = true) : wordB l.reverse = true := by
  obtain ⟨h1, h2⟩ := (wordB_iff l).1 hw
  refine (wordB_iff _).2 ⟨fun i hi => ?_, fun i j hi hj hij => ?_⟩
  · rw [List.length_reverse] at hi ⊢
    rw [rev_getD l i hi]; exact h1 _ (by omega)
  · rw [List.length_reverse] at hi hj
    rw [rev_getD l i hi, rev_getD l j hj]; exact h2 _ _ (by omega) (by omega) (by omega)
def numb (l : List Int) : List Int := l.map fun x => (l.length : Int) - 1 - x
theorem numb_len (l : List Int) : (numb l).length = l.length := by simp [numb]
theorem numb_getD (l : List Int) (i : Nat) (hi : i < l.length) : (numb l).getD i 0 = (l.length : Int) - 1 - l.getD i 0 := by
  rw [getD_get _ _ (by rw [numb_len]; exact hi), getD_get _ _ hi]; simp [numb]
theorem numb_isword {l : List Int} (hw : wordB l = true) : wordB (numb l) = true := by
  obtain ⟨h1, h2⟩ := (wordB_iff l).1 hw
  refine (wordB_iff _).2 ⟨fun i hi => ?_, fun i j hi hj hij => ?_⟩
  · rw [numb_len] at hi ⊢
    rw [numb_getD l i hi]; have := h1 i hi; omega
  · rw [numb_len] at hi hj
    rw [numb_getD l i hi, numb_getD l j hj]; have := h2 i j hi hj hij; omega
theorem php (n : Nat) : ∀ l : List Int, l.Nodup → (∀ x ∈ l, 0 ≤ x ∧ x < (n : Int)) → l.length ≤ n := by
  induction n with
  | zero =>
    intro l _ h
    cases l with
    | nil => exact Nat.le_refl _
    | cons x t => have := h x (List.mem_cons_self ..); omega
  | succ n ih =>
    intro l hn h
    by_cases hm : (n : Int) ∈ l
    · have h1 := ih (l.erase (n : Int)) (hn.erase _) (fun x hx => by
        have h2 := (hn.mem_erase_iff).1 hx
        have h3 := h x h2.2
        have h4 := h2.1
        omega)
      rw [List.length_erase_of_mem hm] at h1
      omega
    · have h1 := ih l hn (fun x hx => by
        have h3 := h x hx
        have h4 : x ≠ (n : Int) := fun e => hm (e ▸ hx)
        omega)
      omega
theorem word_all (l : List Int) (hl : l.length ≤ 12) (hw : wordB l = true) (x : Nat) (hx : x < l.length) : ∃ i, i < l.length ∧ l.getD i 0 = (x : Int) := by
  have hm : (x : Int) ∈ l := by
    refine Classical.byContradiction fun hm => ?_
    unfold wordB inR at hw
    rw [Bool.and_eq_true] at hw
    have hn : ((x : Int) :: l).Nodup := List.nodup_cons.2 ⟨hm, of_decide_eq_true hw.2⟩
    have := php l.length _ hn (fun y hy => by
      rcases List.mem_cons.1 hy with rfl | hy
      · omega
      · have := of_decide_eq_true (List.all_eq_true.1 hw.1 y hy); omega)
    rw [List.length_cons] at this
    omega
  obtain ⟨i, hi, e⟩ := List.getElem_of_mem hm
  exact ⟨i, hi, by rw [getD_get l i hi]; exact e⟩
theorem back_l0 (l : List Int) (hl : l.length ≤ 12) (d : Nat) : ∀ (k : Nat), d ≤ l.length → d < k →
    spec_BackwardsOf.l0 k l (l.drop d).reverse ((d : Int) - 1) = some (l.reverse, true) := by
  induction d with
  | zero =>
    intro k hd hk
    obtain ⟨k, rfl⟩ : ∃ m, k = m + 1 := ⟨k - 1, by omega⟩
    rw [spec_BackwardsOf.l0, if_neg (by omega)]; rfl
  | succ d ih =>
    intro k hd hk
    obtain ⟨k, rfl⟩ : ∃ m, k = m + 1 := ⟨k - 1, by omega⟩
    have hlt : d < l.length := by omega
    rw [show ((d + 1 : Nat) : Int) - 1 = (d : Int) by omega, spec_BackwardsOf.l0, if_pos (by omega), if_pos (by omega), if_pos (by omega), if_pos (by simp; omega), rd_get hlt, wrap_id (by omega) (by omega)]
    have := ih k (by omega) (by omega)
    rw [List.drop_eq_getElem_cons hlt, List.reverse_cons] at this
    exact this
theorem mir_l0 (l : List Int) (hl : l.length ≤ 12) (hw : wordB l = true) (d : Nat) : ∀ (k i : Nat), i + d = l.length → d < k →
    spec_MirrorPermutation.l0 k l ((numb l).take i) l (l.length : Int) (i : Int) = some (numb l, true) ∧ impl_fromLast.l0 k l ((numb l).take i) l (l.length : Int) (i : Int) = some (numb l) := by
  have hll : (numb l).length = l.length := by simp [numb]
  induction d with
  | zero =>
    intro k i hi hk
    obtain ⟨k, rfl⟩ : ∃ m, k = m + 1 := ⟨k - 1, by omega⟩
    rw [spec_MirrorPermutation.l0, impl_fromLast.l0, if_neg (by omega), if_neg (by omega), List.take_of_length_le (by omega)]
    exact ⟨rfl, rfl⟩
  | succ d ih =>
    intro k i hi hk
    obtain ⟨k, rfl⟩ : ∃ m, k = m + 1 := ⟨k - 1, by omega⟩
    have hr := wordB_in hw i (by omega)
    have c1 : (i : Int) < (l.length : Int) := by omega
    have c2 : (0 : Int) ≤ (i : Int) := by omega
    have c3 : ((numb l).take i).length < 17592186044416 := by simp; omega
    rw [spec_MirrorPermutation.l0, impl_fromLast.l0]
    simp only [c1, c2, c3, if_true]
    have e : (numb l).take i ++ [wrap64 (wrap64 ((l.length : Int) - 1) - rd l (i : Int))] = (numb l).take (i + 1) := by
      rw [wrap_id (x := (l.length : Int) - 1) (by omega) (by omega), wrap_id (by omega) (by omega), List.take_add_one, rd_get (show i < l.length by omega)]
      simp [numb, show i < l.length by omega]
    rw [e, wrap_succ (by omega)]
    exact ih k (i + 1) (by omega) (by omega)
theorem back_ans (l : List Int) (h : l.length ≤ 1000) (k : Nat) (hk : 3000 ≤ k) : spec_BackwardsOf.f k l = some (if ptsB l = true then (l.reverse, true) else ([], false)) ∧ impl_BackwardsOf.f k l = some (if ptsB l = true then (l.reverse, true) else ([], false)) := by
  unfold spec_BackwardsOf.f impl_BackwardsOf.f
  rw [peWord_ev l (by omega) k (by omega), isPoints_ev l k (by omega)]
  cases hp : ptsB l with
  | false => exact ⟨rfl, rfl⟩
  | true =>
    have hl := ptsB_len hp
    have hb := back_l0 l hl l.length k (Nat.le_refl _) (by omega)
    rw [List.drop_length, List.reverse_nil] at hb
    rw [Option.bind_some, Option.bind_some, if_pos rfl, if_pos rfl, wrap_id (by omega) (by omega), hb, clone_val l h, Option.bind_some, rev_ev l (by omega) k (by omega)]
    exact ⟨rfl, rfl⟩
theorem mir_ans (l : List Int) (h : l.length ≤ 1000) (k : Nat) (hk : 3000 ≤ k) : spec_MirrorPermutation.f k l = some (if ptsB l = true then (numb l, true) else ([], false)) ∧ impl_MirrorPermutation.f k l = some (if ptsB l = true then (numb l, true) else ([], false)) := by
  unfold spec_MirrorPermutation.f impl_MirrorPermutation.f impl_fromLast.f
  rw [peWord_ev l (by omega) k (by omega), isPoints_ev l k (by omega)]
  cases hp : ptsB l with
  | false => exact ⟨rfl, rfl⟩
  | true =>
    have hl := ptsB_len hp
    obtain ⟨h3, h4⟩ := mir_l0 l hl (ptsB_word hp) l.length k 0 (by omega) (by omega)
    rw [Int.natCast_zero, List.take_zero] at h3 h4
    rw [Option.bind_some, Option.bind_some, if_pos rfl, if_pos rfl, h3, h4]
    exact ⟨rfl, rfl⟩
/-- each number's place -/
theorem places (l : List Int) (hw : wordB l = true) (d : Nat) : ∀ (i : Nat) (x : List Int), i + d = l.length → x.length = l.length → l.length ≤ 12 →
    (∀ j, j < i → x.getD (l.getD j 0).toNat 0 = (j : Int)) → ∃ r, r.length = l.length ∧ (∀ j, j < l.length → r.getD (l.getD j 0).toNat 0 = (j : Int)) ∧
    ∀ k, d < k → spec_InverseOf.l0 k x l (l.length : Int) (i : Int) = some (r, true) ∧ impl_inverse.l0 k x l (l.length : Int) (i : Int) = some r := by
  have hdis := ((wordB_iff l).1 hw).2
  induction d with
  | zero =>
    intro i x hi hx hl hp
    refine ⟨x, hx, fun j hj => hp j (by omega), fun k hk => ?_⟩
    obtain ⟨k, rfl⟩ : ∃ m, k = m + 1 := ⟨k - 1, by omega⟩
    rw [spec_InverseOf.l0, impl_inverse.l0, if_neg (by omega), if_neg (by omega)]
    exact ⟨rfl, rfl⟩
  | succ d ih =>
    intro i x hi hx hl hp
    have hr := wordB_in hw i (by omega)
    have hri : rd l (i : Int) = l.getD i 0 := rd_nat l i
    obtain ⟨r, h1, h2, h3⟩ := ih (i + 1) (x.set (rd l (i : Int)).toNat (i : Int)) (by omega) (by simpa using hx) hl (fun j hj => by
      have hrj := wordB_in hw j (by omega)
      rw [show rd l (j : Int) = l.getD j 0 from rd_nat l j] at hrj
      rw [hri] at hr ⊢
      by_cases e : j = i
      · subst e
        rw [List.getD_eq_getElem?_getD, List.getElem?_set_self (by omega)]; rfl
      · have := hdis j i (by omega) (by omega) e
        rw [List.getD_eq_getElem?_getD, List.getElem?_set_ne (by omega), ← List.getD_eq_getElem?_getD]
        exact hp j (by omega))
    refine ⟨r, h1, h2, fun k hk => ?_⟩
    obtain ⟨k, rfl⟩ : ∃ m, k = m + 1 := ⟨k - 1, by omega⟩
    have c1 : (i : Int) < (l.length : Int) := by omega
    have c2 : (0 : Int) ≤ (i : Int) := by omega
    have c3 : 0 ≤ rd l (i : Int) := hr.1
    have c4 : rd l (i : Int) < (x.length : Int) := by omega
    rw [spec_InverseOf.l0, impl_inverse.l0]
    simp only [c1, c2, c3, c4, if_true]
    rw [wrap_succ (by omega)]
    exact h3 k (by omega)
/-- a word and its inverse -/
structure InvW (l P : List Int) : Prop where
  len : P.length = l.length
  at_ : ∀ j, j < l.length → P.getD (l.getD j 0).toNat 0 = (j : Int)
theorem inv_ans (l : List Int) (hp : ptsB l = true) : ∃ P, InvW l P ∧ ∀ k, 3000 ≤ k → spec_InverseOf.f k l = some (P, true) ∧ impl_InverseOf.f k l = some (P, true) := by
  have hl := ptsB_len hp
  obtain ⟨P, h1, h2, h3⟩ := places l (ptsB_word hp) l.length 0 (List.replicate l.length 0) (by omega) (by simp) hl (fun j hj => by omega)
  refine ⟨P, ⟨h1, h2⟩, fun k hk => ?_⟩
  obtain ⟨h4, h5⟩ := h3 k (by omega)
  rw [Int.natCast_zero] at h4 h5
  unfold spec_InverseOf.f impl_InverseOf.f impl_inverse.f
  rw [peWord_ev l (by omega) k (by omega), isPoints_ev l k (by omega), hp, Option.bind_some, Option.bind_some, if_pos rfl, if_pos rfl, if_pos (by omega), if_pos (by omega), if_pos (by omega), if_pos (by omega), Int.toNat_natCast, h4, h5]
  exact ⟨rfl, rfl⟩
theorem inv_no (l : List Int) (h : l.length ≤ 1000) (hp : ptsB l = false) (k : Nat) (hk : 3000 ≤ k) : spec_InverseOf.f k l = some ([], false) ∧ impl_InverseOf.f k l = some ([], false) := by
  unfold spec_InverseOf.f impl_InverseOf.f
  rw [peWord_ev l (by omega) k (by omega), isPoints_ev l k (by omega), hp]
  exact ⟨rfl, rfl⟩
theorem pts_of {l : List Int} (h : l.length ≤ 12) (hw : wordB l = true) : ptsB l = true := by
  unfold ptsB; rw [hw, decide_eq_true h]; rfl
theorem InvW.pts {l P : List Int} (hp : ptsB l = true) (h : InvW l P) : ptsB P = true := by
  have hl := ptsB_len hp
  have hw := ptsB_word hp
  have hs : ∀ x, x < l.length → ∃ i, i < l.length ∧ l.getD i 0 = (x : Int) ∧ P.getD x 0 = (i : Int) := by
    intro x hx
    obtain ⟨i, hi, e⟩ := word_all l hl hw x hx
    have := h.at_ i hi
    rw [e, Int.toNat_natCast] at this
    exact ⟨i, hi, e, this⟩
  refine pts_of (by rw [h.len]; exact hl) ((wordB_iff P).2 ⟨fun x hx => ?_, fun x y hx hy hxy => ?_⟩)
  · rw [h.len] at hx ⊢
    obtain ⟨i, hi, _, e⟩ := hs x hx
    rw [e]; omega
  · rw [h.len] at hx hy
    obtain ⟨i, hi, e1, e2⟩ := hs x hx
    obtain ⟨j, hj, g1, g2⟩ := hs y hy
    rw [e2, g2]
    intro c
    have : i = j := by omega
    subst this
    rw [e1] at g1
    omega
theorem list_ext {a b : List Int} (h : a.length = b.length) (e : ∀ i, i < a.length → a.getD i 0 = b.getD i 0) : a = b := by
  refine List.ext_getElem h fun i h1 h2 => ?_
  rw [← getD_get a i h1, ← getD_get b i h2]; exact e i h1
theorem InvW.back {l P Q : List Int} (hp : ptsB l = true) (h : InvW l P) (g : InvW P Q) : Q = l := by
  have hw := ptsB_word hp
  refine list_ext (by rw [g.len, h.len]) fun j hj => ?_
  rw [g.len, h.len] at hj
  have h1 := ((wordB_iff l).1 hw).1 j hj
  have h2 := h.at_ j hj
  have h3 := g.at_ (l.getD j 0).toNat (by rw [h.len]; omega)
  rw [h2, Int.toNat_natCast] at h3
  rw [h3]; omega
theorem numb_numb (l : List Int) : numb (numb l) = l := by
  refine list_ext (by rw [numb_len, numb_len]) fun i hi => ?_
  rw [numb_len, numb_len] at hi
  rw [numb_getD _ i (by rw [numb_len]; exact hi), numb_getD l i hi, numb_len]; omega
theorem ptsB_rev {l : List Int} (hp : ptsB l = true) : ptsB l.reverse = true := pts_of (by rw [List.length_reverse]; exact ptsB_len hp) (rev_isword (ptsB_word hp))
theorem ptsB_numb {l : List Int} (hp : ptsB l = true) : ptsB (numb l) = true := pts_of (by rw [numb_len]; exact ptsB_len hp) (numb_isword (ptsB_word hp))
theorem openB_iff (l : List Int) (hp : ptsB l = true) : openB l = true ↔ ∀ i m, i < m → (m - i) % 2 = 0 → m + 1 < l.length → c4 l i m = false := by
  unfold openB
  rw [hp, Bool.true_and, decide_eq_true_eq]
  exact ⟨fun h i m a b c => crs_none h i m a b c, crs_of⟩
theorem bool_iff {a b : Bool} (h : a = true ↔ b = true) : a = b := by
  cases a <;> cases b <;> simp at h ⊢
theorem open_numb {l : List Int} (hp : ptsB l = true) : openB (numb l) = openB l := by
  refine bool_iff ?_
  rw [openB_iff _ (ptsB_numb hp), openB_iff _ hp, numb_len]
  have hd := ((wordB_iff l).1 (ptsB_word hp)).2
  have e : ∀ i m, i < m → (m - i) % 2 = 0 → m + 1 < l.length → c4 (numb l) i m = c4 l i m := by
    intro i m a b c
    unfold c4
    rw [numb_getD l i (by omega), numb_getD l (i + 1) (by omega), numb_getD l m (by omega), numb_getD l (m + 1) (by omega)]
    exact crB_below _ _ _ _ _ (hd i m (by omega) (by omega) (by omega)) (hd i (m + 1) (by omega) (by omega) (by omega)) (hd (i + 1) m (by omega) (by omega) (by omega)) (hd (i + 1) (m + 1) (by omega) (by omega) (by omega))
  exact ⟨fun h i m a b c => by rw [← e i m a b c]; exact h i m a b c, fun h i m a b c => by rw [e i m a b c]; exact h i m a b c⟩
theorem open_rev {l : List Int} (hp : ptsB l = true) : openB l.reverse = openB l := by
  refine bool_iff ?_
  rw [openB_iff _ (ptsB_rev hp), openB_iff _ hp, List.length_reverse]
  have hd := ((wordB_iff l).1 (ptsB_word hp)).2
  have e : ∀ i m, i < m → (m - i) % 2 = 0 → m + 1 < l.length → c4 l.reverse i m = c4 l (l.length - 2 - m) (l.length - 2 - i) := by
    intro i m a b c
    unfold c4
    rw [rev_getD l i (by omega), rev_getD l (i + 1) (by omega), rev_getD l m (by omega), rev_getD l (m + 1) (by omega), show l.length - 1 - (i + 1) = l.length - 2 - i by omega, show l.length - 1 - (m + 1) = l.length - 2 - m by omega, show l.length - 2 - i + 1 = l.length - 1 - i by omega, show l.length - 2 - m + 1 = l.length - 1 - m by omega]
    have n1 := hd (l.length - 1 - i) (l.length - 1 - m) (by omega) (by omega) (by omega)
    have n2 := hd (l.length - 1 - i) (l.length - 2 - m) (by omega) (by omega) (by omega)
    have n3 := hd (l.length - 2 - i) (l.length - 1 - m) (by omega) (by omega) (by omega)
    have n4 := hd (l.length - 2 - i) (l.length - 2 - m) (by omega) (by omega) (by omega)
    generalize l.getD (l.length - 1 - i) 0 = u1 at n1 n2 n3 n4 ⊢
    generalize l.getD (l.length - 2 - i) 0 = u2 at n1 n2 n3 n4 ⊢
    generalize l.getD (l.length - 1 - m) 0 = v1 at n1 n2 n3 n4 ⊢
    generalize l.getD (l.length - 2 - m) 0 = v2 at n1 n2 n3 n4 ⊢
    rw [crB_iff u1 u2 v1 v2 n1 n2 n3 n4, crB_iff v2 v1 u2 u1 (by omega) (by omega) (by omega) (by omega)]
    congr 1
    apply propext
    omega
  constructor
  · intro h i m a b c
    have := e (l.length - 2 - m) (l.length - 2 - i) (by omega) (by omega) (by omega)
    rw [show l.length - 2 - (l.length - 2 - i) = i by omega, show l.length - 2 - (l.length - 2 - m) = m by omega] at this
    rw [← this]
    exact h _ _ (by omega) (by omega) (by omega)
  · intro h i m a b c
    rw [e i m a b c]
    exact h _ _ (by omega) (by omega) (by omega)
/-- the first crossing -/
theorem innerF_some (l : List Int) (j d : Nat) : ∀ i0 i, innerF l j d i0 = some i → i < j ∧ i % 2 = i0 % 2 ∧ c4 l i j = true := by
  induction d with
  | zero => intro i0 i h; simp [innerF] at h
  | succ d ih =>
    intro i0 i h
    rw [innerF] at h
    by_cases a : i0 < j
    · rw [if_pos a] at h
      by_cases c : c4 l i0 j = true
      · rw [if_pos c, Option.some.injEq] at h
        subst h
        exact ⟨a, rfl, c⟩
      · rw [if_neg c] at h
        obtain ⟨h1, h2, h3⟩ := ih _ _ h
        exact ⟨h1, by omega, h3⟩
    · rw [if_neg a] at h; cases h
theorem outF_some (l : List Int) (e : Nat) : ∀ j0, (outF l e j0).1 ≠ [] → ∃ i j, (outF l e j0).1 = four i j ∧ i < j ∧ j + 1 < l.length ∧ i % 2 = j % 2 ∧ c4 l i j = true := by
  induction e with
  | zero => intro j0 h; exact absurd rfl h
  | succ e ih =>
    intro j0 h
    rw [outF] at h ⊢
    by_cases a : j0 + 1 < l.length
    · rw [if_pos a] at h ⊢
      cases hi : innerF l j0 l.length (j0 % 2) with
      | none => rw [hi] at h; exact ih _ h
      | some i =>
        obtain ⟨h1, h2, h3⟩ := innerF_some l j0 _ _ _ hi
        exact ⟨i, j0, rfl, h1, a, by omega, h3⟩
    · rw [if_neg a] at h; exact absurd rfl h
theorem crs_some {l : List Int} (h : (crs l).1 ≠ []) : ∃ i j, (crs l).1 = four i j ∧ i < j ∧ j + 1 < l.length ∧ i % 2 = j % 2 ∧ c4 l i j = true := outF_some l _ _ h
theorem cross_ans (l : List Int) (h : l.length ≤ 1000) (k : Nat) (hk : 3000 ≤ k) : spec_CrossingOf.f k l = some (if ptsB l = true then ((crs l).1, !decide ((crs l).1 = [])) else ([], false)) ∧ impl_CrossingOf.f k l = some (if ptsB l = true then ((crs l).1, !decide ((crs l).1 = [])) else ([], false)) := by
  unfold spec_CrossingOf.f impl_CrossingOf.f
  rw [peWord_ev l (by omega) k (by omega), isPoints_ev l k (by omega)]
  cases hp : ptsB l with
  | false => exact ⟨rfl, rfl⟩
  | true =>
    have hl := ptsB_len hp
    rw [Option.bind_some, Option.bind_some, if_pos rfl, if_pos rfl, if_pos rfl, scrossing_ev l hl k (by omega), icrossing_ev l hl k (by omega)]
    simp only [Option.bind_some, crs_snd, nil_bne, and_self]
theorem sOpen_ans (l : List Int) (h : l.length ≤ 1000) (k : Nat) (hk : 3000 ≤ k) : spec_IsOpenPermutation.f k l = some (openB l, decide (l.length ≤ 12)) := by
  unfold spec_IsOpenPermutation.f
  rw [peOpen_ev l (by omega) k (by omega)]
  by_cases h12 : l.length ≤ 12
  · rw [if_neg (by omega), decide_eq_true h12]; rfl
  · rw [if_pos (by omega), decide_eq_false h12]
    have : openB l = false := by
      unfold openB ptsB; rw [decide_eq_false h12]; rfl
    rw [this]
/-- the list of open words -/
def Lt (a b : List Int) : Prop := ∃ (p t s : List Int) (x y : Int), a = p ++ x :: t ∧ b = p ++ y :: s ∧ x < y
theorem words_pre (n : Nat) (d : Nat) : ∀ (l : List Int), ∀ w ∈ words n d l, ∃ t, w = l ++ t := by
  induction d with
  | zero => intro l w hw; rw [words, List.mem_singleton] at hw; exact ⟨[], by rw [hw, List.append_nil]⟩
  | succ d ih =>
    intro l w hw
    rw [words, List.mem_flatMap] at hw
    obtain ⟨x, _, hw⟩ := hw
    split at hw
    · cases hw
    · obtain ⟨t, rfl⟩ := ih _ w hw
      exact ⟨(x : Int) :: t, by simp⟩
theorem words_up (n : Nat) (d : Nat) : ∀ (l : List Int), (words n d l).Pairwise Lt := by
  induction d with
  | zero => intro l; rw [words]; exact List.pairwise_singleton ..
  | succ d ih =>
    intro l
    rw [words, List.pairwise_flatMap]
    refine ⟨fun x _ => ?_, ?_⟩
    · split
      · exact List.Pairwise.nil
      · exact ih _
    · refine List.pairwise_lt_range.imp fun {x y} hxy a ha b hb => ?_
      split at ha
      · cases ha
      split at hb
      · cases hb
      obtain ⟨t, rfl⟩ := words_pre n d _ a ha
      obtain ⟨s, rfl⟩ := words_pre n d _ b hb
      exact ⟨l, t, s, (x : Int), (y : Int), by simp, by simp, by omega⟩
theorem words_open (n : Nat) (d : Nat) : ∀ (l : List Int), (∀ x ∈ l, 0 ≤ x ∧ x < (n : Int)) → l.Nodup → (crs l).1 = [] → ∀ w ∈ words n d l, (∀ x ∈ w, 0 ≤ x ∧ x < (n : Int)) ∧ w.Nodup ∧ (crs w).1 = [] := by
  induction d with
  | zero => intro l h1 h2 h3 w hw; rw [words, List.mem_singleton] at hw; rw [hw]; exact ⟨h1, h2, h3⟩
  | succ d ih =>
    intro l h1 h2 h3 w hw
    rw [words, List.mem_flatMap] at hw
    obtain ⟨x, hx, hw⟩ := hw
    rw [List.mem_range] at hx
    split at hw
    · cases hw
    · rename_i hn
      have n1 : (x : Int) ∉ l := fun g => hn (.inl g)
      have n2 : (crs (l ++ [(x : Int)])).1 = [] := Classical.byContradiction fun g => hn (.inr g)
      refine ih _ (fun y hy => ?_) ?_ n2 w hw
      · rcases List.mem_append.1 hy with g | g
        · exact h1 y g
        · rw [List.mem_singleton] at g; omega
      · rw [List.nodup_append]
        refine ⟨h2, by simp, fun a ha b hb => ?_⟩
        rw [List.mem_singleton] at hb
        exact fun e => n1 (by rw [← hb, ← e]; exact ha)
theorem words_isOpen (n : Nat) (hn : n ≤ 12) : ∀ w ∈ words n n [], w.length = n ∧ openB w = true := by
  intro w hw
  obtain ⟨h1, h2, h3⟩ := words_open n n [] (by simp) (by simp) rfl w hw
  have hl := rest_words n n [] w hw
  rw [List.length_nil, Nat.zero_add] at hl
  refine ⟨hl, ?_⟩
  unfold openB ptsB wordB inR
  rw [h3, decide_eq_true (show w.length ≤ 12 by omega), decide_eq_true (show w.Pairwise (· ≠ ·) from h2)]
  have : (w.all fun x => decide (0 ≤ x ∧ x ≤ (w.length : Int) - 1)) = true := List.all_eq_true.2 fun x hx => by
    have := h1 x hx
    exact decide_eq_true (by omega)
  rw [this]; rfl
theorem sLess_ev (p : List Int) (x y : Int) (t s : List Int) (hxy : x < y) (hl : t.length = s.length) (hp : p.length ≤ 1000 ∧ t.length ≤ 1000) (d : Nat) : ∀ (k i : Nat), i + d = p.length → d < k →
    laws_sLess.l0 k (p ++ x :: t) (p ++ y :: s) (((p ++ x :: t).length : Nat) : Int) (i : Int) = some true := by
  have e1 : (p ++ x :: t).length = p.length + t.length + 1 := by simp; omega
  have e2 : (p ++ y :: s).length = p.length + t.length + 1 := by simp; omega
  induction d with
  | zero =>
    intro k i hi hk
    obtain ⟨k, rfl⟩ : ∃ m, k = m + 1 := ⟨k - 1, by omega⟩
    obtain rfl : i = p.length := by omega
    rw [laws_sLess.l0, if_pos (by omega), if_pos (by omega), if_pos (by omega), if_pos (by omega), rd_get (by omega), rd_get (by omega), List.getElem_append_right (Nat.le_refl _), List.getElem_append_right (Nat.le_refl _)]
    simp only [Nat.sub_self, List.getElem_cons_zero]
    rw [if_neg (by omega), decide_eq_true hxy]
  | succ d ih =>
    intro k i hi hk
    obtain ⟨k, rfl⟩ : ∃ m, k = m + 1 := ⟨k - 1, by omega⟩
    rw [laws_sLess.l0, if_pos (by omega), if_pos (by omega), if_pos (by omega), if_pos (by omega), rd_get (by omega), rd_get (by omega), List.getElem_append_left (by omega), List.getElem_append_left (by omega), if_pos rfl, wrap_succ (by omega)]
    exact ih k (i + 1) (by omega) (by omega)
theorem less_ans {a b : List Int} (h : Lt a b) (hl : a.length = b.length) (ha : a.length ≤ 1000) (k : Nat) (hk : 1100 ≤ k) : laws_sLess.f k a b = some true := by
  obtain ⟨p, t, s, x, y, rfl, rfl, hxy⟩ := h
  simp only [List.length_append, List.length_cons] at hl ha
  unfold laws_sLess.f
  have := sLess_ev p x y t s hxy (by omega) (by omega) p.length k 0 (by omega) (by omega)
  rw [Int.natCast_zero] at this
  exact this
theorem sRows_l0 (R : List (List Int)) (hR : R.length ≤ 1048576) (hr : ∀ x ∈ R, x.length ≤ 1000) (d : Nat) : ∀ (k i : Nat), i + d = R.length → d + 1200 ≤ k → laws_sSameRows.l0 k R R (R.length : Int) (i : Int) = some true := by
  induction d with
  | zero =>
    intro k i hi hk
    obtain ⟨k, rfl⟩ : ∃ m, k = m + 1 := ⟨k - 1, by omega⟩
    rw [laws_sSameRows.l0, if_neg (by omega)]
  | succ d ih =>
    intro k i hi hk
    obtain ⟨k, rfl⟩ : ∃ m, k = m + 1 := ⟨k - 1, by omega⟩
    have hm : (rd_L2 R (i : Int)).length ≤ 1000 := by
      rw [rdL2_at (by omega)]; exact hr _ (List.getElem_mem _)
    rw [laws_sSameRows.l0, if_pos (by omega), if_pos (by omega), if_pos (by omega), if_pos (by omega), sSame_ev _ hm k (by omega), Option.bind_some, if_pos rfl, wrap_succ (by omega)]
    exact ih k (i + 1) (by omega) (by omega)
theorem sRows_ev (R : List (List Int)) (hR : R.length ≤ 1048576) (hr : ∀ x ∈ R, x.length ≤ 1000) (k : Nat) (hk : 1100000 ≤ k) : laws_sSameRows.f k R R = some true := by
  unfold laws_sSameRows.f
  rw [if_pos rfl]
  exact sRows_l0 R hR hr R.length k 0 (by omega) (by omega)
theorem sopen_ev (n : Int) (k : Nat) (hk : 1000 ≤ k) : spec_OpenPermutations.f k n = some (openAns n) := by
  unfold spec_OpenPermutations.f spec_peListed.f openAns
  rw [sIn_val, Option.bind_some]
  by_cases h : 0 ≤ n ∧ n ≤ 7
  · obtain ⟨m, rfl⟩ : ∃ m : Nat, n = m := ⟨n.toNat, by omega⟩
    have := (both_words m (by omega) m [] k (by simp) (by omega)).1
    rw [decide_eq_true h, if_pos h]
    simp only [Option.bind_some, if_true]
    rw [this]; rfl
  · rw [decide_eq_false h, if_neg h]; rfl
theorem ans_rows (n : Int) : (openAns n).1.length ≤ 1048576 ∧ (∀ x ∈ (openAns n).1, x.length ≤ 12 ∧ openB x = true) ∧ (openAns n).1.Pairwise Lt ∧ ∀ x ∈ (openAns n).1, ∀ y ∈ (openAns n).1, x.length = y.length := by
  unfold openAns
  by_cases h : 0 ≤ n ∧ n ≤ 7
  · rw [if_pos h]
    have hw := words_isOpen n.toNat (by omega)
    refine ⟨?_, fun x hx => ?_, words_up _ _ _, fun x hx y hy => ?_⟩
    · have h1 := words_len n.toNat (by omega) n.toNat []
      have h2 : 7 ^ n.toNat ≤ 823543 := Nat.le_trans (Nat.pow_le_pow_right (by omega) (show n.toNat ≤ 7 by omega)) (by decide)
      show (words n.toNat n.toNat []).length ≤ 1048576
      omega
    · obtain ⟨h1, h2⟩ := hw x hx
      exact ⟨by omega, h2⟩
    · rw [(hw x hx).1, (hw y hy).1]
  · rw [if_neg h]
    exact ⟨by simp, by simp, List.Pairwise.nil, by simp⟩
theorem count_ans (n : Int) (k : Nat) (hk : 1000 ≤ k) : impl_CountOpen.f k n = some (((openAns n).1.length : Int), (openAns n).2) := by
  unfold impl_CountOpen.f
  rw [iopen_ev n k hk]; rfl
theorem drawN_ok {l : List Int} (h : Bytes l) : ∃ n, spec_DrawOpenPermutations.f l = some n := by
  unfold spec_DrawOpenPermutations.f
  obtain ⟨b, j, s, e, _, h1, h2⟩ := (one_ok h 0 0 6 (by omega) (by omega) (by omega)).ok
  rw [e, Option.bind_some]
  cases b with
  | true =>
    rw [if_pos rfl]
    unfold spec_l1Cur_among.f
    obtain ⟨v, j2, s2, e2, hv, _, _⟩ := (pick_ok h j s 3 (by omega) (by omega) (by omega)).ok
    have e2' : spec_l1Cur_pick.f l j s ((([(-1), 7, 8] : List Int).length : Nat) : Int) = some (v, j2, s2) := e2
    rw [e2', Option.bind_some, if_pos hv.1, if_pos (by simp; omega)]
    exact ⟨_, rfl⟩
  | false =>
    rw [if_neg (by simp)]
    obtain ⟨v, j2, s2, e2, hv, _, _⟩ := (pick_ok h j s 7 (by omega) (by omega) (by omega)).ok
    rw [e2]
    exact ⟨_, rfl⟩

end Go.Proofs.Ytldbkkfkgfacdaa.Pure
