/- Foldings with stamp 0 on top: the reference grows them stamp by stamp and leaves out what the program grows and strikes out. -/
import Derived.Test.YtjgkcknopnollaaGreatPAdd
import Derived.Test.YtjgkcknopnollaaGreatQA2
set_option linter.unusedVariables false
set_option linter.unusedSimpArgs false
namespace Go.Proofs.YtjgkcknopnollaaGreat.Pure
open Go.RowKit Go.Proofs.YtjgkcknopnollaaGreat.C Go.Proofs.YtjgkcknopnollaaGreatW.PrintWords Go.Proofs.YtjgkcknopnollaaGreatW.PrintLast Go.Proofs.YtjgkcknopnollaaGreatW.PrintMore

def addsOf (l : List Int) : List (List Int) := SortL.sortL (cand l (l.length + 1) 0)
def topB (q : List Int) : Bool := !(true && (q.getD 0 0 != 0))
/-- rows that are words of m stamps -/
def rowsOf (m : Nat) (R : List (List Int)) : Prop := ∀ x ∈ R, x.length = m ∧ wordB x = true
def fac : Nat → Nat
  | 0 => 1
  | m + 1 => fac m * (m + 1)
theorem fac_le : ∀ m : Fin 9, fac m.val ≤ 40320 := by decide
theorem adds_rows (l : List Int) (m : Nat) (h : l.length = m) (hw : wordB l = true) : rowsOf (m + 1) (addsOf l) := by
  intro x hx
  obtain ⟨j, rfl⟩ := cand_mem l _ _ x ((SortL.sortL_perm _).mem_iff.1 hx)
  exact ⟨by rw [ins_len, h], ins_word l hw j⟩
theorem adds_len (l : List Int) : (addsOf l).length ≤ l.length + 1 := by
  unfold addsOf
  rw [SortL.sortL_length]
  exact cand_len l _ _
theorem all_told (k : Nat) (hk : 1200 ≤ k) (m : Nat) (hm : 1 ≤ m ∧ m ≤ 7) : ∀ (rows acc next : List (List Int)), rowsOf m rows → impl_foldings.all k acc rows = some next → next = acc ++ rows.flatMap addsOf
  | [], acc, next, _, h => by
    rw [impl_foldings.all] at h
    injection h with h
    simp [h]
  | p :: t, acc, next, hr, h => by
    have hp := hr p (List.mem_cons_self ..)
    have he : impl_added.f k p = some (addsOf p) := (added_ev p (by omega) hp.2 k hk).2
    rw [impl_foldings.all, he, Option.bind_some] at h
    split at h
    · rw [all_told k hk m hm t _ _ (fun x hx => hr x (List.mem_cons_of_mem _ hx)) h]
      simp [List.append_assoc]
    · cases h
theorem flat_filter (f : List Int → List (List Int)) (q : List Int → Bool) : ∀ X : List (List Int), (X.flatMap f).filter q = X.flatMap fun p => (f p).filter q
  | [] => rfl
  | x :: t => by simp only [List.flatMap_cons, List.filter_append, flat_filter f q t]
theorem flat_len (f : List Int → List (List Int)) (c : Nat) : ∀ X : List (List Int), (∀ x ∈ X, (f x).length ≤ c) → (X.flatMap f).length ≤ X.length * c
  | [], _ => by simp
  | x :: t, h => by
    have h1 := h x (List.mem_cons_self ..)
    have h2 := flat_len f c t (fun y hy => h y (List.mem_cons_of_mem _ hy))
    rw [List.flatMap_cons, List.length_append, List.length_cons, Nat.succ_mul]
    omega
def Ev {α : Type} (g : Nat → Option α) (r : α) : Prop := ∃ K, ∀ k, K ≤ k → g k = some r
theorem top_l2 (n m : Int) (X : List (List Int)) (y : Int) (A : List (List Int)) (hA : ∀ x ∈ A, 0 < x.length) (hl : A.length ≤ 100) (r : List (List Int)) (d : Nat) : ∀ (j : Nat) (acc : List (List Int)), j + d = A.length → acc.length + d ≤ 5000000 →
    Ev (fun k => spec_spTop.l1 k n m (acc ++ (A.drop j).filter topB) X (X.length : Int) (wrap64 (y + 1))) r → Ev (fun k => spec_spTop.l2 k n m acc X (X.length : Int) y A (A.length : Int) (j : Int)) r := by
  induction d with
  | zero =>
    intro j acc hj ha hE
    obtain ⟨K, hK⟩ := hE
    refine ⟨K + 1, fun k hk => ?_⟩
    obtain ⟨k, rfl⟩ : ∃ m, k = m + 1 := ⟨k - 1, by omega⟩
    have h1 := hK k (by omega)
    simp only [List.drop_of_length_le (show A.length ≤ j by omega), List.filter_nil, List.append_nil] at h1
    show spec_spTop.l2 (k + 1) n m acc X (X.length : Int) y A (A.length : Int) (j : Int) = some r
    rw [spec_spTop.l2, if_neg (by omega)]
    exact h1
  | succ d ih =>
    intro j acc hj ha hE
    have hlt : j < A.length := by omega
    have hr : rd_L3 A (j : Int) = A[j] := by unfold rd_L3; simp [hlt]
    have hp := hA _ (List.getElem_mem hlt)
    have h0 : rd A[j] 0 = A[j].getD 0 0 := rfl
    rw [List.drop_eq_getElem_cons hlt, List.filter_cons] at hE
    by_cases hz : A[j].getD 0 0 = 0
    · have ht : topB A[j] = true := by unfold topB; simp only [hz]; decide
      rw [if_pos ht] at hE
      obtain ⟨K, hK⟩ := ih (j + 1) (acc ++ [A[j]]) (by omega) (by rw [List.length_append]; simp only [List.length_cons, List.length_nil]; omega) (by rw [List.append_assoc]; exact hE)
      refine ⟨K + 1, fun k hk => ?_⟩
      obtain ⟨k, rfl⟩ : ∃ m, k = m + 1 := ⟨k - 1, by omega⟩
      show spec_spTop.l2 (k + 1) n m acc X (X.length : Int) y A (A.length : Int) (j : Int) = some r
      rw [spec_spTop.l2, if_pos (by omega), if_pos (by omega), if_pos (by omega), hr, if_pos (by omega), h0, if_pos hz, if_pos (by omega), wrap_succ (by omega)]
      exact hK k (by omega)
    · have ht : ¬ topB A[j] = true := by unfold topB; simpa using hz
      rw [if_neg ht] at hE
      obtain ⟨K, hK⟩ := ih (j + 1) acc (by omega) (by omega) hE
      refine ⟨K + 1, fun k hk => ?_⟩
      obtain ⟨k, rfl⟩ : ∃ m, k = m + 1 := ⟨k - 1, by omega⟩
      show spec_spTop.l2 (k + 1) n m acc X (X.length : Int) y A (A.length : Int) (j : Int) = some r
      rw [spec_spTop.l2, if_pos (by omega), if_pos (by omega), if_pos (by omega), hr, if_pos (by omega), h0, if_neg hz, wrap_succ (by omega)]
      exact hK k (by omega)
theorem top_l1 (n m : Int) (X : List (List Int)) (mm : Nat) (hX : rowsOf mm X) (hm : 1 ≤ mm ∧ mm ≤ 7) (hl : X.length ≤ 100000) (r : List (List Int)) (d : Nat) : ∀ (i : Nat) (acc : List (List Int)), i + d = X.length → acc.length + 8 * d ≤ 4000000 →
    Ev (fun k => spec_spTop.l0 k n (acc ++ (X.drop i).flatMap fun p => (addsOf p).filter topB) (wrap64 (m + 1))) r → Ev (fun k => spec_spTop.l1 k n m acc X (X.length : Int) (i : Int)) r := by
  induction d with
  | zero =>
    intro i acc hi ha hE
    obtain ⟨K, hK⟩ := hE
    refine ⟨K + 1, fun k hk => ?_⟩
    obtain ⟨k, rfl⟩ : ∃ m, k = m + 1 := ⟨k - 1, by omega⟩
    have h1 := hK k (by omega)
    simp only [List.drop_of_length_le (show X.length ≤ i by omega), List.flatMap_nil, List.append_nil] at h1
    show spec_spTop.l1 (k + 1) n m acc X (X.length : Int) (i : Int) = some r
    rw [spec_spTop.l1, if_neg (by omega)]
    exact h1
  | succ d ih =>
    intro i acc hi ha hE
    have hlt : i < X.length := by omega
    have hr : rd_L3 X (i : Int) = X[i] := by unfold rd_L3; simp [hlt]
    have hx := hX _ (List.getElem_mem hlt)
    have hal := adds_len X[i]
    have hfl : ((addsOf X[i]).filter topB).length ≤ 8 := Nat.le_trans (List.length_filter_le ..) (by omega)
    rw [List.drop_eq_getElem_cons hlt, List.flatMap_cons, ← List.append_assoc] at hE
    have E1 := ih (i + 1) (acc ++ (addsOf X[i]).filter topB) (by omega) (by rw [List.length_append]; omega) hE
    have E2 := top_l2 n m X (i : Int) (addsOf X[i]) (fun x hx2 => by have := (adds_rows X[i] mm hx.1 hx.2 x hx2).1; omega) (by omega) r (addsOf X[i]).length 0 acc (by omega) (by omega) (by rw [List.drop_zero, wrap_succ (by omega)]; exact E1)
    obtain ⟨K, hK⟩ := E2
    refine ⟨K + 1201, fun k hk => ?_⟩
    obtain ⟨k, rfl⟩ : ∃ m, k = m + 1 := ⟨k - 1, by omega⟩
    have he : spec_spAdded.f k X[i] = some (addsOf X[i]) := (added_ev X[i] (by omega) hx.2 k (by omega)).1
    show spec_spTop.l1 (k + 1) n m acc X (X.length : Int) (i : Int) = some r
    rw [spec_spTop.l1, if_pos (by omega), if_pos (by omega), if_pos (by omega), hr, he, Option.bind_some]
    exact hK k (by omega)
theorem top_l0 (k0 : Nat) (hk0 : 1200 ≤ k0) (n : Nat) (hn : n ≤ 8) (d : Nat) : ∀ (m : Nat) (rows fin : List (List Int)), m + d = n → 1 ≤ m → rowsOf m rows → rows.length ≤ fac m → impl_foldings.go k0 true d rows = some fin →
    Ev (fun k => spec_spTop.l0 k (n : Int) rows (m : Int)) fin ∧ rowsOf n fin ∧ fin.length ≤ fac n := by
  induction d with
  | zero =>
    intro m rows fin hm h1 hr hl h
    obtain rfl : m = n := by omega
    rw [impl_foldings.go] at h
    obtain rfl := Option.some.inj h
    refine ⟨⟨1, fun k hk => ?_⟩, hr, hl⟩
    obtain ⟨k, rfl⟩ : ∃ m, k = m + 1 := ⟨k - 1, by omega⟩
    show spec_spTop.l0 (k + 1) (m : Int) rows (m : Int) = some rows
    rw [spec_spTop.l0, if_neg (by omega)]
  | succ d ih =>
    intro m rows fin hm h1 hr hl h
    have hfm := fac_le ⟨m, by omega⟩
    have hfm : fac m ≤ 40320 := hfm
    rw [impl_foldings.go] at h
    split at h
    case isFalse => cases h
    obtain ⟨next, ha, h⟩ := Option.bind_eq_some_iff.mp h
    obtain ⟨o, hs, h⟩ := Option.bind_eq_some_iff.mp h
    have ha := all_told k0 hk0 m (by omega) rows [] next hr ha
    rw [List.nil_append] at ha
    subst ha
    unfold impl_foldings.strike at hs
    split at hs
    case isTrue => cases hs
    split at hs
    case isFalse => cases hs
    have ho : o = (rows.flatMap addsOf).filter topB := (Option.some.inj hs).symm
    rw [flat_filter] at ho
    subst ho
    have hr2 : rowsOf (m + 1) (rows.flatMap fun p => (addsOf p).filter topB) := by
      intro x hx
      obtain ⟨p, hp, hx⟩ := List.mem_flatMap.1 hx
      exact adds_rows p m (hr p hp).1 (hr p hp).2 x (List.mem_filter.1 hx).1
    have hl2 : (rows.flatMap fun p => (addsOf p).filter topB).length ≤ fac (m + 1) := by
      refine Nat.le_trans (flat_len _ (m + 1) rows (fun x hx => ?_)) (Nat.mul_le_mul_right _ hl)
      refine Nat.le_trans (List.length_filter_le ..) (Nat.le_trans (adds_len x) ?_)
      rw [(hr x hx).1]; exact Nat.le_refl _
    obtain ⟨E, hf1, hf2⟩ := ih (m + 1) _ fin (by omega) (by omega) hr2 hl2 h
    refine ⟨?_, hf1, hf2⟩
    have E2 := top_l1 (n : Int) (m : Int) rows m hr (by omega) (by omega) fin rows.length 0 [] (by omega) (by simp only [List.length_nil]; omega) (by rw [List.drop_zero, List.nil_append, wrap_succ (by omega)]; exact E)
    obtain ⟨K, hK⟩ := E2
    refine ⟨K + 1, fun k hk => ?_⟩
    obtain ⟨k, rfl⟩ : ∃ m, k = m + 1 := ⟨k - 1, by omega⟩
    show spec_spTop.l0 (k + 1) (n : Int) rows (m : Int) = some fin
    rw [spec_spTop.l0, if_pos (by omega)]
    exact hK k (by omega)
theorem puts_l0 (X : List (List Int)) (hX : ∀ x ∈ X, small x ∧ x.length ≤ 1000) (hl : X.length ≤ 100000) (d : Nat) : ∀ (k i : Nat) (acc : List (List Int)), i + d = X.length → (∀ x ∈ acc, small x ∧ x.length ≤ 1000) → acc.length ≤ i → d + 102000 ≤ k →
    spec_FoldingsOnTop.l0 k acc X (X.length : Int) (i : Int) = some (insAll acc (X.drop i), true) := by
  induction d with
  | zero =>
    intro k i acc hi ha hal hk
    obtain ⟨k, rfl⟩ : ∃ m, k = m + 1 := ⟨k - 1, by omega⟩
    rw [spec_FoldingsOnTop.l0, if_neg (by omega), List.drop_of_length_le (by omega)]; rfl
  | succ d ih =>
    intro k i acc hi ha hal hk
    obtain ⟨k, rfl⟩ : ∃ m, k = m + 1 := ⟨k - 1, by omega⟩
    have hlt : i < X.length := by omega
    have hr : rd_L3 X (i : Int) = X[i] := by unfold rd_L3; simp [hlt]
    have hx := hX _ (List.getElem_mem hlt)
    rw [spec_FoldingsOnTop.l0, if_pos (by omega), if_pos (by omega), if_pos (by omega), hr, put_ev acc _ ha hx.1 hx.2 (by omega) k (by omega), Option.bind_some, wrap_succ (by omega)]
    rw [ih k (i + 1) _ (by omega) (fun x hm => by
      rcases List.mem_cons.1 ((SortL.insL_perm _ _).mem_iff.1 hm) with rfl | hm
      · exact hx
      · exact ha x hm) (by rw [(SortL.insL_perm _ _).length_eq, List.length_cons]; omega) (by omega), List.drop_eq_getElem_cons hlt]
    rfl

end Go.Proofs.YtjgkcknopnollaaGreat.Pure
