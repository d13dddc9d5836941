/- All arch systems, one after another: what a test says of each of them it says of every good list. -/
import Derived.Test.YtjgkcknopnollaaGreatPIsSysK
set_option linter.unusedVariables false
set_option linter.unusedSimpArgs false
namespace Go.Proofs.YtjgkcknopnollaaGreat.Pure
open Go.RowKit Go.Proofs.YtjgkcknopnollaaGreat.D Go.Proofs.YtjgkcknopnollaaGreatW.PrintWords Go.Proofs.YtjgkcknopnollaaGreatW.PrintLast Go.Proofs.YtjgkcknopnollaaGreatW.PrintMore

def allG (P : List Int → Bool) : Nat → Nat → List Nat → List Int → Bool
  | 0, _, [], x => P x
  | 0, _, _ :: _, _ => true
  | d + 1, i, [], x => allG P d (i + 1) [i] x
  | d + 1, i, a :: t, x => allG P d (i + 1) (i :: a :: t) x && allG P d (i + 1) t ((x.set i (a : Int)).set a (i : Int))
theorem allG_push {P : List Int → Bool} {d i : Nat} {o : List Nat} {x : List Int} (h : allG P (d + 1) i o x = true) : allG P d (i + 1) (i :: o) x = true := by
  cases o with
  | nil => exact h
  | cons a t => rw [allG, Bool.and_eq_true] at h; exact h.1
theorem allG_pop {P : List Int → Bool} {d i a : Nat} {t : List Nat} {x : List Int} (h : allG P (d + 1) i (a :: t) x = true) : allG P d (i + 1) t ((x.set i (a : Int)).set a (i : Int)) = true := by
  rw [allG, Bool.and_eq_true] at h; exact h.2
theorem set_getD (x : List Int) (a : Nat) (v : Int) (m : Nat) (h : a < x.length) : (x.set a v).getD m 0 = if m = a then v else x.getD m 0 := by
  rw [List.getD_eq_getElem?_getD, List.getD_eq_getElem?_getD, List.getElem?_set]
  by_cases e : a = m
  · subst e; rw [if_pos rfl, if_pos h, if_pos rfl]; rfl
  · rw [if_neg e, if_neg (fun g => e g.symm)]
theorem allG_all (P : List Int → Bool) {q : Nat → Nat} {n : Nat} (p : List Int) (hp : p.length = n) (hv : ∀ m, m < n → p.getD m 0 = (q m : Int)) (hr : ∀ i, i < n → q i < n) (hs : Sys q n) (d : Nat) :
    ∀ (i : Nat) (o : List Nat) (x : List Int), i + d = n → x.length = n → scan q d i o = true → o.Nodup → (∀ a ∈ o, a < i ∧ i ≤ q a) → (∀ m, m < i → m ∉ o → x.getD m 0 = (q m : Int)) → allG P d i o x = true → P p = true := by
  induction d with
  | zero =>
    intro i o x hi hx _ _ ho hm h
    have hi : i = n := by omega
    subst hi
    cases o with
    | cons a t =>
      have := ho a (by simp)
      have := hr a this.1
      omega
    | nil =>
      have e : x = p := by
        refine List.ext_getElem (by omega) fun m h1 h2 => ?_
        have e1 := hm m (by omega) (by simp)
        rw [← hv m (by omega), List.getD_eq_getElem?_getD, List.getD_eq_getElem?_getD, List.getElem?_eq_getElem h1, List.getElem?_eq_getElem h2] at e1
        exact e1
      rw [← e]; exact h
  | succ d ih =>
    intro i o x hi hx hsc hn ho hm h
    have hin : i < n := by omega
    simp only [scan] at hsc
    by_cases c : i < q i ∧ q (q i) = i
    · rw [if_pos c] at hsc
      have hni : i ∉ o := fun g => by have := (ho i g).1; omega
      refine ih (i + 1) (i :: o) x (by omega) hx hsc (List.nodup_cons.2 ⟨hni, hn⟩) (fun a ha => ?_) (fun m h1 h2 => ?_) (allG_push h)
      · rcases List.mem_cons.1 ha with rfl | ha
        · exact ⟨by omega, by omega⟩
        · have h1 := ho a ha
          have h2 : q a ≠ i := by
            intro e
            have := hs.inv a (by omega)
            rw [e] at this
            omega
          exact ⟨by omega, by omega⟩
      · rw [List.mem_cons, not_or] at h2
        exact hm m (by omega) h2.2
    · rw [if_neg c] at hsc
      by_cases c2 : q i < i
      · rw [if_pos c2] at hsc
        cases o with
        | nil => cases hsc
        | cons a t =>
          have hsc : (if a = q i then scan q d (i + 1) t else false) = true := hsc
          by_cases c3 : a = q i
          · rw [if_pos c3] at hsc
            have hn' := List.nodup_cons.1 hn
            refine ih (i + 1) t _ (by omega) (by simpa using hx) hsc hn'.2 (fun b hb => ?_) (fun m h1 h2 => ?_) (allG_pop h)
            · have h1 := ho b (List.mem_cons_of_mem _ hb)
              have h2 : q b ≠ i := by
                intro e
                have := hs.inv b (by omega)
                rw [e] at this
                exact hn'.1 (by rw [c3, this]; exact hb)
              exact ⟨by omega, by omega⟩
            · rw [set_getD _ _ _ _ (by rw [List.length_set]; omega), set_getD _ _ _ _ (by omega)]
              by_cases e1 : m = a
              · rw [if_pos e1, e1, c3, hs.inv i hin]
              · rw [if_neg e1]
                by_cases e2 : m = i
                · rw [if_pos e2, e2, c3]
                · rw [if_neg e2]
                  exact hm m (by omega) (by rw [List.mem_cons, not_or]; exact ⟨e1, h2⟩)
          · rw [if_neg c3] at hsc; cases hsc
      · rw [if_neg c2] at hsc; cases hsc
theorem all_good (P : List Int → Bool) {p : List Int} (hg : good p = true) (h : allG P p.length 0 [] (List.replicate p.length 0) = true) : P p = true := by
  unfold good at hg
  simp only [Bool.and_eq_true, decide_eq_true_eq] at hg
  obtain ⟨h0, _, h2, h3⟩ := hg
  have hin := fun i hi => inr_get h2 i hi
  have hs : Sys (qof p) p.length := (sys_iff_scan (fun i hi => (hin i hi).2)).2 ⟨h0, h3⟩
  refine allG_all P p rfl (fun m hm => ?_) (fun i hi => (hin i hi).2) hs p.length 0 [] _ (by omega) (by simp) h3 List.nodup_nil (by simp) (fun m hm => by omega) h
  rw [← (hin m hm).1]; exact (rd_nat p m).symm
theorem good_half {p : List Int} (hg : good p = true) : ∃ n, n ≤ 6 ∧ p.length = 2 * n := by
  unfold good at hg
  simp only [Bool.and_eq_true, decide_eq_true_eq] at hg
  exact ⟨p.length / 2, by omega, by omega⟩

end Go.Proofs.YtjgkcknopnollaaGreat.Pure
