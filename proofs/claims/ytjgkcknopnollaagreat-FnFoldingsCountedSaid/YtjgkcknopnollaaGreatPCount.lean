/- Foldings counted: each told by its stamps' places, grown a stamp at a time. -/
import Derived.Test.YtjgkcknopnollaaGreatPTop
import Derived.Test.YtjgkcknopnollaaGreatQA2
set_option linter.unusedVariables false
set_option linter.unusedSimpArgs false
namespace Go.Proofs.YtjgkcknopnollaaGreat.Pure
open Go.RowKit Go.Proofs.YtjgkcknopnollaaGreat.C Go.Proofs.YtjgkcknopnollaaGreatW.PrintWords Go.Proofs.YtjgkcknopnollaaGreatW.PrintLast Go.Proofs.YtjgkcknopnollaaGreatW.PrintMore

def inb (a b c : Nat) : Bool := bif Nat.blt a b then (Nat.blt a c && Nat.blt c b) else (Nat.blt b c && Nat.blt c a)
def walkN (a b : Nat) : List Nat → Bool
  | c :: d :: t => bif inb a b c == inb a b d then walkN a b t else false
  | _ => true
def clean : List Nat → Bool
  | a :: b :: t => bif walkN a b t then clean (b :: t) else false
  | _ => true
def bump (i : Nat) (P : List Nat) : List Nat := P.map (fun p => bif Nat.ble i p then p + 1 else p)
def candP (P : List Nat) : Nat → Nat → List (List Nat)
  | 0, _ => []
  | d + 1, i => bif clean (bump i P ++ [i]) then (bump i P ++ [i]) :: candP P d (i + 1) else candP P d (i + 1)
def GP : Nat → List (List Nat)
  | 0 => [[0]]
  | m + 1 => (GP m).flatMap fun P => candP P (P.length + 1) 0
def H : Nat → List (List Int)
  | 0 => [[0]]
  | m + 1 => (H m).flatMap fun l => cand l (l.length + 1) 0
/-- P tells the places of l's numbers -/
def isPos (l : List Int) (P : List Nat) : Prop := P.length = l.length ∧ ∀ i, i < l.length → P.getD (l.getD i 0).toNat 0 = i
theorem ins_get (l : List Int) (i j : Nat) (hi : i ≤ l.length) (hj : j < l.length + 1) : (ins l i).getD j 0 = if j < i then l.getD j 0 else if j = i then (l.length : Int) else l.getD (j - 1) 0 := by
  unfold ins
  rw [List.append_assoc]
  simp only [List.getD_eq_getElem?_getD, List.getElem?_append, List.length_take]
  have hm : min i l.length = i := by omega
  rw [hm]
  by_cases h1 : j < i
  · rw [if_pos h1, if_pos h1, List.getElem?_take_of_lt h1]
  · rw [if_neg h1, if_neg h1]
    by_cases h2 : j = i
    · subst h2; simp
    · rw [if_neg h2]
      have e : j - i = (j - i - 1) + 1 := by omega
      have h3 : ¬ j - i < [(l.length : Int)].length := by simp; omega
      rw [if_neg h3, List.getElem?_drop]
      simp only [List.length_cons, List.length_nil]
      rw [show i + (j - i - (0 + 1)) = j - 1 by omega]
theorem bump_get (P : List Nat) (i s : Nat) (hs : s < P.length) : (bump i P ++ [i]).getD s 0 = if i ≤ P.getD s 0 then P.getD s 0 + 1 else P.getD s 0 := by
  have hl : s < (bump i P).length := by unfold bump; simpa using hs
  rw [List.getD_eq_getElem?_getD, List.getElem?_append_left hl, List.getElem?_eq_getElem hl, Option.getD_some]
  simp only [bump, List.getElem_map]
  rw [List.getD_eq_getElem?_getD, List.getElem?_eq_getElem hs, Option.getD_some]
  by_cases h : i ≤ P[s]
  · rw [if_pos h, show Nat.ble i P[s] = true from Nat.ble_eq.mpr h]; rfl
  · rw [if_neg h, show Nat.ble i P[s] = false from by
      cases e : Nat.ble i P[s] with
      | false => rfl
      | true => exact absurd (Nat.ble_eq.mp e) h]; rfl
theorem bump_last (P : List Nat) (i : Nat) : (bump i P ++ [i]).getD P.length 0 = i := by
  have hl : (bump i P).length = P.length := by unfold bump; simp
  rw [List.getD_eq_getElem?_getD, List.getElem?_append_right (by omega), hl]; simp
theorem isPos_ins {l : List Int} {P : List Nat} (h : isPos l P) (hw : wordB l = true) (i : Nat) (hi : i ≤ l.length) : isPos (ins l i) (bump i P ++ [i]) := by
  refine ⟨by rw [ins_len]; unfold bump; simp [h.1], fun j hj => ?_⟩
  rw [ins_len] at hj
  rw [ins_get l i j hi hj]
  have old : ∀ q, q < l.length → (bump i P ++ [i]).getD (l.getD q 0).toNat 0 = if i ≤ q then q + 1 else q := by
    intro q hq
    have h1 := wordB_in hw q hq
    have h2 : rd l (q : Int) = l.getD q 0 := by rw [rd_get hq, getD_get l q hq]
    rw [h2] at h1
    rw [bump_get P i _ (by rw [h.1]; omega), h.2 q hq]
  by_cases h1 : j < i
  · rw [if_pos h1, old j (by omega), if_neg (by omega)]
  · rw [if_neg h1]
    by_cases h2 : j = i
    · rw [if_pos h2, Int.toNat_natCast, ← h.1, bump_last, h2]
    · rw [if_neg h2, old (j - 1) (by omega), if_pos (by omega)]; omega
theorem inb_int (a b c : Nat) : (decide (min (a : Int) (b : Int) < (c : Int)) && decide ((c : Int) < max (a : Int) (b : Int))) = inb a b c := by
  unfold inb
  have e : ∀ x y : Nat, Nat.blt x y = decide (x < y) := fun x y => by
    cases h : Nat.blt x y with
    | true => exact (decide_eq_true (Nat.blt_eq.mp h)).symm
    | false => exact (decide_eq_false (fun hh => by rw [Nat.blt_eq.mpr hh] at h; cases h)).symm
  simp only [e]
  by_cases h : a < b
  · rw [decide_eq_true h, cond_true]
    congr 1 <;> (apply decide_eq_decide.mpr; omega)
  · rw [decide_eq_false h, cond_false]
    congr 1 <;> (apply decide_eq_decide.mpr; omega)
theorem crB_nat (a b c d : Nat) : crB (a : Int) (b : Int) (c : Int) (d : Int) = (inb a b c != inb a b d) := by
  unfold crB
  rw [inb_int, inb_int]
theorem walk_arcs (Q : List Int) (P : List Nat) (n : Nat) (hn : P.length = n) (hP : ∀ s, s < n → Q.getD s 0 = ((P.getD s 0 : Nat) : Int)) (i : Nat) (hi : i + 1 < n) (d : Nat) : ∀ j, n ≤ j + 2 * d →
    ((arcs Q n i d j).length == 0) = walkN (P.getD i 0) (P.getD (i + 1) 0) (P.drop j) := by
  induction d with
  | zero =>
    intro j hj
    rw [arcs, List.drop_of_length_le (by omega), walkN] <;> simp
  | succ d ih =>
    intro j hj
    rw [arcs]
    by_cases h : j + 1 < n
    · rw [if_pos h, List.drop_eq_getElem_cons (show j < P.length by omega), List.drop_eq_getElem_cons (show j + 1 < P.length by omega), walkN, ← ih (j + 2) (by omega)]
      have x : xc Q i j = (inb (P.getD i 0) (P.getD (i + 1) 0) P[j] != inb (P.getD i 0) (P.getD (i + 1) 0) P[j + 1]) := by
        unfold xc
        rw [hP i (by omega), hP (i + 1) (by omega), hP j (by omega), hP (j + 1) (by omega), crB_nat, List.getD_eq_getElem?_getD, List.getD_eq_getElem?_getD, List.getD_eq_getElem?_getD, List.getD_eq_getElem?_getD, List.getElem?_eq_getElem (show j < P.length by omega), List.getElem?_eq_getElem (show j + 1 < P.length by omega)]; rfl
      rw [x]
      cases inb (P.getD i 0) (P.getD (i + 1) 0) P[j] <;> cases inb (P.getD i 0) (P.getD (i + 1) 0) P[j + 1] <;> simp
    · rw [if_neg h]
      have hl : (P.drop j).length ≤ 1 := by rw [List.length_drop]; omega
      generalize P.drop j = t at hl
      match t, hl with
      | [], _ => rfl
      | [x], _ => rfl
theorem clean_arcs (Q : List Int) (P : List Nat) (n : Nat) (hn : P.length = n) (hP : ∀ s, s < n → Q.getD s 0 = ((P.getD s 0 : Nat) : Int)) (e : Nat) : ∀ i, n ≤ i + e →
    ((allArcs Q n e i).length == 0) = clean (P.drop i) := by
  induction e with
  | zero =>
    intro i hi
    rw [allArcs, List.drop_of_length_le (by omega), clean] <;> simp
  | succ e ih =>
    intro i hi
    rw [allArcs]
    by_cases h : i + 1 < n
    · have g : ∀ s, (hs : s < P.length) → P.getD s 0 = P[s] := fun s hs => by rw [List.getD_eq_getElem?_getD, List.getElem?_eq_getElem hs]; rfl
      have w := walk_arcs Q P n hn hP i h n (i + 2) (by omega)
      rw [if_pos h, List.drop_eq_getElem_cons (show i < P.length by omega), List.drop_eq_getElem_cons (show i + 1 < P.length by omega), clean, ← List.drop_eq_getElem_cons (show i + 1 < P.length by omega), ← ih (i + 1) (by omega), ← g i (by omega), ← g (i + 1) (by omega), ← w, List.length_append]
      cases h1 : (arcs Q n i n (i + 2)).length <;> simp
    · rw [if_neg h]
      have hl : (P.drop i).length ≤ 1 := by rw [List.length_drop]; omega
      generalize P.drop i = t at hl
      match t, hl with
      | [], _ => rfl
      | [x], _ => rfl
theorem foldB_clean {l : List Int} {P : List Nat} (h : isPos l P) (hl : 1 ≤ l.length ∧ l.length ≤ 8) (hw : wordB l = true) : foldB l = clean P := by
  obtain ⟨Q, h1, h2, h3⟩ := places l (by omega) hw l.length 0 (List.replicate l.length 0) (by omega) (by simp) (fun j hj => by omega)
  have hQ : ∀ s, s < l.length → Q.getD s 0 = ((P.getD s 0 : Nat) : Int) := by
    intro s hs
    obtain ⟨i, hi, e⟩ := word_all l (by omega) hw s hs
    have g1 := h2 i hi
    have g2 := h.2 i hi
    rw [e, Int.toNat_natCast] at g1 g2
    rw [g1, g2]
  have hc : impl_crossedArcs.f 700 l = some (allArcs Q l.length l.length 0) := by
    have i := iarc_l0 l Q (by omega) (by omega) h1 l.length 0 700 [] (by omega) (by omega) (by simp)
    rw [Int.natCast_zero, List.nil_append] at i
    have h5 := (h3 700 (by omega)).2
    rw [Int.natCast_zero] at h5
    unfold impl_crossedArcs.f impl_inverse.f
    rw [if_pos (by omega), if_pos (by omega), Int.toNat_natCast, h5, Option.bind_some, wrap_id (by omega) (by omega), show (l.length : Int) - 1 = ((l.length - 1 : Nat) : Int) by omega, i]
  have e := clean_arcs Q P l.length h.1 hQ l.length 0 (by omega)
  rw [List.drop_zero] at e
  rw [← e]
  unfold foldB impl_isFolding.f
  rw [hc, Option.bind_some, Option.getD_some]
  cases (allArcs Q l.length l.length 0).length <;> (simp; try omega)
/-- rows and their places, one for one -/
inductive Rel (m : Nat) : List (List Int) → List (List Nat) → Prop
  | nil : Rel m [] []
  | cons {l P X Y} : (l.length = m ∧ wordB l = true ∧ isPos l P) → Rel m X Y → Rel m (l :: X) (P :: Y)
theorem Rel.app {m : Nat} {X X' : List (List Int)} {Y Y' : List (List Nat)} (h : Rel m X Y) (h' : Rel m X' Y') : Rel m (X ++ X') (Y ++ Y') := by
  induction h with
  | nil => exact h'
  | cons a _ ih => exact .cons a ih
theorem Rel.len {m : Nat} {X : List (List Int)} {Y : List (List Nat)} (h : Rel m X Y) : X.length = Y.length := by
  induction h with
  | nil => rfl
  | cons _ _ ih => rw [List.length_cons, List.length_cons, ih]
theorem cand_rel (m : Nat) (hm : 1 ≤ m ∧ m ≤ 7) (l : List Int) (P : List Nat) (hl : l.length = m) (hw : wordB l = true) (hp : isPos l P) (d : Nat) : ∀ i, i + d = m + 1 → Rel (m + 1) (cand l d i) (candP P d i) := by
  induction d with
  | zero => intro i _; exact .nil
  | succ d ih =>
    intro i hi
    have h1 := isPos_ins hp hw i (by omega)
    have h2 := ins_word l hw i
    have h3 : (ins l i).length = m + 1 := by rw [ins_len, hl]
    rw [cand, candP, ← foldB_clean h1 (by omega) h2]
    cases foldB (ins l i) with
    | true => exact .cons ⟨h3, h2, h1⟩ (ih (i + 1) (by omega))
    | false => exact ih (i + 1) (by omega)
theorem grow_rel (m : Nat) (hm : 1 ≤ m ∧ m ≤ 7) {X : List (List Int)} {Y : List (List Nat)} (h : Rel m X Y) : Rel (m + 1) (X.flatMap fun l => cand l (l.length + 1) 0) (Y.flatMap fun P => candP P (P.length + 1) 0) := by
  induction h with
  | nil => exact .nil
  | cons a _ ih =>
    rw [List.flatMap_cons, List.flatMap_cons, a.2.2.1]
    exact (cand_rel m hm _ _ a.1 a.2.1 a.2.2 _ 0 (by rw [a.1]; omega)).app ih
theorem H_rel : ∀ m, m ≤ 7 → Rel (m + 1) (H m) (GP m)
  | 0, _ => .cons ⟨rfl, by decide, rfl, fun i hi => by have : i = 0 := by (simp at hi; omega)
                                                       subst this; rfl⟩ .nil
  | m + 1, h => grow_rel (m + 1) (by omega) (H_rel m (by omega))
theorem flat_perm {f g : List Int → List (List Int)} (h : ∀ x, (f x).Perm (g x)) : ∀ X : List (List Int), (X.flatMap f).Perm (X.flatMap g)
  | [] => List.Perm.refl _
  | x :: t => by rw [List.flatMap_cons, List.flatMap_cons]; exact (h x).append (flat_perm h t)
theorem perm_flat {f : List Int → List (List Int)} {X Y : List (List Int)} (h : X.Perm Y) : (X.flatMap f).Perm (Y.flatMap f) := by
  induction h with
  | nil => exact List.Perm.refl _
  | cons x _ ih => rw [List.flatMap_cons, List.flatMap_cons]; exact ih.append_left _
  | swap x y t => rw [List.flatMap_cons, List.flatMap_cons, List.flatMap_cons, List.flatMap_cons, ← List.append_assoc, ← List.append_assoc]; exact List.perm_append_comm.append_right _
  | trans _ _ i j => exact i.trans j
theorem all_made (k : Nat) (hk : 1200 ≤ k) (m : Nat) (hm : 1 ≤ m ∧ m ≤ 7) : ∀ (rows acc : List (List Int)), rowsOf m rows → acc.length + 8 * rows.length ≤ 5000000 → impl_foldings.all k acc rows = some (acc ++ rows.flatMap addsOf)
  | [], acc, _, _ => by rw [impl_foldings.all]; simp
  | p :: t, acc, hr, hb => by
    have hp := hr p (List.mem_cons_self ..)
    have he : impl_added.f k p = some (addsOf p) := (added_ev p (by omega) hp.2 k hk).2
    have hal := adds_len p
    rw [List.length_cons] at hb
    rw [impl_foldings.all, he, Option.bind_some, if_pos (by omega), all_made k hk m hm t _ (fun x hx => hr x (List.mem_cons_of_mem _ hx)) (by rw [List.length_append]; omega)]
    simp [List.append_assoc]
theorem go_made (k : Nat) (hk : 1200 ≤ k) (hne : ∀ m, m ≤ 7 → (GP m).length ≠ 0) (d : Nat) : ∀ (m : Nat) (rows : List (List Int)), m + d ≤ 7 → rowsOf (m + 1) rows → rows.length ≤ fac (m + 1) → rows.Perm (H m) →
    ∃ fin, impl_foldings.go k false d rows = some fin ∧ fin.length = (GP (m + d)).length := by
  induction d with
  | zero =>
    intro m rows hm hr hl hp
    exact ⟨rows, by rw [impl_foldings.go], by rw [hp.length_eq, (H_rel m (by omega)).len]; rfl⟩
  | succ d ih =>
    intro m rows hm hr hl hp
    have hfm : fac (m + 1) ≤ 40320 := fac_le ⟨m + 1, by omega⟩
    have hr2 : rowsOf (m + 2) (rows.flatMap addsOf) := by
      intro x hx
      obtain ⟨p, hp, hx⟩ := List.mem_flatMap.1 hx
      exact adds_rows p (m + 1) (hr p hp).1 (hr p hp).2 x hx
    have hl2 : (rows.flatMap addsOf).length ≤ fac (m + 2) := by
      refine Nat.le_trans (flat_len _ (m + 2) rows (fun x hx => ?_)) (Nat.mul_le_mul_right _ hl)
      have := adds_len x
      rw [(hr x hx).1] at this; exact this
    have hp2 : (rows.flatMap addsOf).Perm (H (m + 1)) := (flat_perm (g := fun l => cand l (l.length + 1) 0) (fun x => SortL.sortL_perm _) rows).trans (perm_flat hp)
    obtain ⟨fin, hf, hfl⟩ := ih (m + 1) _ (by omega) hr2 hl2 hp2
    refine ⟨fin, ?_, by rw [hfl, show m + 1 + d = m + (d + 1) by omega]⟩
    have hn : (rows.flatMap addsOf).length ≠ 0 := by
      rw [hp2.length_eq, (H_rel (m + 1) (by omega)).len]; exact hne (m + 1) (by omega)
    have hs : impl_foldings.strike false (rows.flatMap addsOf) = some (rows.flatMap addsOf) := by
      unfold impl_foldings.strike
      rw [if_neg hn, if_pos (List.all_eq_true.2 fun x hx => decide_eq_true (by have := (hr2 x hx).1; omega))]
      congr 1
      exact List.filter_eq_self.2 (fun x _ => by simp)
    rw [impl_foldings.go, if_pos (by omega), all_made k hk (m + 1) (by omega) rows [] hr (by simp only [List.length_nil]; omega), Option.bind_some, List.nil_append, hs, Option.bind_some]
    exact hf
def lenC {α : Type} : Nat → List α → Nat
  | 0, l => l.length
  | f + 1, l => if (l.drop 16).isEmpty = true then l.length else lenC f (l.drop 16) + 16
theorem lenC_eq {α : Type} : ∀ (f : Nat) (l : List α), lenC f l = l.length
  | 0, _ => rfl
  | f + 1, l => by
    rw [lenC]
    by_cases h : (l.drop 16).isEmpty = true
    · rw [if_pos h]
    · rw [if_neg h, lenC_eq f, List.length_drop]
      have : l.drop 16 ≠ [] := fun e => h (by rw [e]; rfl)
      have : 16 < l.length := by
        refine Classical.byContradiction fun hh => this (List.drop_of_length_le (by omega))
      omega
def tops : List Nat := [1, 1, 2, 4, 10, 24, 66, 174]
set_option maxRecDepth 100000 in
theorem counts : ∀ a : Fin 8, lenC 100 (GP a.val) = (a.val + 1) * tops.getD a.val 0 := by decide +kernel

end Go.Proofs.YtjgkcknopnollaaGreat.Pure
