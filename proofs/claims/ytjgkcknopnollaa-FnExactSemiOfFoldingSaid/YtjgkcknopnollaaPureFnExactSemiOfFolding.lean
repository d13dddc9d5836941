/- The law FnExactSemiOfFolding, as plain lists tell it: at every slice of whole numbers the program's SemiOfFolding answers what the reference's does, and what it answers is of its own. No condition but the law's own guard. -/
import Derived.Test.YtjgkcknopnollaaPStack
import Derived.Test.YtjgkcknopnollaaPLaws
import Derived.Test.YtjgkcknopnollaaPFoldIs
import Derived.Test.YtjgkcknopnollaaQ10
import Derived.Test.YtjgkcknopnollaaQ3
import Derived.Test.YtjgkcknopnollaaQ9
set_option linter.unusedVariables false
set_option linter.unusedSimpArgs false
namespace Go.Proofs.Ytjgkcknopnollaa.Pure
open Go.RowKit Go.Proofs.Ytjgkcknopnollaa.Q Go.Proofs.YtjgkcknopnollaaW.PrintWords Go.Proofs.YtjgkcknopnollaaW.PrintLast Go.Proofs.YtjgkcknopnollaaW.PrintMore

def wordsOf (n : Nat) : Nat → List (List Int)
  | 0 => [[]]
  | d + 1 => (wordsOf n d).flatMap fun t => ((List.range n).filter fun (x : Nat) => !(t.contains (x : Int))).map fun (x : Nat) => (x : Int) :: t
theorem mem_words (n : Nat) : ∀ l : List Int, l.Nodup → (∀ x ∈ l, 0 ≤ x ∧ x < (n : Int)) → l ∈ wordsOf n l.length
  | [], _, _ => by simp [wordsOf]
  | x :: t, hn, h => by
    obtain ⟨hn1, hn2⟩ := List.nodup_cons.1 hn
    have h1 := mem_words n t hn2 (fun y hy => h y (List.mem_cons_of_mem _ hy))
    obtain ⟨hx1, hx2⟩ := h x (List.mem_cons_self ..)
    rw [List.length_cons, wordsOf, List.mem_flatMap]
    refine ⟨t, h1, List.mem_map.2 ⟨x.toNat, List.mem_filter.2 ⟨List.mem_range.2 (by omega), ?_⟩, by rw [Int.toNat_of_nonneg hx1]⟩⟩
    rw [Int.toNat_of_nonneg hx1]
    simpa using hn1
def chk (l : List Int) : Bool := !(stackB l) || ((spec_SemiOfFolding.f 3000 l).isSome && decide (spec_SemiOfFolding.f 3000 l = impl_SemiOfFolding.f 3000 l) && decide (((spec_SemiOfFolding.f 3000 l).getD ([], false)).1.length ≤ 24))
set_option maxRecDepth 100000 in
theorem all5 : ∀ n : Fin 6, ((wordsOf n.val n.val).all chk) = true := by decide +kernel
set_option maxRecDepth 100000 in
theorem only6 : ((wordsOf 6 6).all chk) = true := by decide +kernel
theorem all6 (n : Nat) (h : n ≤ 6) : ((wordsOf n n).all chk) = true := by
  by_cases h6 : n = 6
  · subst h6; exact only6
  · exact all5 ⟨n, by omega⟩
theorem up {α : Type} {g : Nat → Option α} (hm : ∀ k, LeO (g k) (g (k + 1))) {r : α} {k : Nat} (h : g k = some r) : ∀ d, g (k + d) = some r
  | 0 => h
  | d + 1 => hm _ r (up hm h d)
theorem both_ev (l : List Int) (h : l.length ≤ 1048576) : ∃ (r1 : List Int) (r3 : Bool), r1.length ≤ 24 ∧ ∀ k, l.length + 4000 ≤ k → spec_SemiOfFolding.f k l = some (r1, r3) ∧ impl_SemiOfFolding.f k l = some (r1, r3) := by
  cases hp : stackB l with
  | false =>
    refine ⟨[], false, by simp, fun k hk => ?_⟩
    obtain ⟨k, rfl⟩ : ∃ m, k = m + 1 := ⟨k - 1, by omega⟩
    unfold spec_SemiOfFolding.f impl_SemiOfFolding.f
    rw [spStack_ev l h _ (by omega), isStack_ev l _ (by omega), hp]
    simp only [Option.bind_some, Bool.false_eq_true, if_false]
    rw [impl_SemiOfFolding.j0, if_pos rfl]
    exact ⟨trivial, rfl⟩
  | true =>
    have hl := stackB_len hp
    have hw := stackB_word hp
    by_cases h6 : l.length ≤ 6
    · have hnd : l.Nodup := by
        unfold wordB at hw
        rw [Bool.and_eq_true] at hw
        exact of_decide_eq_true hw.2
      have hm : l ∈ wordsOf l.length l.length := mem_words l.length l hnd (fun x hx => by
        obtain ⟨i, hi, rfl⟩ := List.getElem_of_mem hx
        have := wordB_in hw i hi
        rwa [rd_get hi] at this)
      have hc := List.all_eq_true.1 (all6 l.length h6) l hm
      unfold chk at hc
      rw [hp] at hc
      simp only [Bool.not_true, Bool.false_or, Bool.and_eq_true] at hc
      obtain ⟨⟨c1, c2⟩, c3⟩ := hc
      obtain ⟨⟨r1, r3⟩, hr⟩ := Option.isSome_iff_exists.1 c1
      have c2 := of_decide_eq_true c2
      have c3 := of_decide_eq_true c3
      rw [hr] at c2 c3
      refine ⟨r1, r3, c3, fun k hk => ?_⟩
      obtain ⟨d, rfl⟩ : ∃ d, k = 3000 + d := ⟨k - 3000, by omega⟩
      exact ⟨up (g := fun k => spec_SemiOfFolding.f k l) (fun k => spec_SemiOfFolding.mono l k) hr d, up (g := fun k => impl_SemiOfFolding.f k l) (fun k => impl_SemiOfFolding.mono l k) c2.symm d⟩
    · refine ⟨[], false, by simp, fun k hk => ?_⟩
      obtain ⟨k, rfl⟩ : ∃ m, k = m + 1 := ⟨k - 1, by omega⟩
      have hf := (fold_ev l hl hw (k + 1) (by omega)).1
      unfold spec_SemiOfFolding.f impl_SemiOfFolding.f
      rw [spStack_ev l h _ (by omega), isStack_ev l _ (by omega), hp]
      have h6' : ((l.length : Int) > 6) = True := eq_true (by omega)
      have h0' : ((0 : Int) < (l.length : Int)) = True := eq_true (by omega)
      simp only [Option.bind_some, if_true, h6', h0', hf]
      refine ⟨?_, by rw [impl_SemiOfFolding.j0, if_pos rfl]⟩
      repeat' split
      all_goals rfl
theorem FnExactSemiOfFolding : laws_FnExactSemiOfFolding.Pure := by
  intro l _ _ _
  by_cases h : l.length ≤ 1048576
  · obtain ⟨r1, r3, hn1, hr⟩ := both_ev l h
    have hs : ∀ k, l.length + 4000 ≤ k → spec_SemiOfFolding.f k l = some (r1, r3) := fun k hk => (hr k hk).1
    have hi : ∀ k, l.length + 4000 ≤ k → impl_SemiOfFolding.f k l = some (r1, r3) := fun k hk => (hr k hk).2
    have T1 := fun k hk => toIntS_ev l h k hk
    have E1 := fun k hk => eqIntS_ev l h k hk
    have E2 := fun k hk => eqIntS_ev r1 (by omega) k hk
    have M1 := fun k hk => markIntS_ev l 1 h (by omega) k hk
    have M2 := fun k hk => markIntS_ev r1 1 (by omega) (by omega) k hk
    have H2 := fun k hk => heldIntS_ev r1.length 1 (by omega) (by omega) k hk
    simp only [Int.natCast_one] at M1 M2 H2
    obtain ⟨n, hn0⟩ : ∃ n, n = l.length + 5000 := ⟨_, rfl⟩
    have N1 : ¬ ((1 + l.length : Nat) : Int) < 0 := by omega
    have N2 : ¬ ((1 + r1.length : Nat) : Int) < 0 := by omega
    refine ⟨n + 4, ?_⟩
    unfold laws_FnExactSemiOfFolding.f
    rw [if_neg (by omega)]
    simp (disch := omega) only [T1, hs, hi, E2, Option.bind_some, if_true, bne_self_eq_false]
    rw [laws_FnExactSemiOfFolding.j0]
    simp (disch := omega) only [T1, E1, M1, N1, E2, Option.bind_some, if_true, if_false, bne_self_eq_false, Bool.false_eq_true]
    rw [laws_FnExactSemiOfFolding.j1]
    simp (disch := omega) only [T1, hi, M2, H2, N2, E2, Option.bind_some, if_true, if_false, bne_self_eq_false, Bool.false_eq_true]
    rw [laws_FnExactSemiOfFolding.j2]
    simp (disch := omega) only [H2, N2, Option.bind_some, if_true, if_false, Bool.false_eq_true]
  · refine ⟨1, ?_⟩
    unfold laws_FnExactSemiOfFolding.f
    rw [if_pos (by omega)]

end Go.Proofs.Ytjgkcknopnollaa.Pure
