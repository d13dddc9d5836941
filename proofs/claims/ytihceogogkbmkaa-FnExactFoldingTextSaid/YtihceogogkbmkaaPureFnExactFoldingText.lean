/- The law FnExactFoldingText, as plain lists tell it: at every slice of whole numbers the program's FoldingText answers what the reference's does. No condition but the law's own guard. -/
import Derived.Test.YtihceogogkbmkaaPStack
import Derived.Test.YtihceogogkbmkaaPLaws
import Derived.Test.YtihceogogkbmkaaX10
set_option linter.unusedVariables false
set_option linter.unusedSimpArgs false
namespace Go.Proofs.Ytihceogogkbmkaa.Pure
open Go.RowKit Go.Proofs.Ytihceogogkbmkaa.X Go.Proofs.YtihceogogkbmkaaW.PrintWords Go.Proofs.YtihceogogkbmkaaW.PrintLast Go.Proofs.YtihceogogkbmkaaW.PrintMore

theorem sn_append (a b : List Int) : strOfNums (a ++ b) = strOfNums a ++ strOfNums b := by
  unfold strOfNums
  apply ByteArray.ext
  simp
theorem text_l0 (l : List Int) (hl : l.length ≤ 8) (hw : wordB l = true) (d : Nat) : ∀ (k i : Nat) (x : List Int), i + d = l.length → x.length + d ≤ 1000 → d + 1 < k →
    ∃ r, spec_spText.l0 k (strOfNums x) l (l.length : Int) (i : Int) = some r ∧ impl_digits.l0 k x l (l.length : Int) (i : Int) = some r := by
  induction d with
  | zero =>
    intro k i x hi hx hk
    obtain ⟨k, rfl⟩ : ∃ m, k = m + 1 := ⟨k - 1, by omega⟩
    rw [spec_spText.l0, impl_digits.l0, if_neg (by omega), if_neg (by omega)]
    exact ⟨_, rfl, rfl⟩
  | succ d ih =>
    intro k i x hi hx hk
    obtain ⟨k, rfl⟩ : ∃ m, k = m + 2 := ⟨k - 2, by omega⟩
    have hr := wordB_in hw i (by omega)
    have e : spec_l1Num.f (k + 1) (rd l (i : Int)) = some (strOfNums [(wrap64 (48 + rd l (i : Int))) % 256]) := by
      rw [spec_l1Num.f, if_pos (by omega)]
    have c1 : (i : Int) < (l.length : Int) := by omega
    have c2 : (0 : Int) ≤ (i : Int) := by omega
    have c3 : x.length < 140737488355328 := by omega
    rw [spec_spText.l0, impl_digits.l0]
    simp only [c1, c2, c3, if_true, e, Option.bind_some]
    rw [if_pos (by rw [strOfNums_size, strOfNums_size]; simp; omega), ← sn_append, wrap_succ (by omega)]
    exact ih (k + 1) (i + 1) _ (by omega) (by simp; omega) (by omega)
theorem both_ev (l : List Int) (h : l.length ≤ 1048576) (k : Nat) (hk : l.length + 1000 ≤ k) : ∃ r, spec_FoldingText.f k l = some r ∧ impl_FoldingText.f k l = some r := by
  unfold spec_FoldingText.f impl_FoldingText.f
  rw [spStack_ev l h k (by omega), isStack_ev l k (by omega)]
  simp only [Option.bind_some]
  cases hp : stackB l with
  | false => exact ⟨_, rfl, rfl⟩
  | true =>
    have hl := stackB_len hp
    obtain ⟨r, h1, h2⟩ := text_l0 l hl.2 (stackB_word hp) l.length k 0 [] (by omega) (by simp; omega) (by omega)
    rw [Int.natCast_zero] at h1 h2
    unfold spec_spText.f impl_digits.f
    have e : (⟨#[]⟩ : ByteArray) = strOfNums [] := rfl
    rw [if_pos rfl, if_pos rfl, e, h1, h2]
    exact ⟨_, rfl, rfl⟩
theorem FnExactFoldingText : laws_FnExactFoldingText.Pure := by
  intro l _ _ _
  by_cases h : l.length ≤ 1048576
  · obtain ⟨n, hn0⟩ : ∃ n, n = l.length + 2000 := ⟨_, rfl⟩
    obtain ⟨r, h1, h2⟩ := both_ev l h (n + 1) (by omega)
    have T1 := fun k hk => toIntS_ev l h k hk
    have E1 := fun k hk => eqIntS_ev l h k hk
    refine ⟨n + 1, ?_⟩
    unfold laws_FnExactFoldingText.f
    rw [if_neg (by omega)]
    simp (disch := omega) only [T1, h1, h2, Option.bind_some, if_true, bne_self_eq_false]
    rw [laws_FnExactFoldingText.j0]
    simp (disch := omega) only [T1, E1, Option.bind_some, if_true, if_false, Bool.false_eq_true]
  · refine ⟨1, ?_⟩
    unfold laws_FnExactFoldingText.f
    rw [if_pos (by omega)]

end Go.Proofs.Ytihceogogkbmkaa.Pure
