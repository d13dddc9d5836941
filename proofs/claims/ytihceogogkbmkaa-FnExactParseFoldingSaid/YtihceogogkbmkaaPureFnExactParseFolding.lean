/- The law FnExactParseFolding, as plain lists tell it: at every text the program's ParseFolding answers what the reference's does, and what it answers is of its own. No condition but the law's own guard. -/
import Derived.Test.YtihceogogkbmkaaPStack
import Derived.Test.YtihceogogkbmkaaPLaws
import Derived.Test.YtihceogogkbmkaaX9
set_option linter.unusedVariables false
set_option linter.unusedSimpArgs false
namespace Go.Proofs.Ytihceogogkbmkaa.Pure
open Go.RowKit Go.Proofs.Ytihceogogkbmkaa.X Go.Proofs.YtihceogogkbmkaaW.PrintWords Go.Proofs.YtihceogogkbmkaaW.PrintLast Go.Proofs.YtihceogogkbmkaaW.PrintMore

/-- the numbers that a text's bytes stand for, from place i on -/
def numsOf (s : ByteArray) : Nat → Nat → List Int
  | 0, _ => []
  | d + 1, i => wrap64 (wrap64 (bt s (i : Int)) - 48) :: numsOf s d (i + 1)
theorem numsOf_length (s : ByteArray) (d : Nat) : ∀ i, (numsOf s d i).length = d := by
  induction d with
  | zero => intro i; rfl
  | succ d ih => intro i; simp [numsOf, ih]
def ans (l : List Int) : List Int × Bool := if stackB l = true then (l, true) else ([], false)
theorem iparse_l0 (s : ByteArray) (hs : s.size ≤ 1048576) (d : Nat) : ∀ (k i : Nat) (x : List Int), i + d = s.size → x.length = i → d + 400 ≤ k →
    impl_ParseFolding.l0 k s x (s.size : Int) (i : Int) = some (ans (x ++ numsOf s d i)) := by
  induction d with
  | zero =>
    intro k i x hi hx hk
    obtain ⟨k, rfl⟩ : ∃ m, k = m + 1 := ⟨k - 1, by omega⟩
    rw [impl_ParseFolding.l0, if_neg (by omega), isStack_ev x k (by omega), Option.bind_some]
    simp only [numsOf, List.append_nil, ans]
    split <;> rfl
  | succ d ih =>
    intro k i x hi hx hk
    obtain ⟨k, rfl⟩ : ∃ m, k = m + 1 := ⟨k - 1, by omega⟩
    rw [impl_ParseFolding.l0, if_pos (by omega), if_pos (by omega), if_pos (by omega), if_pos (by omega), wrap_succ (by omega), ih k (i + 1) _ (by omega) (by simp; omega) (by omega)]
    simp [numsOf]
theorem sparse_l0 (s : ByteArray) (hs : s.size ≤ 8) (d : Nat) : ∀ (k i : Nat) (x : List Int), i + d = s.size → x.length = i → d + 400 ≤ k →
    spec_ParseFolding.l0 k s x (i : Int) = some (ans (x ++ numsOf s d i)) := by
  induction d with
  | zero =>
    intro k i x hi hx hk
    obtain ⟨k, rfl⟩ : ∃ m, k = m + 1 := ⟨k - 1, by omega⟩
    rw [spec_ParseFolding.l0, if_neg (by omega), spStack_ev x (by omega) k (by omega), Option.bind_some]
    simp only [numsOf, List.append_nil, ans]
    split <;> rfl
  | succ d ih =>
    intro k i x hi hx hk
    obtain ⟨k, rfl⟩ : ∃ m, k = m + 1 := ⟨k - 1, by omega⟩
    rw [spec_ParseFolding.l0, if_pos (by omega), if_pos (by omega), if_pos (by omega), wrap_succ (by omega), ih k (i + 1) _ (by omega) (by simp; omega) (by omega)]
    simp [numsOf]
theorem both_ev (s : ByteArray) (hs : s.size ≤ 1048576) : ∃ (r1 : List Int) (r3 : Bool), r1.length ≤ 24 ∧ ∀ k, s.size + 1000 ≤ k → spec_ParseFolding.f k s = some (r1, r3) ∧ impl_ParseFolding.f k s = some (r1, r3) := by
  have hl : (ans (numsOf s s.size 0)).1.length ≤ 24 := by
    unfold ans
    split
    · rename_i h
      have := (stackB_len h).2
      show (numsOf s s.size 0).length ≤ 24
      omega
    · simp
  refine ⟨(ans (numsOf s s.size 0)).1, (ans (numsOf s s.size 0)).2, hl, fun k hk => ?_⟩
  have hi := iparse_l0 s hs s.size k 0 [] (by omega) rfl (by omega)
  rw [Int.natCast_zero, List.nil_append] at hi
  refine ⟨?_, hi⟩
  unfold spec_ParseFolding.f
  by_cases h8 : s.size ≤ 8
  · have hs := sparse_l0 s h8 s.size k 0 [] (by omega) rfl (by omega)
    rw [Int.natCast_zero, List.nil_append] at hs
    rw [if_neg (by omega), hs]
  · rw [if_pos (by omega)]
    have : ¬ stackB (numsOf s s.size 0) = true := fun h => by
      have := (stackB_len h).2
      rw [numsOf_length] at this
      omega
    simp [ans, this]
theorem FnExactParseFolding : laws_FnExactParseFolding.Pure := by
  intro s _
  by_cases h : s.size ≤ 1048576
  · obtain ⟨r1, r3, hn1, hr⟩ := both_ev s h
    have hs : ∀ k, s.size + 1000 ≤ k → spec_ParseFolding.f k s = some (r1, r3) := fun k hk => (hr k hk).1
    have hi : ∀ k, s.size + 1000 ≤ k → impl_ParseFolding.f k s = some (r1, r3) := fun k hk => (hr k hk).2
    have E2 := fun k hk => eqIntS_ev r1 (by omega) k hk
    have M2 := fun k hk => markIntS_ev r1 1 (by omega) (by omega) k hk
    have H2 := fun k hk => heldIntS_ev r1.length 1 (by omega) (by omega) k hk
    simp only [Int.natCast_one] at M2 H2
    obtain ⟨n, hn0⟩ : ∃ n, n = s.size + 2000 := ⟨_, rfl⟩
    have N2 : ¬ ((1 + r1.length : Nat) : Int) < 0 := by omega
    refine ⟨n + 3, ?_⟩
    unfold laws_FnExactParseFolding.f
    rw [if_neg (by omega)]
    simp (disch := omega) only [hs, hi, E2, Option.bind_some, if_true, bne_self_eq_false]
    rw [laws_FnExactParseFolding.j0]
    simp (disch := omega) only [hi, M2, H2, N2, E2, Option.bind_some, if_true, if_false, bne_self_eq_false, Bool.false_eq_true]
    rw [laws_FnExactParseFolding.j1]
    simp (disch := omega) only [H2, N2, Option.bind_some, if_true, if_false, Bool.false_eq_true]
  · refine ⟨1, ?_⟩
    unfold laws_FnExactParseFolding.f
    rw [if_pos (by omega)]

end Go.Proofs.Ytihceogogkbmkaa.Pure
