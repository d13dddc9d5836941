/- What the helpers of the exact laws over slices of slices compute: eqIntSS, markIntSS. -/
import Derived.Test.YtoblagangofflaaPLaws
import Derived.Test.YtoblagangofflaaT0
import Derived.Test.YtoblagangofflaaT4
set_option linter.unusedVariables false
set_option linter.unusedSimpArgs false
namespace Go.Proofs.Ytoblagangofflaa.Pure
open Go.RowKit Go.Proofs.Ytoblagangofflaa.T Go.Proofs.YtoblagangofflaaW.PrintWords Go.Proofs.YtoblagangofflaaW.PrintLast Go.Proofs.YtoblagangofflaaW.PrintMore

theorem rdL1_get {l : List (List Int)} {i : Nat} (h : i < l.length) : rd_L1 l (i : Int) = l[i] := by
  unfold rd_L1; simp [h]
theorem eqIntSS_l0 (R : List (List Int)) (hR : R.length ≤ 1048576) (hr : ∀ x ∈ R, x.length ≤ 1048576) (d : Nat) : ∀ (k i : Nat), i + d = R.length → d + 1048577 ≤ k →
    laws_eqIntSS.l0 k R R (i : Int) = some true := by
  induction d with
  | zero =>
    intro k i hi hk
    obtain ⟨k, rfl⟩ : ∃ m, k = m + 1 := ⟨k - 1, by omega⟩
    rw [laws_eqIntSS.l0, if_neg (by omega)]
  | succ d ih =>
    intro k i hi hk
    obtain ⟨k, rfl⟩ : ∃ m, k = m + 1 := ⟨k - 1, by omega⟩
    have hlt : i < R.length := by omega
    have hx := hr _ (List.getElem_mem hlt)
    rw [laws_eqIntSS.l0, if_pos (by omega), if_pos (by omega), if_pos (by omega), rdL1_get hlt, eqIntS_ev _ hx k (by omega), Option.bind_some, if_pos rfl, wrap_succ (by omega), ih k (i + 1) (by omega) (by omega)]
theorem eqIntSS_ev (R : List (List Int)) (hR : R.length ≤ 1048576) (hr : ∀ x ∈ R, x.length ≤ 1048576) (k : Nat) (hk : 2097153 ≤ k) : laws_eqIntSS.f k R R = some true := by
  unfold laws_eqIntSS.f
  rw [if_pos rfl]
  exact eqIntSS_l0 R hR hr R.length k 0 (by omega) (by omega)
/-- the marks of each row, one behind the other -/
def marksS (m : Nat) : List (List Int) → List (List Int) × Nat
  | [] => ([], m)
  | x :: t => (marks m x.length :: (marksS (m + x.length) t).1, (marksS (m + x.length) t).2)
theorem marksS_length (R : List (List Int)) : ∀ m, (marksS m R).1.length = R.length := by
  induction R with
  | nil => intro m; rfl
  | cons x t ih => intro m; simp [marksS, ih]
theorem marksS_le (R : List (List Int)) (hr : ∀ x ∈ R, x.length ≤ 1048576) : ∀ m, m ≤ (marksS m R).2 ∧ (marksS m R).2 ≤ m + R.length * 1048576 := by
  induction R with
  | nil => intro m; simp [marksS]
  | cons x t ih =>
    intro m
    have h1 := hr x (by simp)
    have h2 := ih (fun y hy => hr y (by simp [hy])) (m + x.length)
    simp only [marksS, List.length_cons, Nat.succ_mul]
    omega
theorem markSS_l0 (hm0 : True) (t : List (List Int)) : ∀ (k i m : Nat) (done : List (List Int)), done.length = i → (i + t.length) ≤ 1048576 → (∀ x ∈ t, x.length ≤ 1048576) → m + t.length * 1048576 ≤ 4611686018427387904 → t.length + 1048577 ≤ k →
    laws_markIntSS.l0 k (done ++ t) (m : Int) (i : Int) = some (((marksS m t).2 : Int), done ++ (marksS m t).1) := by
  induction t with
  | nil =>
    intro k i m done hd hl hr hm hk
    obtain ⟨k, rfl⟩ : ∃ m, k = m + 1 := ⟨k - 1, by omega⟩
    rw [laws_markIntSS.l0, if_neg (by simp; omega)]
    rfl
  | cons x t ih =>
    intro k i m done hd hl hr hm hk
    obtain ⟨k, rfl⟩ : ∃ m, k = m + 1 := ⟨k - 1, by omega⟩
    have hx := hr x (by simp)
    rw [List.length_cons] at hl hk hm
    rw [Nat.succ_mul] at hm
    have hm2 : m + x.length + t.length * 1048576 ≤ 4611686018427387904 := by generalize t.length * 1048576 = q at hm ⊢; omega
    have hm3 : m ≤ 4611686018427387904 := Nat.le_trans (Nat.le_add_right _ _) hm
    clear hm
    have hget : rd_L1 (done ++ x :: t) (i : Int) = x := by
      rw [rdL1_get (by simp; omega)]
      simp [← hd]
    have hset : (done ++ x :: t).set i (marks m x.length) = (done ++ [marks m x.length]) ++ t := by
      rw [List.set_append_right (h := by omega), hd, Nat.sub_self, List.set_cons_zero]; simp
    rw [laws_markIntSS.l0, if_pos (by simp; omega), if_pos (by omega), hget, markIntS_ev x m hx hm3 k (by omega), Option.bind_some]
    simp only [Int.toNat_natCast, hset]
    rw [wrap_succ (by omega), ih k (i + 1) (m + x.length) _ (by simp; omega) (by omega) (fun y hy => hr y (by simp [hy])) hm2 (by omega)]
    simp [marksS]
theorem markIntSS_ev (R : List (List Int)) (hR : R.length ≤ 1048576) (hr : ∀ x ∈ R, x.length ≤ 1048576) (k : Nat) (hk : 2097153 ≤ k) : laws_markIntSS.f k R 1 = some (((marksS 1 R).2 : Int), (marksS 1 R).1) := by
  have h1 : R.length * 1048576 ≤ 1048576 * 1048576 := Nat.mul_le_mul_right _ hR
  have := markSS_l0 trivial R k 0 1 [] rfl (by simpa using hR) hr (Nat.le_trans (Nat.add_le_add_left h1 1) (by decide)) (by omega)
  unfold laws_markIntSS.f
  exact this

end Go.Proofs.Ytoblagangofflaa.Pure
