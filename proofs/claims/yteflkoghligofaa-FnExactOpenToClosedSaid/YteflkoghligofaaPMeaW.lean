/- The meander with a word: the program's and the reference's are one. -/
import Derived.Test.YteflkoghligofaaPClosed
import Derived.Test.YteflkoghligofaaPLaws
import Derived.Test.YteflkoghligofaaM1
import Derived.Test.YteflkoghligofaaM10
import Derived.Test.YteflkoghligofaaM3
import Derived.Test.YteflkoghligofaaM4
import Derived.Test.YteflkoghligofaaM9
set_option linter.unusedVariables false
set_option linter.unusedSimpArgs false
namespace Go.Proofs.Yteflkoghligofaa.Pure
open Go.RowKit Go.Proofs.Yteflkoghligofaa.M Go.Proofs.YteflkoghligofaaW.PrintWords Go.Proofs.YteflkoghligofaaW.PrintLast Go.Proofs.YteflkoghligofaaW.PrintMore

theorem meaW_l0 (l : List Int) (hl : l.length ≤ 12) (hw : wordB l = true) (d : Nat) : ∀ (i : Nat) (p q : List Int), i + 2 * d = l.length → p.length = l.length → q.length = l.length →
    ∃ r s : List Int, r.length = l.length ∧ s.length = l.length ∧ ∀ k, d < k → spec_peMeander.l0 k l (l.length : Int) (i : Int) p q = some (r, s) ∧ impl_meanderOf.l0 k l (i : Int) p q = some (r, s) := by
  induction d with
  | zero =>
    intro i p q hi hp hq
    refine ⟨p, q, hp, hq, fun k hk => ?_⟩
    obtain ⟨k, rfl⟩ : ∃ m, k = m + 1 := ⟨k - 1, by omega⟩
    rw [spec_peMeander.l0, impl_meanderOf.l0, if_neg (by omega), if_neg (by omega)]
    exact ⟨rfl, rfl⟩
  | succ d ih =>
    intro i p q hi hp hq
    have e1 : wrap64 ((i : Int) + 1) = ((i + 1 : Nat) : Int) := wrap_succ (by omega)
    have e2 : wrap64 ((i : Int) + 2) = ((i + 2 : Nat) : Int) := by rw [wrap_id (by omega) (by omega)]; omega
    obtain ⟨m, hm, hml⟩ : ∃ m : Nat, Int.tmod ((i + 2 : Nat) : Int) (l.length : Int) = (m : Int) ∧ m < l.length := ⟨(i + 2) % l.length, by rw [Int.tmod_eq_emod_of_nonneg (by omega)]; omega, Nat.mod_lt _ (by omega)⟩
    have ha := wordB_in hw i (by omega)
    have hb := wordB_in hw (i + 1) (by omega)
    have hc := wordB_in hw m hml
    obtain ⟨r, s, hr, hs, h⟩ := ih (i + 2) ((p.set (rd l (i : Int)).toNat (rd l ((i + 1 : Nat) : Int))).set (rd l ((i + 1 : Nat) : Int)).toNat (rd l (i : Int))) ((q.set (rd l ((i + 1 : Nat) : Int)).toNat (rd l (m : Int))).set (rd l (m : Int)).toNat (rd l ((i + 1 : Nat) : Int))) (by omega) (by simpa using hp) (by simpa using hq)
    refine ⟨r, s, hr, hs, fun k hk => ?_⟩
    obtain ⟨k, rfl⟩ : ∃ m, k = m + 1 := ⟨k - 1, by omega⟩
    obtain ⟨h1, h2⟩ := h k (by omega)
    rw [spec_peMeander.l0, impl_meanderOf.l0, e1, e2, hm]
    have c0 : (i : Int) < (l.length : Int) := by omega
    have c1 : (0 : Int) ≤ (i : Int) := by omega
    have c2 : (0 : Int) ≤ ((i + 1 : Nat) : Int) := by omega
    have c3 : ((i + 1 : Nat) : Int) < (l.length : Int) := by omega
    have c4 : ¬ (l.length : Int) = 0 := by omega
    have c5 : (0 : Int) ≤ (m : Int) := by omega
    have c6 : (m : Int) < (l.length : Int) := by omega
    simp only [if_pos c0, if_pos c1, if_pos c2, if_pos c3, if_neg c4, if_pos c5, if_pos c6, hp, hq, if_pos ha.1, if_pos ha.2, if_pos hb.1, if_pos hb.2, if_pos hc.1, if_pos hc.2]
    exact ⟨h1, h2⟩
theorem meaW_ev (l : List Int) (hl : l.length ≤ 12) (hw : wordB l = true) (he : l.length % 2 = 0) :
    ∃ r s : List Int, r.length = l.length ∧ s.length = l.length ∧ ∀ k, 100 ≤ k → spec_peMeander.f k l = some (r, s) ∧ impl_meanderOf.f k l = some (r, s) := by
  obtain ⟨r, s, hr, hs, h⟩ := meaW_l0 l hl hw (l.length / 2) 0 (List.replicate l.length 0) (List.replicate l.length 0) (by omega) (by simp) (by simp)
  refine ⟨r, s, hr, hs, fun k hk => ?_⟩
  obtain ⟨h1, h2⟩ := h k (by omega)
  rw [Int.natCast_zero] at h1 h2
  unfold spec_peMeander.f impl_meanderOf.f
  rw [if_pos (by omega), if_pos (by omega), if_pos (by omega), if_pos (by omega), Int.toNat_natCast]
  exact ⟨h1, h2⟩
theorem closedB_even {l : List Int} (h : closedB l = true) : l.length % 2 = 0 := by
  unfold closedB clB at h
  simp only [Bool.and_eq_true, decide_eq_true_eq] at h
  exact h.2.1.2.1
/-- what both answer for a closed word, and for another one -/
theorem fromWord_ev (l : List Int) (hl : l.length ≤ 1048576) : ∃ (r1 r2 : List Int) (q : Bool), r1.length ≤ 12 ∧ r2.length ≤ 12 ∧ ∀ k, l.length + 1000 ≤ k → spec_FromPermutation.f k l = some (r1, r2, q) ∧ impl_FromPermutation.f k l = some (r1, r2, q) := by
  cases hp : closedB l with
  | false =>
    refine ⟨[], [], false, by simp, by simp, fun k hk => ?_⟩
    unfold spec_FromPermutation.f impl_FromPermutation.f
    rw [peClosed_ev l hl k (by omega), isMeanderWord_ev l k (by omega), hp]
    exact ⟨rfl, rfl⟩
  | true =>
    have h12 := ptsB_len (closedB_pts hp)
    obtain ⟨r, s, hr, hs, h⟩ := meaW_ev l h12 (ptsB_word (closedB_pts hp)) (closedB_even hp)
    refine ⟨r, s, true, by omega, by omega, fun k hk => ?_⟩
    unfold spec_FromPermutation.f impl_FromPermutation.f
    rw [peClosed_ev l hl k (by omega), isMeanderWord_ev l k (by omega), hp]
    simp only [Option.bind_some, if_true]
    rw [(h k (by omega)).1, (h k (by omega)).2]
    exact ⟨rfl, rfl⟩
theorem eqMeander_ev (a b : List Int) (ha : a.length ≤ 1048576) (hb : b.length ≤ 1048576) (k : Nat) (hk : a.length + b.length < k) : laws_eqMeander.f k a b a b = some true := by
  unfold laws_eqMeander.f
  rw [eqIntS_ev a ha k (by omega), eqIntS_ev b hb k (by omega)]; rfl
theorem markMeander_ev (a b : List Int) (ha : a.length ≤ 1048576) (hb : b.length ≤ 1048576) (k : Nat) (hk : a.length + b.length < k) : laws_markMeander.f k a b 1 = some (((1 + a.length + b.length : Nat) : Int), marks 1 a.length, marks (1 + a.length) b.length) := by
  unfold laws_markMeander.f
  have h1 := markIntS_ev a 1 ha (by omega) k (by omega)
  have h2 := markIntS_ev b (1 + a.length) hb (by omega) k (by omega)
  rw [Int.natCast_one] at h1
  rw [h1, Option.bind_some, h2]; rfl
theorem heldMeander_ev (n m : Nat) (ha : n ≤ 1048576) (hb : m ≤ 1048576) (k : Nat) (hk : n + m < k) : laws_heldMeander.f k (marks 1 n) (marks (1 + n) m) 1 = some ((1 + n + m : Nat) : Int) := by
  unfold laws_heldMeander.f
  have h1 := heldIntS_ev n 1 ha (by omega) k (by omega)
  have h2 := heldIntS_ev m (1 + n) hb (by omega) k (by omega)
  rw [Int.natCast_one] at h1
  rw [h1, Option.bind_some, if_neg (by omega), h2, Option.bind_some, if_neg (by omega)]

end Go.Proofs.Yteflkoghligofaa.Pure
