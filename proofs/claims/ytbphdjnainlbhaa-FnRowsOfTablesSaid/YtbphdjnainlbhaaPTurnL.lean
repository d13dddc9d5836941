/- Rows turned into columns: asked for alike, the same determinant, the same rank. -/
import Derived.Test.YtbphdjnainlbhaaPDep
import Derived.Test.YtbphdjnainlbhaaPDet
import Derived.Test.YtbphdjnainlbhaaPTrank
import Derived.Test.YtbphdjnainlbhaaQA2
set_option linter.unusedVariables false
set_option linter.unusedSimpArgs false
namespace Go.Proofs.Ytbphdjnainlbhaa.Pure
open Go.RowKit Go.Proofs.Ytbphdjnainlbhaa.R Go.Proofs.YtbphdjnainlbhaaW.PrintWords Go.Proofs.YtbphdjnainlbhaaW.PrintLast Go.Proofs.YtbphdjnainlbhaaW.PrintMore

def turnL (l : List (List Int)) : List (List Int) := (List.range l.length).map fun c => l.map fun row => row.getD c 0
theorem turnL_len (l : List (List Int)) : (turnL l).length = l.length := by unfold turnL; rw [List.length_map, List.length_range]
theorem turnL_row (l : List (List Int)) : ∀ x ∈ turnL l, x.length = l.length := by
  intro x hx
  obtain ⟨c, _, rfl⟩ := List.mem_map.1 hx
  rw [List.length_map]
theorem rowsB_of {l : List (List Int)} (h1 : 1 ≤ l.length ∧ l.length ≤ 14) (h2 : ∀ x ∈ l, x.length = l.length) (h3 : ∀ x ∈ l, ∀ y ∈ x, -(impl_areRows.most l.length) ≤ y ∧ y ≤ impl_areRows.most l.length) : rowsB l = true := by
  unfold rowsB
  have : (l.any (impl_areRows.bad l.length)) = false := by
    rw [List.any_eq_false]
    intro x hx
    rw [bad_not l.length x (h2 x hx)]
    have : (x.all fun x => decide (-(impl_areRows.most l.length) ≤ x ∧ x ≤ impl_areRows.most l.length)) = true := List.all_eq_true.2 fun y hy => decide_eq_true (h3 x hx y hy)
    rw [this]; simp
  rw [this, decide_eq_true (show 1 ≤ (l.length : Int) by omega), decide_eq_true (show (l.length : Int) ≤ 14 by omega)]
  rfl
theorem turnL_rowsB {l : List (List Int)} (h : rowsB l = true) : rowsB (turnL l) = true := by
  have hl := rowsB_len h
  refine rowsB_of (by rw [turnL_len]; exact hl) (fun x hx => by rw [turnL_len]; exact turnL_row l x hx) (fun x hx y hy => ?_)
  rw [turnL_len]
  obtain ⟨c, hc, rfl⟩ := List.mem_map.1 hx
  obtain ⟨row, hr, rfl⟩ := List.mem_map.1 hy
  have hc2 := List.mem_range.1 hc
  have hlen := rowsB_row h row hr
  have hcl : c < row.length := by omega
  show -(impl_areRows.most l.length) ≤ row.getD c 0 ∧ row.getD c 0 ≤ impl_areRows.most l.length
  rw [List.getD_eq_getElem?_getD, List.getElem?_eq_getElem hcl]
  exact rowsB_num h row hr _ (List.getElem_mem hcl)
def cell (l : List (List Int)) : Nat → Nat → Int := fun i => fn (l.getD i [])
theorem map_rowsOf (l : List (List Int)) : l.map fn = rowsOf l.length (cell l) := by
  unfold rowsOf
  refine List.ext_getElem (by simp) fun i h1 h2 => ?_
  rw [List.length_map] at h1
  rw [List.getElem_map, List.getElem_map, List.getElem_range]
  unfold cell
  rw [List.getD_eq_getElem?_getD, List.getElem?_eq_getElem h1]; rfl
theorem turn_rowsOf (l : List (List Int)) : (turnL l).map fn = rowsOf l.length (turnT (cell l)) := by
  unfold rowsOf turnL
  rw [List.map_map]
  refine List.map_congr_left fun c hc => ?_
  funext j
  show (l.map fun row => row.getD c 0).getD j 0 = (l.getD j []).getD c 0
  rw [List.getD_eq_getElem?_getD, List.getElem?_map, List.getD_eq_getElem?_getD (l := l)]
  cases l[j]? with
  | none => rfl
  | some x => rfl
theorem turnL_det (l : List (List Int)) : det l.length ((turnL l).map fn) = det l.length (l.map fn) := by
  rw [map_rowsOf l, turn_rowsOf l]
  exact (det_turn l.length (cell l)).symm
theorem prime_dvd_one {p : Nat} (h : Prime p) : ¬ (p : Int) ∣ 1 := by
  intro hd
  have := Int.ofNat_dvd.1 (show ((p : Nat) : Int) ∣ ((1 : Nat) : Int) from hd)
  have h2 := h.1
  have := Nat.le_of_dvd (by omega) this
  omega
theorem turnL_rank {l : List (List Int)} (h : rowsB l = true) {ρ : Nat} (hρ : IsRank 0 l.length (l.map fn) ρ) : IsRank 0 l.length ((turnL l).map fn) ρ := by
  have hb := bnd_rows h
  have hb2 := bnd_rows (turnL_rowsB h)
  rw [turnL_len] at hb2
  obtain ⟨σ, hσ⟩ := rank_exists not_zero_one l.length ((turnL l).map fn)
  have same : ∀ {p : Nat}, Prime p → ∀ {r s : Nat}, IsRank (p : Int) l.length (l.map fn) r → IsRank (p : Int) l.length ((turnL l).map fn) s → s = r := by
    intro p hp r s hr hs
    rw [map_rowsOf l] at hr
    rw [turn_rowsOf l] at hs
    exact rank_turn hp l.length (cell l) hr hs
  obtain ⟨a, ha⟩ := rank_exists (prime_dvd_one three_p.p1) l.length (l.map fn)
  obtain ⟨b, hb'⟩ := rank_exists (prime_dvd_one three_p.q1) l.length (l.map fn)
  obtain ⟨c, hc⟩ := rank_exists (prime_dvd_one three_p.r1) l.length (l.map fn)
  obtain ⟨a2, ha2⟩ := rank_exists (prime_dvd_one three_p.p1) l.length ((turnL l).map fn)
  obtain ⟨b2, hb2'⟩ := rank_exists (prime_dvd_one three_p.q1) l.length ((turnL l).map fn)
  obtain ⟨c2, hc2⟩ := rank_exists (prime_dvd_one three_p.r1) l.length ((turnL l).map fn)
  have e1 := rank_max three_p hb ha hb' hc hρ
  have e2 := rank_max three_p hb2 ha2 hb2' hc2 hσ
  have f1 := same three_p.p1 ha ha2
  have f2 := same three_p.q1 hb' hb2'
  have f3 := same three_p.r1 hc hc2
  have : σ = ρ := by rw [← e1, ← e2, f1, f2, f3]
  rw [← this]; exact hσ
/-- what the law asks of rows: determinant, rank, the row that depends, and the same of the turned rows -/
structure Asked (l : List (List Int)) (det : Int) (ok : Bool) (rank : Int) (row : Int) (three : Bool) : Prop where
  ev : ∀ k, 300 ≤ k → impl_DeterminantOf.f k l = some (det, ok) ∧ spec_DeterminantOf.f k l = some (det, ok) ∧ impl_RankOf.f k l = some (rank, true) ∧ spec_RankOf.f k l = some (rank, true) ∧ impl_DependentRow.f k l = some (row, three) ∧ spec_DependentRow.f k l = some (row, three) ∧
    impl_DeterminantOf.f k (turnL l) = some (det, ok) ∧ impl_RankOf.f k (turnL l) = some (rank, true)
  said : (three = false ∧ rank = (l.length : Int) ∧ (ok = true → det ≠ 0)) ∨ (three = true ∧ rank ≠ (l.length : Int) ∧ ¬ rank < row ∧ (ok = true → det = 0))
theorem asked {l : List (List Int)} (h : rowsB l = true) : ∃ det ok rank row three, Asked l det ok rank row three := by
  have hl := rowsB_len h
  obtain ⟨ρ, hρ⟩ := rank_take (l := l) l.length
  have hn : IsRank 0 l.length (l.map fn) (ρ l.length) := by have := hρ l.length; rwa [List.take_length] at this
  obtain ⟨r1, hr1, hr2⟩ := rankOf_ans h
  obtain rfl : r1 = ρ l.length := rank_unique hr1 hn
  obtain ⟨r2, hs1, hs2⟩ := rankOf_ans (turnL_rowsB h)
  rw [turnL_len] at hs1
  obtain rfl : r2 = ρ l.length := rank_unique hs1 (turnL_rank h hn)
  obtain ⟨row, three, hd1, hd2⟩ := dep_ans l
  have hdep := hd2 ρ hρ h
  have hdet : ∀ k, 300 ≤ k → impl_DeterminantOf.f k (turnL l) = some (told (det l.length (l.map fn))) := fun k hk => by
    have := idet_ev (turnL_rowsB h) k hk
    rw [turnL_len, turnL_det] at this
    exact this
  have hfull := rank_full (R := l.map fn) (n := l.length) (by rw [List.length_map])
  refine ⟨(told (det l.length (l.map fn))).1, (told (det l.length (l.map fn))).2, (ρ l.length : Int), row, three, ⟨fun k hk => ⟨idet_ev h k hk, sdet_ev h k hk, (hr2 k (by omega)).2, (hr2 k (by omega)).1, (hd1 k hk).2, (hd1 k hk).1, hdet k hk, (hs2 k (by omega)).2⟩, ?_⟩⟩
  have ht : (told (det l.length (l.map fn))).2 = true → (told (det l.length (l.map fn))).1 = det l.length (l.map fn) := by
    unfold told; split
    · exact fun _ => rfl
    · exact fun e => by cases e
  have step : ∀ d i, i + d = l.length → ρ i ≤ ρ l.length ∧ ρ l.length ≤ ρ i + d := by
    intro d
    induction d with
    | zero => intro i hi; rw [show i = l.length by omega]; omega
    | succ d ih =>
      intro i hi
      have := ih (i + 1) (by omega)
      have := rank_next hρ i (by omega)
      omega
  rcases hdep with ⟨rfl, hf⟩ | ⟨rfl, j, rfl, hj, hjr⟩
  · refine .inl ⟨rfl, by omega, fun ok => ?_⟩
    rw [ht ok]
    rw [hf] at hn
    exact hfull.1 hn.1
  · have := step (l.length - (j + 1)) (j + 1) (by omega)
    refine .inr ⟨rfl, by omega, by omega, fun ok => ?_⟩
    rw [ht ok]
    refine Classical.byContradiction fun hne => ?_
    have := rank_lt hn (hfull.2 hne)
    omega

end Go.Proofs.Ytbphdjnainlbhaa.Pure
