/- An argument that is rows of whole numbers, laid open as lists. -/
import Derived.Test.YtbphdjnainlbhaaL0
import Derived.ChangeSlices
import Derived.ChangeArms
set_option linter.unusedVariables false
namespace Go.Proofs.Ytbphdjnainlbhaa.L
open Go.RowKit Go.Proofs.YtbphdjnainlbhaaW.PrintWords Go.Proofs.YtbphdjnainlbhaaW.PrintLast Go.Proofs.YtbphdjnainlbhaaW.PrintMore Go.ChangeShapes
/-- a law over rows of whole numbers: what its argument is in memory -/
def RowsOf (w : World) (a : Option Addr) (n c : Nat) (xs : List (List Int)) : Prop := Kd.C (Kd.slice 3 (Kd.int .i64)) w a n xs ∧ xs.length = n ∧ n ≤ c ∧ c ≤ maxLen ∧ ∀ x ∈ xs, x.length ≤ maxLen ∧ ∀ y ∈ x, (Lit.int .i64 y).wf = true
theorem gather {α : Type} {Q : Nat → α → Prop} : ∀ n, (∀ i, i < n → ∃ x, Q i x) → ∃ xs : List α, xs.length = n ∧ ∀ (i : Nat) (x : α), xs[i]? = some x → Q i x
  | 0, _ => ⟨[], rfl, fun i x h => by simp at h⟩
  | n + 1, h => by
    obtain ⟨xs, hl, hx⟩ := gather n (fun i hi => h i (Nat.lt_succ_of_lt hi))
    obtain ⟨y, hy⟩ := h n (Nat.lt_succ_self n)
    refine ⟨xs ++ [y], by simp [hl], fun i x hi => ?_⟩
    by_cases hlt : i < xs.length
    · rw [List.getElem?_append_left hlt] at hi; exact hx i x hi
    · rw [List.getElem?_append_right (Nat.not_lt.1 hlt)] at hi
      have hz : i - xs.length = 0 := by
        by_cases h0 : i - xs.length = 0
        · exact h0
        · rw [List.getElem?_eq_none (by simp; omega)] at hi; cases hi
      rw [hz] at hi
      simp only [List.getElem?_cons_zero, Option.some.injEq] at hi
      subst hi
      have : i = n := by omega
      subst this; exact hy
theorem open_rows {H : Type} {enc : TypeId × Value → H} {P : Program} {W : World} {held : Bool} {t e e3 : TypeId} {fuel : Nat} {a : Option Addr} {n c : Nat} {x : DataW H × List MemPlace} (ht : P.underlying t = some (.slice e)) (he : P.underlying e = some (.slice e3)) (h3 : P.underlying e3 = some (.int .i64)) (hc : P.cellsOf e = 1) (hc3 : P.cellsOf e3 = 1)
    (h : DataW.trod enc P W 0 (fun _ => true) held fuel t [.slice a n c] = some x) : ∃ xs, RowsOf W a n c xs := by
  rcases DataW.trod_slice ht h with ⟨h0, _⟩ | ⟨ad, len, cap, elems, rest, m, _, hcs, _, _, hl, hm, hlen, hel, _, _⟩
  · simp only [List.cons.injEq, Value.slice.injEq, and_true] at h0
    obtain ⟨rfl, rfl, rfl⟩ := h0
    exact ⟨[], Kd.C_nil _ _, rfl, Nat.le_refl _, Nat.zero_le _, fun x hx => by simp at hx⟩
  · simp only [List.cons.injEq, Value.slice.injEq, and_true] at hcs
    obtain ⟨rfl, rfl, rfl⟩ := hcs
    have each : ∀ i, i < n → ∃ row : List Int, (∃ v, W.cell? (ad.add i) = some v ∧ ∃ A cc, v = .slice A row.length cc ∧ row.length ≤ cc ∧ Kd.C (Kd.int .i64) W A row.length row) ∧ row.length ≤ maxLen ∧ ∀ y ∈ row, (Lit.int .i64 y).wf = true := by
      intro i hi
      have hb := hel i hi
      rw [hc, Nat.mul_one, List.getElem?_eq_getElem (by omega)] at hb
      obtain ⟨cs', hcs', hy⟩ := Option.bind_eq_some_iff.mp hb
      have row : ∃ (A : Option Addr) (l cc : Nat) (zs : List Int), cs' = [.slice A l cc] ∧ ((A = none ∧ l = 0 ∧ cc = 0 ∧ zs = []) ∨ ∃ x, A = some x ∧ l ≤ cc ∧ cc ≤ maxLen ∧ zs.length = cc ∧ (∀ i, i < zs.length → W.cell? (x.add i) = some (.int .i64 (zs.getD i 0))) ∧ ∀ n ∈ zs, (Lit.int .i64 n).wf = true) := by
        rcases open_ints he h3 hc3 hy with ⟨hcs, _⟩ | ⟨x, l, cc, zs, hcs, _, hl, hm, hz, _, hcell, hwz⟩
        · exact ⟨none, 0, 0, [], hcs, .inl ⟨rfl, rfl, rfl, rfl⟩⟩
        · exact ⟨some x, l, cc, zs, hcs, .inr ⟨_, rfl, hl, hm, by simpa using hz, hcell, hwz⟩⟩
      obtain ⟨A, l, cc, zs, rfl, hw⟩ := row
      obtain ⟨l0, rfl, hr0, hm0, hw0, hc0⟩ := ReadsInt.ofRowC hw
      exact ⟨l0, ⟨_, cell_of_cells?_one hcs', A, cc, rfl, hc0, Kd.C_of_reads (d := (0 : Int)) (h1 := fun _ => rfl) hr0⟩, hm0, hw0⟩
    obtain ⟨xs, hxl, hx⟩ := gather n each
    refine ⟨xs, ⟨hxl, ?_, fun hp => ⟨ad, rfl, fun j p hj => ?_⟩⟩, hxl, hl, hm, fun x hx' => ?_⟩
    · have : maxLen = 9223372036854775807 := rfl
      omega
    · obtain ⟨⟨v, hv, A, cc, rfl, hle, hC⟩, _, _⟩ := hx j p hj
      refine ⟨[.slice A p.length cc], rfl, ⟨A, cc, rfl, hle, hC⟩, fun i u hu => ?_⟩
      have hi : i = 0 := by
        by_cases h0 : i = 0
        · exact h0
        · rw [List.getElem?_eq_none (by simp; omega)] at hu; cases hu
      subst hi
      simp only [List.getElem?_cons_zero, Option.some.injEq] at hu
      subst hu
      have e1 : j * (Kd.slice 3 (Kd.int .i64)).sz + 0 = j := by show j * 1 + 0 = j; omega
      rw [e1]; exact hv
    · obtain ⟨i, hi⟩ := List.getElem?_of_mem hx'
      exact ⟨(hx i x hi).2.1, (hx i x hi).2.2⟩
end Go.Proofs.Ytbphdjnainlbhaa.L
