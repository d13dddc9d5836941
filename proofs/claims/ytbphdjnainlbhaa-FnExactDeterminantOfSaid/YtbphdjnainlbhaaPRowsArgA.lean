/- Rows of whole numbers as an argument: their size, their copy, and that both tests of rows are one. -/
import Derived.Test.YtbphdjnainlbhaaPLawsA
import Derived.Test.YtbphdjnainlbhaaL0
import Derived.Test.YtbphdjnainlbhaaL1
import Derived.Test.YtbphdjnainlbhaaL4
set_option linter.unusedVariables false
set_option linter.unusedSimpArgs false
namespace Go.Proofs.Ytbphdjnainlbhaa.Pure
open Go.RowKit Go.Proofs.Ytbphdjnainlbhaa.L Go.Proofs.YtbphdjnainlbhaaW.PrintWords Go.Proofs.YtbphdjnainlbhaaW.PrintLast Go.Proofs.YtbphdjnainlbhaaW.PrintMore

theorem rdL1_at {l : List (List Int)} {i : Nat} (h : i < l.length) : rd_L1 l (i : Int) = l[i] := by
  unfold rd_L1; simp [h]
def sumLen : List (List Int) → Nat
  | [] => 0
  | x :: t => x.length + sumLen t
theorem sumLen_mem : ∀ (l : List (List Int)) (x : List Int), x ∈ l → x.length ≤ sumLen l
  | y :: t, x, h => by
    rcases List.mem_cons.1 h with rfl | h
    · show x.length ≤ x.length + sumLen t; omega
    · have := sumLen_mem t x h
      show x.length ≤ y.length + sumLen t; omega
theorem szSS_l0 (l : List (List Int)) (hl : l.length ≤ 9223372036854775807) (hx : ∀ x ∈ l, x.length ≤ 9223372036854775807) (d : Nat) : ∀ (k i left : Nat), i + d = l.length → d < k → left ≤ 1048576 →
    laws_szIntSS.l0 k l (left : Int) (i : Int) = some (if sumLen (l.drop i) ≤ left then ((left - sumLen (l.drop i) : Nat) : Int) else -1) := by
  induction d with
  | zero =>
    intro k i left hi hk hle
    obtain ⟨k, rfl⟩ : ∃ m, k = m + 1 := ⟨k - 1, by omega⟩
    rw [laws_szIntSS.l0, if_neg (by omega), List.drop_of_length_le (by omega), if_pos (by simp [sumLen])]
    simp [sumLen]
  | succ d ih =>
    intro k i left hi hk hle
    obtain ⟨k, rfl⟩ : ∃ m, k = m + 1 := ⟨k - 1, by omega⟩
    have h : i < l.length := by omega
    have hb := hx _ (List.getElem_mem h)
    have hs : sumLen (l.drop i) = l[i].length + sumLen (l.drop (i + 1)) := by rw [List.drop_eq_getElem_cons h]; rfl
    rw [laws_szIntSS.l0, if_pos (by omega), if_pos (by omega), rdL1_at h]
    unfold laws_szIntS.f
    rw [wrap_id (x := (left : Int) - (l[i].length : Int)) (by omega) (by omega)]
    by_cases hc : (left : Int) - (l[i].length : Int) < 0
    · rw [if_pos hc, Option.bind_some, if_pos (by omega), if_neg (by omega)]
    · rw [if_neg hc, Option.bind_some, if_neg hc, wrap_succ (by omega)]
      have e : (left : Int) - (l[i].length : Int) = ((left - l[i].length : Nat) : Int) := by omega
      rw [e, ih k (i + 1) (left - l[i].length) (by omega) (by omega) (by omega), hs]
      by_cases hq : sumLen (l.drop (i + 1)) ≤ left - l[i].length
      · rw [if_pos hq, if_pos (by omega)]; congr 2; omega
      · rw [if_neg hq, if_neg (by omega)]
theorem szSS_ev (l : List (List Int)) (hl : l.length ≤ 9223372036854775807) (hx : ∀ x ∈ l, x.length ≤ 9223372036854775807) (k : Nat) (hk : 1048577 ≤ k) :
    laws_szIntSS.f k l 1048576 = some (if l.length + sumLen l ≤ 1048576 then ((1048576 - (l.length + sumLen l) : Nat) : Int) else -1) := by
  unfold laws_szIntSS.f
  rw [wrap_id (x := 1048576 - (l.length : Int)) (by omega) (by omega)]
  by_cases h : 1048576 - (l.length : Int) < 0
  · rw [if_pos h, if_neg (by omega)]
  · rw [if_neg h]
    have e : 1048576 - (l.length : Int) = ((1048576 - l.length : Nat) : Int) := by omega
    have := szSS_l0 l hl hx l.length k 0 (1048576 - l.length) (by omega) (by omega) (by omega)
    rw [List.drop_zero] at this
    rw [e, show (0 : Int) = ((0 : Nat) : Int) from rfl, this]
    by_cases hq : sumLen l ≤ 1048576 - l.length
    · rw [if_pos hq, if_pos (by omega)]; congr 2; omega
    · rw [if_neg hq, if_neg (by omega)]
theorem toSS_l0 (l : List (List Int)) (hl : l.length ≤ 1048576) (hx : ∀ x ∈ l, x.length ≤ 1048576) (d : Nat) : ∀ (k i : Nat), i + d = l.length → d + 1048577 ≤ k →
    laws_toIntSS.l0 k l (l.take i ++ List.replicate d []) (i : Int) = some l := by
  induction d with
  | zero =>
    intro k i hi hk
    obtain ⟨k, rfl⟩ : ∃ m, k = m + 1 := ⟨k - 1, by omega⟩
    rw [laws_toIntSS.l0, if_neg (by omega)]
    simp [List.take_of_length_le (show l.length ≤ i by omega)]
  | succ d ih =>
    intro k i hi hk
    obtain ⟨k, rfl⟩ : ∃ m, k = m + 1 := ⟨k - 1, by omega⟩
    have h : i < l.length := by omega
    rw [laws_toIntSS.l0, if_pos (by omega), if_pos (by omega), rdL1_at h, toIntS_ev _ (hx _ (List.getElem_mem h)) k (by have := hx _ (List.getElem_mem h); omega), Option.bind_some, if_pos (by simp; omega), wrap_succ (by omega), Int.toNat_natCast, take_set_mid l i d [] l[i] h rfl]
    exact ih k (i + 1) (by omega) (by omega)
theorem toSS_ev (l : List (List Int)) (hl : l.length ≤ 1048576) (hx : ∀ x ∈ l, x.length ≤ 1048576) (k : Nat) (hk : 2097153 ≤ k) : laws_toIntSS.f k l = some l := by
  unfold laws_toIntSS.f
  rw [if_pos (by omega), if_pos (by omega), Int.toNat_natCast]
  have := toSS_l0 l hl hx l.length k 0 (by omega) (by omega)
  simpa using this
theorem sIn_val (a b c : Int) : spec_l1In.f a b c = some (decide (b ≤ a ∧ a ≤ c)) := by
  unfold spec_l1In.f
  by_cases h : b ≤ a <;> simp [h]
theorem all_l0 (l : List Int) (a b : Int) (hl : l.length ≤ 1048576) (d : Nat) : ∀ (k i : Nat), i + d = l.length → d < k →
    spec_l1All.l0 k a b l (l.length : Int) (i : Int) = some ((l.drop i).all fun x => decide (a ≤ x ∧ x ≤ b)) := by
  induction d with
  | zero =>
    intro k i hi hk
    obtain ⟨k, rfl⟩ : ∃ m, k = m + 1 := ⟨k - 1, by omega⟩
    rw [spec_l1All.l0, if_neg (by omega), List.drop_of_length_le (by omega)]
    rfl
  | succ d ih =>
    intro k i hi hk
    obtain ⟨k, rfl⟩ : ∃ m, k = m + 1 := ⟨k - 1, by omega⟩
    have h : i < l.length := by omega
    rw [spec_l1All.l0, if_pos (by omega), if_pos (by omega), if_pos (by omega), wrap_succ (by omega), rd_get h, sIn_val, Option.bind_some, ih k (i + 1) (by omega) (by omega), List.drop_eq_getElem_cons h, List.all_cons]
    by_cases hx : a ≤ l[i] ∧ l[i] ≤ b <;> simp [hx]
theorem all_ev (l : List Int) (a b : Int) (hl : l.length ≤ 1048576) (k : Nat) (hk : l.length < k) : spec_l1All.f k l a b = some (l.all fun x => decide (a ≤ x ∧ x ≤ b)) := by
  unfold spec_l1All.f
  have := all_l0 l a b hl l.length k 0 (by omega) hk
  simpa using this
/-- can these rows be asked for -/
def rowsB (l : List (List Int)) : Bool := decide (1 ≤ (l.length : Int)) && decide ((l.length : Int) ≤ 14) && !(l.any (impl_areRows.bad l.length))
theorem areRows_ev (l : List (List Int)) : impl_areRows.f l = some (rowsB l) := rfl
theorem bad_not (n : Nat) (row : List Int) (hn : row.length = n) : impl_areRows.bad n row = !(row.all fun x => decide (-(impl_areRows.most n) ≤ x ∧ x ≤ impl_areRows.most n)) := by
  unfold impl_areRows.bad
  rw [hn]
  have e : ((n : Int) == (n : Int)) = true := by simp
  rw [e, Bool.not_true, Bool.false_or, List.any_eq_not_all_not]
  congr 2
  funext x
  simp
theorem taRows_l0 (l : List (List Int)) (hl : l.length ≤ 14) (m : Int) (hm : m = impl_areRows.most l.length) (d : Nat) : ∀ (k i : Nat), i + d = l.length → d + 20 ≤ k →
    spec_taRows.l0 k l m l (l.length : Int) (i : Int) = some (!(l.drop i).any (impl_areRows.bad l.length)) := by
  have hmm : 0 ≤ m ∧ m ≤ 100 := by rw [hm]; unfold impl_areRows.most; split <;> omega
  induction d with
  | zero =>
    intro k i hi hk
    obtain ⟨k, rfl⟩ : ∃ m, k = m + 1 := ⟨k - 1, by omega⟩
    rw [spec_taRows.l0, if_neg (by omega), List.drop_of_length_le (by omega)]
    rfl
  | succ d ih =>
    intro k i hi hk
    obtain ⟨k, rfl⟩ : ∃ m, k = m + 1 := ⟨k - 1, by omega⟩
    have h : i < l.length := by omega
    rw [spec_taRows.l0, if_pos (by omega), if_pos (by omega), if_pos (by omega), rdL1_at h, wrap_id (x := -m) (by omega) (by omega), wrap_succ (by omega), List.drop_eq_getElem_cons h, List.any_cons]
    by_cases hq : l[i].length = l.length
    · rw [if_pos (by omega), all_ev l[i] _ _ (by omega) k (by omega), Option.bind_some, ih k (i + 1) (by omega) (by omega), bad_not l.length l[i] hq, hm]
      cases (l[i].all fun x => decide (-(impl_areRows.most l.length) ≤ x ∧ x ≤ impl_areRows.most l.length)) <;> simp
    · rw [if_neg (by omega)]
      have : impl_areRows.bad l.length l[i] = true := by
        unfold impl_areRows.bad
        have e : ((l[i].length : Int) == (l.length : Int)) = false := by rw [beq_eq_false_iff_ne]; omega
        rw [e]; rfl
      rw [this]; rfl
theorem taRows_ev (l : List (List Int)) (k : Nat) (hk : 100 ≤ k) : spec_taRows.f k l = some (rowsB l) := by
  obtain ⟨k, rfl⟩ : ∃ m, k = m + 1 := ⟨k - 1, by omega⟩
  unfold spec_taRows.f rowsB
  rw [sIn_val, Option.bind_some]
  by_cases h : (1 : Int) ≤ (l.length : Int) ∧ (l.length : Int) ≤ 14
  · rw [if_pos (by simpa using h)]
    have e0 : (decide (1 ≤ (l.length : Int)) && decide ((l.length : Int) ≤ 14)) = true := by simp only [Bool.and_eq_true, decide_eq_true_eq]; exact h
    rw [e0, Bool.true_and]
    have hz := fun m hm => taRows_l0 l (by omega) m hm l.length k 0 (by omega) (by omega)
    rw [Int.natCast_zero, List.drop_zero] at hz
    by_cases h5 : (l.length : Int) > 5
    · rw [if_pos h5, spec_taRows.j0]
      exact hz 16 (by unfold impl_areRows.most; rw [if_neg (by omega)])
    · rw [if_neg h5, spec_taRows.j0]
      exact hz 100 (by unfold impl_areRows.most; rw [if_pos (by omega)])
  · rw [if_neg (by simpa using h)]
    have e0 : (decide (1 ≤ (l.length : Int)) && decide ((l.length : Int) ≤ 14)) = false := by
      by_cases h1 : (1 : Int) ≤ (l.length : Int)
      · rw [decide_eq_false (show ¬ (l.length : Int) ≤ 14 by omega), Bool.and_false]
      · rw [decide_eq_false h1, Bool.false_and]
    rw [e0, Bool.false_and]
theorem rowsB_len {l : List (List Int)} (h : rowsB l = true) : 1 ≤ l.length ∧ l.length ≤ 14 := by
  unfold rowsB at h
  simp only [Bool.and_eq_true, decide_eq_true_eq] at h
  omega
theorem rowsB_row {l : List (List Int)} (h : rowsB l = true) : ∀ x ∈ l, x.length = l.length := by
  intro x hx
  unfold rowsB at h
  simp only [Bool.and_eq_true] at h
  have h2 : (l.any (impl_areRows.bad l.length)) = false := by simpa using h.2
  rw [List.any_eq_false] at h2
  have h3 := h2 x hx
  by_cases hq : x.length = l.length
  · exact hq
  · exfalso; apply h3
    unfold impl_areRows.bad
    have e : ((x.length : Int) == (l.length : Int)) = false := by rw [beq_eq_false_iff_ne]; omega
    rw [e]; rfl

end Go.Proofs.Ytbphdjnainlbhaa.Pure
