/- The rainbow is an arch system; both tests of a semi-meander are one. -/
import Derived.Test.YtnhegojnbdcpdaaPCurves
import Derived.Test.YtnhegojnbdcpdaaX2
import Derived.Test.YtnhegojnbdcpdaaX4
set_option linter.unusedVariables false
set_option linter.unusedSimpArgs false
namespace Go.Proofs.Ytnhegojnbdcpdaa.Pure
open Go.RowKit Go.Proofs.Ytnhegojnbdcpdaa.X Go.Proofs.YtnhegojnbdcpdaaW.PrintWords Go.Proofs.YtnhegojnbdcpdaaW.PrintLast Go.Proofs.YtnhegojnbdcpdaaW.PrintMore

def bow (n : Nat) : List Nat := (List.range n).map fun i => n - 1 - i
theorem bow_length (n : Nat) : (bow n).length = n := by simp [bow]
theorem bow_get (n i : Nat) (h : i < n) : (ints (bow n)).getD i 0 = ((n - 1 - i : Nat) : Int) := by
  simp [ints, bow, List.getD_eq_getElem?_getD, h]
theorem qof_bow (n i : Nat) (h : i < n) : qof (ints (bow n)) i = n - 1 - i := by
  unfold qof; rw [bow_get n i h]; simp
theorem good_bow (n : Nat) (h0 : n % 2 = 0) (h : n ≤ 12) : good (ints (bow n)) = true := by
  have hl : (ints (bow n)).length = n := by rw [ints_length, bow_length]
  have hin : inr (ints (bow n)) = true := by
    unfold inr
    rw [List.all_eq_true, hl]
    intro x hx
    simp only [ints, bow, List.mem_map, List.mem_range] at hx
    obtain ⟨y, ⟨i, hi, rfl⟩, rfl⟩ := hx
    simp; omega
  have hs : Sys (qof (ints (bow n))) (ints (bow n)).length := by
    rw [hl]
    refine ⟨fun i hi => ?_, fun i hi => ?_, fun a ha b hab hb => ?_⟩
    · rw [qof_bow n i hi]; omega
    · rw [qof_bow n i hi, qof_bow n _ (by omega)]; omega
    · rw [qof_bow n a ha] at hb ⊢
      rw [qof_bow n b (by omega)]
      omega
  obtain ⟨h1, h2⟩ := (sys_iff_scan (fun i hi => (inr_get hin i hi).2)).1 hs
  unfold good
  rw [h1, hin, h2, hl]
  simp [h]
theorem sbow_l0 (n : Nat) (h : n ≤ 1000) (d : Nat) : ∀ (k : Nat), d ≤ n → d < k →
    spec_ahRainbow.l0 k (ints ((List.range (n - d)).map fun i => n - 1 - i)) ((d : Int) - 1) = some (ints (bow n)) := by
  induction d with
  | zero =>
    intro k _ hk
    obtain ⟨k, rfl⟩ : ∃ m, k = m + 1 := ⟨k - 1, by omega⟩
    rw [spec_ahRainbow.l0, if_neg (by omega)]; rfl
  | succ d ih =>
    intro k hd hk
    obtain ⟨k, rfl⟩ : ∃ m, k = m + 1 := ⟨k - 1, by omega⟩
    rw [show ((d + 1 : Nat) : Int) - 1 = (d : Int) by omega, spec_ahRainbow.l0, if_pos (by omega), if_pos (by rw [ints_length]; simp; omega), wrap_id (by omega) (by omega)]
    have e : ints ((List.range (n - (d + 1))).map fun i => n - 1 - i) ++ [(d : Int)] = ints ((List.range (n - d)).map fun i => n - 1 - i) := by
      rw [show n - d = (n - (d + 1)) + 1 by omega, List.range_succ, List.map_append, ints_append]
      congr 1
      simp [ints]; omega
    rw [e]
    exact ih k (by omega) (by omega)
theorem sbow_ev (n : Nat) (h : n ≤ 1000) (h0 : n % 2 = 0) (k : Nat) (hk : n < k) : spec_ahRainbow.f k (wrap64 ((n : Int) / 2)) = some (ints (bow n)) := by
  unfold spec_ahRainbow.f
  have := sbow_l0 n h n k (Nat.le_refl _) hk
  rw [Nat.sub_self] at this
  rw [wrap_id (x := (n : Int) / 2) (by omega) (by omega), wrap_id (x := 2 * ((n : Int) / 2)) (by omega) (by omega), wrap_id (by omega) (by omega), show 2 * ((n : Int) / 2) - 1 = (n : Int) - 1 by omega]
  exact this
theorem ibow_l0 (n : Nat) (h : n ≤ 1000) (h0 : n % 2 = 0) (d : Nat) : ∀ (k i : Nat), i + d = n → d < k →
    impl_rainbow.l0 k ((n : Int) / 2) (ints ((List.range i).map fun i => n - 1 - i)) (n : Int) (i : Int) = some (ints (bow n)) := by
  induction d with
  | zero =>
    intro k i hi hk
    obtain ⟨k, rfl⟩ : ∃ m, k = m + 1 := ⟨k - 1, by omega⟩
    rw [impl_rainbow.l0, if_neg (by omega)]
    obtain rfl : i = n := by omega
    rfl
  | succ d ih =>
    intro k i hi hk
    obtain ⟨k, rfl⟩ : ∃ m, k = m + 1 := ⟨k - 1, by omega⟩
    rw [impl_rainbow.l0, if_pos (by omega), if_pos (by rw [ints_length]; simp; omega), wrap_succ (by omega), wrap_id (x := 2 * ((n : Int) / 2)) (by omega) (by omega), wrap_id (x := 2 * ((n : Int) / 2) - 1) (by omega) (by omega), wrap_id (by omega) (by omega)]
    have e : ints ((List.range i).map fun i => n - 1 - i) ++ [2 * ((n : Int) / 2) - 1 - (i : Int)] = ints ((List.range (i + 1)).map fun i => n - 1 - i) := by
      rw [List.range_succ, List.map_append, ints_append]
      congr 1
      simp [ints]; omega
    rw [e]
    exact ih k (i + 1) (by omega) (by omega)
theorem ibow_ev (n : Nat) (h : n ≤ 1000) (h0 : n % 2 = 0) (k : Nat) (hk : n < k) : impl_rainbow.f k (wrap64 ((n : Int) / 2)) = some (ints (bow n)) := by
  unfold impl_rainbow.f
  have := ibow_l0 n h h0 n k 0 (by omega) hk
  rw [wrap_id (x := (n : Int) / 2) (by omega) (by omega), wrap_id (x := 2 * ((n : Int) / 2)) (by omega) (by omega), show 2 * ((n : Int) / 2) = (n : Int) by omega]
  exact this
theorem good_even {p : List Int} (h : good p = true) : p.length % 2 = 0 := by
  unfold good at h
  simp only [Bool.and_eq_true, decide_eq_true_eq] at h
  exact h.1
theorem bow_pair {p : List Int} (h : good p = true) : Pair p (ints (bow p.length)) :=
  ⟨h, good_bow _ (good_even h) (good_len h).1, by rw [ints_length, bow_length]⟩
def semi (p : List Int) : Bool := single p (ints (bow p.length))
theorem spSemi_ev {p : List Int} (h : good p = true) (hp : 0 < p.length) (k : Nat) (hk : 900 ≤ k) : spec_spSemi.f k p = some (semi p) := by
  have hn := (good_len h).1
  unfold spec_spSemi.f semi
  rw [if_pos (by omega), sbow_ev p.length (by omega) (good_even h) k (by omega), Option.bind_some, count_ev (bow_pair h) k hk, Option.bind_some, count_single (bow_pair h)]
theorem spSemi_nil {p : List Int} (hp : p.length = 0) (k : Nat) : spec_spSemi.f k p = some false := by
  unfold spec_spSemi.f
  rw [if_neg (by omega)]
theorem isSemi_ev {p : List Int} (h : good p = true) (k : Nat) (hk : 900 ≤ k) : impl_isSemi.f k p = some (semi p) := by
  have hn := (good_len h).1
  unfold impl_isSemi.f semi
  rw [ibow_ev p.length (by omega) (good_even h) k (by omega), Option.bind_some, isOne_ev (bow_pair h) k hk, Option.bind_some]

end Go.Proofs.Ytnhegojnbdcpdaa.Pure
