/- The cursor's spoilt text: there is an answer, at most one byte longer a step. -/
import Derived.Test.YtjgkcknopnollaaGreatPCur
import Derived.Test.YtjgkcknopnollaaGreatQA2
set_option linter.unusedVariables false
set_option linter.unusedSimpArgs false
namespace Go.Proofs.YtjgkcknopnollaaGreat.Pure
open Go.RowKit Go.Proofs.YtjgkcknopnollaaGreat.C Go.Proofs.YtjgkcknopnollaaGreatW.PrintWords Go.Proofs.YtjgkcknopnollaaGreatW.PrintLast Go.Proofs.YtjgkcknopnollaaGreatW.PrintMore

theorem spoilt_l0 {l : List Int} (h : Bytes l) (x2 : ByteArray) (h2 : 0 < x2.size ∧ x2.size ≤ 100) (d : Nat) : ∀ (k : Nat) (x1 : ByteArray) (j s : Int), x1.size + d ≤ 100 → 2 * d + 2 ≤ k → 0 ≤ j → j + 3 * d ≤ 1000000 →
    Drew (spec_l1Cur_spoilt.l0 k x1 x2 (d : Int) l j s) j (3 * d) (fun q => q.size ≤ x1.size + d) := by
  induction d with
  | zero =>
    intro k x1 j s hx hk hj hj2
    obtain ⟨k, rfl⟩ : ∃ m, k = m + 2 := ⟨k - 2, by omega⟩
    rw [spec_l1Cur_spoilt.l0, if_neg (by omega), spec_l1Cur_spoilt.j1, if_neg (by decide)]
    exact Drew.done x1 s rfl (by omega) (by omega)
  | succ d ih =>
    intro k x1 j s hx hk hj hj2
    obtain ⟨k, rfl⟩ : ∃ m, k = m + 2 := ⟨k - 2, by omega⟩
    rw [spec_l1Cur_spoilt.l0, if_pos (by omega)]
    by_cases hp : (x1.size : Int) > 0
    · have hw : wrap64 (((d + 1 : Nat) : Int) - 1) = (d : Int) := by rw [wrap_id (by omega) (by omega)]; omega
      rw [spec_l1Cur_spoilt.j1, if_pos (decide_eq_true hp), hw]
      have step : ∀ (t : ByteArray) (j' s' : Int), t.size ≤ x1.size + 1 → j ≤ j' → j' ≤ j + 3 → Drew (spec_l1Cur_spoilt.l0 k t x2 (d : Int) l j' s') j' (3 * d) (fun q => q.size ≤ x1.size + ((d + 1 : Nat) : Nat)) := by
        intro t j' s' ht h1 h3
        obtain ⟨v, j2, s2, e, hv, g1, g2⟩ := (ih k t j' s' (by omega) (by omega) (by omega) (by omega)).ok
        exact ⟨v, j2, s2, e, by omega, g1, g2⟩
      refine Drew.bind (m := 1) (m' := 2 + 3 * d) (pick_ok h j s (x1.size : Int) hj (by omega) (by omega)) (fun v1 j1 s1 hv1 a1 b1 => ?_) (by omega)
      refine Drew.bind (m := 1) (m' := 1 + 3 * d) (pick_ok h j1 s1 (x2.size : Int) (by omega) (by omega) (by omega)) (fun v2 j2 s2 hv2 a2 b2 => ?_) (by omega)
      have c1 : 0 ≤ v2 := hv2.1
      have c2 : v2 < (x2.size : Int) := by omega
      have c3 : 0 ≤ v1 := hv1.1
      have c4 : v1 ≤ (x1.size : Int) := by omega
      have c5 : wrap64 (v1 + 1) = v1 + 1 := wrap_id (by omega) (by omega)
      have c6 : v1 + 1 ≤ (x1.size : Int) := by omega
      refine Drew.ite (fun _ => Drew.ite (fun _ => ?_) (fun n => absurd c2 n)) (fun n => absurd c1 n)
      simp only [Option.bind_some]
      refine Drew.bind (m := 1) (m' := 3 * d) (pick_ok h j2 s2 3 (by omega) (by omega) (by omega)) (fun v3 j3 s3 hv3 a3 b3 => ?_) (by omega)
      simp only [c5]
      refine Drew.ite (fun _ => ?_) (fun _ => Drew.ite (fun _ => ?_) (fun _ => ?_))
      · refine Drew.ite (fun _ => Drew.ite (fun _ => Drew.ite (fun _ => Drew.ite (fun _ => ?_) (fun n => absurd ?_ n)) (fun n => absurd ?_ n)) (fun n => absurd c4 n)) (fun n => absurd c3 n)
        · exact step _ j3 s3 (by simp only [ByteArray.size_append, ByteArray.size_extract, strOfNums_size, List.length_cons, List.length_nil]; omega) (by omega) (by omega)
        · simp only [ByteArray.size_append, ByteArray.size_extract, strOfNums_size, List.length_cons, List.length_nil]; omega
        · simp only [ByteArray.size_append, ByteArray.size_extract, strOfNums_size, List.length_cons, List.length_nil]; omega
      · refine Drew.ite (fun _ => Drew.ite (fun _ => Drew.ite (fun _ => Drew.ite (fun _ => Drew.ite (fun _ => Drew.ite (fun _ => ?_) (fun n => absurd ?_ n)) (fun n => absurd c6 n)) (fun n => absurd ?_ n)) (fun n => absurd ?_ n)) (fun n => absurd c4 n)) (fun n => absurd c3 n)
        · exact step _ j3 s3 (by simp only [ByteArray.size_append, ByteArray.size_extract, strOfNums_size, List.length_cons, List.length_nil]; omega) (by omega) (by omega)
        · simp only [ByteArray.size_append, ByteArray.size_extract, strOfNums_size, List.length_cons, List.length_nil]; omega
        · show 0 ≤ v1 + 1; omega
        · simp only [ByteArray.size_append, ByteArray.size_extract, strOfNums_size, List.length_cons, List.length_nil]; omega
      · refine Drew.ite (fun _ => Drew.ite (fun _ => Drew.ite (fun _ => Drew.ite (fun _ => Drew.ite (fun _ => ?_) (fun n => absurd ?_ n)) (fun n => absurd c6 n)) (fun n => absurd ?_ n)) (fun n => absurd c4 n)) (fun n => absurd c3 n)
        · exact step _ j3 s3 (by simp only [ByteArray.size_append, ByteArray.size_extract]; omega) (by omega) (by omega)
        · simp only [ByteArray.size_append, ByteArray.size_extract]; omega
        · show 0 ≤ v1 + 1; omega
    · rw [spec_l1Cur_spoilt.j1, if_neg (by simp only [decide_eq_true_eq]; exact hp)]
      exact Drew.done x1 s rfl (by omega) (by omega)
theorem spoilt_ok {l : List Int} (h : Bytes l) (x1 x2 : ByteArray) (h1 : x1.size ≤ 90) (h2 : 0 < x2.size ∧ x2.size ≤ 100) (k : Nat) (hk : 10 ≤ k) (j s : Int) (hj : 0 ≤ j) (hj2 : j ≤ 100000) :
    Drew (spec_l1Cur_spoilt.f k l j s x1 x2) j 10 (fun q => q.size ≤ x1.size + 3) := by
  unfold spec_l1Cur_spoilt.f
  refine Drew.bind (m := 1) (m' := 9) (pick_ok h j s 2 hj (by omega) (by omega)) (fun v1 j1 s1 hv1 a1 b1 => ?_) (by omega)
  have h0 : 0 ≤ v1 := hv1.1
  have hw : wrap64 (1 + v1) = ((v1.toNat + 1 : Nat) : Int) := by rw [wrap_id (by omega) (by omega)]; omega
  show Drew (spec_l1Cur_spoilt.l0 k x1 x2 (wrap64 (1 + v1)) l j1 s1) j1 9 _
  rw [hw]
  obtain ⟨v, j2, s2, e, hv, g1, g2⟩ := (spoilt_l0 h x2 h2 (v1.toNat + 1) k x1 j1 s1 (by omega) (by omega) (by omega) (by omega)).ok
  exact ⟨v, j2, s2, e, by omega, g1, by omega⟩

end Go.Proofs.YtjgkcknopnollaaGreat.Pure
