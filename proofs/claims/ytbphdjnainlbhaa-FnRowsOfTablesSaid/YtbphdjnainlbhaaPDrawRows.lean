/- The rows that the reference's cursor draws: there is an answer, of at most fourteen rows. -/
import Derived.Test.YtbphdjnainlbhaaPCur
import Derived.Test.YtbphdjnainlbhaaQA2
set_option linter.unusedVariables false
set_option linter.unusedSimpArgs false
namespace Go.Proofs.Ytbphdjnainlbhaa.Pure
open Go.RowKit Go.Proofs.Ytbphdjnainlbhaa.R Go.Proofs.YtbphdjnainlbhaaW.PrintWords Go.Proofs.YtbphdjnainlbhaaW.PrintLast Go.Proofs.YtbphdjnainlbhaaW.PrintMore

theorem among_ok {l : List Int} (h : Bytes l) (i s : Int) (L : List Int) (hL : 0 < L.length) (hL2 : L.length ≤ 100) (h0 : 0 ≤ i) (h1 : i ≤ 1000000000) : Drew (spec_l1Cur_among.f l i s L) i 1 (fun v => v ∈ L) := by
  unfold spec_l1Cur_among.f
  refine Drew.bind (m := 1) (m' := 0) (pick_ok h i s (L.length : Int) h0 h1 (by omega)) (fun v j t hv a b => ?_) (by omega)
  have h2 : v < (L.length : Int) := by omega
  refine Drew.ite (fun _ => Drew.ite (fun _ => ?_) (fun n => absurd h2 n)) (fun n => absurd hv.1 n)
  refine Drew.done _ _ rfl ?_ (by omega)
  obtain ⟨n, hn⟩ : ∃ n : Nat, v = (n : Int) := ⟨v.toNat, by omega⟩
  show rd L v ∈ L
  rw [hn, rd_get (by omega)]
  exact List.getElem_mem _
theorem Drew.more {α : Type} {o : Option (α × Int × Int)} {i m M : Int} {R : α → Prop} (h : Drew o i m R) (hm : m ≤ M) : Drew o i M R := by
  obtain ⟨v, j, s, e, hv, h1, h2⟩ := h.ok
  exact ⟨v, j, s, e, hv, h1, by omega⟩
def P14 (R : List (List Int)) : Prop := R.length ≤ 14
theorem rows_l3 {l : List Int} (h : Bytes l) (d : Nat) : ∀ (k : Nat) (x6 : List (List Int)) (x11 i s : Int), d < k → x11 + (d : Int) = 14 → 0 ≤ x11 → (x6.length : Int) = x11 → 0 ≤ i → i ≤ 2000000 + 14 - d → Drew (spec_l1Cur_rows.l3 k x6 x11 l i s) i d P14 := by
  induction d with
  | zero =>
    intro k x6 x11 i s hk hx h0 hl hi hi2
    obtain ⟨k, rfl⟩ : ∃ q, k = q + 1 := ⟨k - 1, by omega⟩
    simp only [spec_l1Cur_rows.l3]
    rw [if_neg (by omega)]
    exact Drew.done _ _ rfl (by unfold P14; omega) (by omega)
  | succ d ih =>
    intro k x6 x11 i s hk hx h0 hl hi hi2
    obtain ⟨k, rfl⟩ : ∃ q, k = q + 1 := ⟨k - 1, by omega⟩
    have hw : wrap64 (x11 + 1) = x11 + 1 := wrap_id (by omega) (by omega)
    simp only [spec_l1Cur_rows.l3]
    rw [if_pos (by omega), if_pos (by omega)]
    simp only [Option.bind_some, List.length_replicate]
    rw [if_pos h0, if_pos (by omega), hw]
    refine Drew.ite (fun hp => ?_) (fun hp => ?_)
    · refine Drew.bind (m := 1) (m' := (d : Int)) (pick_ok h i s 3 hi (by omega) (by omega)) (fun v j t hv a b => ?_) (by omega)
      have hw1 : wrap64 (x11 - 1) = x11 - 1 := wrap_id (by omega) (by omega)
      rw [hw1, if_pos (by omega), if_pos (by omega), if_pos (by omega)]
      exact ih k _ (x11 + 1) j t (by omega) (by omega) (by omega) (by rw [List.length_append, List.length_singleton]; omega) (by omega) (by omega)
    · rw [if_pos (by omega)]
      exact Drew.more (ih k _ (x11 + 1) i s (by omega) (by omega) (by omega) (by rw [List.length_append, List.length_singleton]; omega) (by omega) (by omega)) (by omega)
theorem rows_l2 {l : List Int} (n B M : Int) (hn : 1 ≤ n ∧ n ≤ 5) (K : Nat) (x6 : List (List Int)) (x7 : Int) (h2 : 2 ≤ x6.length) (h6 : x6.length ≤ 14) (hx : ∀ x ∈ x6, (x.length : Int) = n)
    (next : ∀ (k : Nat) (x8 : List Int) (i s : Int), K ≤ k → (x8.length : Int) = n → 0 ≤ i → i ≤ B → Drew (spec_l1Cur_rows.l0 k n (x6 ++ [x8]) (wrap64 (x7 + 1)) l i s) i M P14) (d : Nat) :
    ∀ (k : Nat) (x8 : List Int) (x51 i s : Int), K + d + 1 ≤ k → x51 + (d : Int) = n → 0 ≤ x51 → (x8.length : Int) = n → 0 ≤ i → i ≤ B → Drew (spec_l1Cur_rows.l2 k n x6 x7 x8 n x51 l i s) i M P14 := by
  have r0 : ((rd_L1 x6 0).length : Int) = n := by
    rw [show (0 : Int) = ((0 : Nat) : Int) from rfl, show rd_L1 x6 ((0 : Nat) : Int) = x6[0]'(by omega) by unfold rd_L1; simp [show 0 < x6.length by omega]]
    exact hx _ (List.getElem_mem _)
  have r1 : ((rd_L1 x6 1).length : Int) = n := by
    rw [show (1 : Int) = ((1 : Nat) : Int) from rfl, show rd_L1 x6 ((1 : Nat) : Int) = x6[1]'(by omega) by unfold rd_L1; simp [show 1 < x6.length by omega]]
    exact hx _ (List.getElem_mem _)
  induction d with
  | zero =>
    intro k x8 x51 i s hk hd h0 h8 hi hB
    obtain ⟨k, rfl⟩ : ∃ q, k = q + 1 := ⟨k - 1, by omega⟩
    simp only [spec_l1Cur_rows.l2]
    rw [if_neg (by omega), if_pos (by omega)]
    exact next k x8 i s (by omega) h8 hi hB
  | succ d ih =>
    intro k x8 x51 i s hk hd h0 h8 hi hB
    obtain ⟨k, rfl⟩ : ∃ q, k = q + 1 := ⟨k - 1, by omega⟩
    have hw : wrap64 (x51 + 1) = x51 + 1 := wrap_id (by omega) (by omega)
    simp only [spec_l1Cur_rows.l2]
    rw [if_pos (by omega), if_pos (by omega), if_pos (by omega), if_pos (by omega), if_pos (by omega), if_pos (by omega), if_pos (by omega), hw]
    exact ih k _ (x51 + 1) i s (by omega) (by omega) (by omega) (by rw [List.length_set]; exact h8) hi hB
theorem rows_l1 {l : List Int} (h : Bytes l) (n B M : Int) (hn : 1 ≤ n ∧ n ≤ 5) (hB : 0 ≤ B ∧ B ≤ 2000000) (K : Nat) (x6 : List (List Int)) (x7 : Int) (h67 : (x6.length : Int) = x7) (h6 : x6.length ≤ 14) (hx : ∀ x ∈ x6, (x.length : Int) = n)
    (next : ∀ (k : Nat) (x8 : List Int) (i s : Int), K ≤ k → (x8.length : Int) = n → 0 ≤ i → i ≤ B → Drew (spec_l1Cur_rows.l0 k n (x6 ++ [x8]) (wrap64 (x7 + 1)) l i s) i M P14) (hM : 0 ≤ M) (d : Nat) :
    ∀ (k : Nat) (x8 : List Int) (x9 i s : Int), K + d + 10 ≤ k → x9 + (d : Int) = n → 0 ≤ x9 → (x8.length : Int) = x9 → 0 ≤ i → i + d + 1 ≤ B → Drew (spec_l1Cur_rows.l1 k n x6 x7 x8 x9 l i s) i (d + 1 + M) P14 := by
  have hj2 : ∀ (b : Bool) (k : Nat) (x8 : List Int) (i s : Int), (b = true → 2 ≤ x6.length) → K + 8 ≤ k → (x8.length : Int) = n → 0 ≤ i → i ≤ B → Drew (spec_l1Cur_rows.j2 k n x6 x7 x8 b l i s) i M P14 := by
    intro b k x8 i s hb hk h8 hi hB2
    obtain ⟨k, rfl⟩ : ∃ q, k = q + 1 := ⟨k - 1, by omega⟩
    simp only [spec_l1Cur_rows.j2]
    cases b with
    | true =>
      rw [if_pos rfl, h8]
      exact rows_l2 n B M hn K x6 x7 (hb rfl) h6 hx next n.toNat k x8 0 i s (by omega) (by omega) (by omega) h8 hi hB2
    | false =>
      rw [if_neg (by simp), if_pos (by omega)]
      exact next k x8 i s (by omega) h8 hi hB2
  induction d with
  | zero =>
    intro k x8 x9 i s hk hd h0 h8 hi hB2
    obtain ⟨k, rfl⟩ : ∃ q, k = q + 1 := ⟨k - 1, by omega⟩
    simp only [spec_l1Cur_rows.l1]
    rw [if_neg (by omega)]
    refine Drew.ite (fun hp => ?_) (fun hp => ?_)
    · refine Drew.bind (m := 1) (m' := M) (one_ok h i s 3 hi (by omega) (by omega)) (fun v j t hv a b => ?_) (by omega)
      exact hj2 v k x8 j t (fun _ => by omega) (by omega) (by omega) (by omega) (by omega)
    · exact Drew.more (hj2 false k x8 i s (fun e => by cases e) (by omega) (by omega) hi (by omega)) (by omega)
  | succ d ih =>
    intro k x8 x9 i s hk hd h0 h8 hi hB2
    obtain ⟨k, rfl⟩ : ∃ q, k = q + 1 := ⟨k - 1, by omega⟩
    have hw : wrap64 (x9 + 1) = x9 + 1 := wrap_id (by omega) (by omega)
    simp only [spec_l1Cur_rows.l1]
    rw [if_pos (by omega)]
    refine Drew.bind (m := 1) (m' := (d : Int) + 1 + M) (pick_ok h i s 9 hi (by omega) (by omega)) (fun v j t hv a b => ?_) (by omega)
    rw [if_pos (by omega), hw]
    exact ih k _ (x9 + 1) j t (by omega) (by omega) (by omega) (by rw [List.length_append, List.length_singleton]; omega) (by omega) (by omega)
theorem rows_l0 {l : List Int} (h : Bytes l) (n : Int) (hn : 1 ≤ n ∧ n ≤ 5) (e : Nat) : ∀ (k : Nat) (x6 : List (List Int)) (x7 i s : Int), 20 * e + 20 ≤ k → x7 + (e : Int) = n → 0 ≤ x7 → (x6.length : Int) = x7 → (∀ x ∈ x6, (x.length : Int) = n) → 0 ≤ i → i + 6 * e ≤ 1000000 →
    Drew (spec_l1Cur_rows.l0 k n x6 x7 l i s) i (6 * e + 20) P14 := by
  induction e with
  | zero =>
    intro k x6 x7 i s hk he h0 h6 hx hi hB
    obtain ⟨k, rfl⟩ : ∃ q, k = q + 1 := ⟨k - 1, by omega⟩
    simp only [spec_l1Cur_rows.l0]
    rw [if_neg (by omega)]
    have r0 : ((rd_L1 x6 0).length : Int) = n := by
      rw [show (0 : Int) = ((0 : Nat) : Int) from rfl, show rd_L1 x6 ((0 : Nat) : Int) = x6[0]'(by omega) by unfold rd_L1; simp [show 0 < x6.length by omega]]
      exact hx _ (List.getElem_mem _)
    refine Drew.bind (m := 1) (m' := 19) (pick_ok h i s 14 hi (by omega) (by omega)) (fun v j t hv a b => ?_) (by omega)
    refine Drew.ite (fun _ => ?_) (fun _ => Drew.ite (fun _ => ?_) (fun _ => Drew.ite (fun _ => ?_) (fun _ => Drew.ite (fun _ => ?_) (fun _ => ?_))))
    · rw [if_pos (by omega)]
      refine Drew.bind (m := 1) (m' := 0) (among_ok h j t [(-101), (-100), 100, 101, 4611686018427387904] (by show (0 : Nat) < 5; omega) (by show (5 : Nat) ≤ 100; omega) (by omega) (by omega)) (fun v2 j2 t2 hv2 a2 b2 => ?_) (by omega)
      rw [if_pos (by omega)]
      exact Drew.done _ _ rfl (by unfold P14; rw [List.length_set]; omega) (by omega)
    · rw [if_pos (by omega)]
      exact Drew.done _ _ rfl (by unfold P14; rw [List.length_append, List.length_singleton]; omega) (by omega)
    · exact Drew.done _ _ rfl (by unfold P14; simp) (by omega)
    · exact Drew.more (rows_l3 h 14 k [] 0 j t (by omega) (by omega) (by omega) rfl (by omega) (by omega)) (by omega)
    · exact Drew.done _ _ rfl (by unfold P14; omega) (by omega)
  | succ e ih =>
    intro k x6 x7 i s hk he h0 h6 hx hi hB
    obtain ⟨k, rfl⟩ : ∃ q, k = q + 1 := ⟨k - 1, by omega⟩
    have hw : wrap64 (x7 + 1) = x7 + 1 := wrap_id (by omega) (by omega)
    simp only [spec_l1Cur_rows.l0]
    rw [if_pos (by omega)]
    refine Drew.more (rows_l1 h n (1000000 - 6 * e) (6 * e + 20) hn (by omega) (20 * e + 20) x6 x7 h6 (by omega) hx ?_ (by omega) n.toNat k [] 0 i s (by omega) (by omega) (by omega) rfl hi (by omega)) (by omega)
    intro k' x8 i' s' hk' h8 hi' hB'
    rw [hw]
    refine ih k' (x6 ++ [x8]) (x7 + 1) i' s' hk' (by omega) (by omega) (by rw [List.length_append, List.length_singleton]; omega) (fun x hx' => ?_) hi' (by omega)
    rcases List.mem_append.1 hx' with g | g
    · exact hx x g
    · obtain rfl := List.mem_singleton.1 g; exact h8
theorem taTab : (([1, 2, 3] : List Int).all fun n => ([-3, -2, -1, 0, 1, 2, 3] : List Int).all fun x => match spec_taTable.f 3000 n x with | some R => decide (R.length ≤ 14) | none => false) = true := by decide +kernel
theorem taTab_ok {n x : Int} (hn : 1 ≤ n ∧ n ≤ 3) (hx : -3 ≤ x ∧ x ≤ 3) : ∃ R, spec_taTable.f 3000 n x = some R ∧ R.length ≤ 14 := by
  have m1 : n ∈ ([1, 2, 3] : List Int) := by
    obtain rfl | rfl | rfl : n = 1 ∨ n = 2 ∨ n = 3 := by omega
    all_goals decide
  have m2 : x ∈ ([-3, -2, -1, 0, 1, 2, 3] : List Int) := by
    obtain rfl | rfl | rfl | rfl | rfl | rfl | rfl : x = -3 ∨ x = -2 ∨ x = -1 ∨ x = 0 ∨ x = 1 ∨ x = 2 ∨ x = 3 := by omega
    all_goals decide
  have := List.all_eq_true.1 (List.all_eq_true.1 taTab n m1) x m2
  cases h : spec_taTable.f 3000 n x with
  | none => rw [h] at this; exact absurd this (by simp)
  | some R => rw [h] at this; exact ⟨R, rfl, of_decide_eq_true this⟩
theorem upm {α : Type} {g : Nat → Option α} (hm : ∀ k, LeO (g k) (g (k + 1))) {r : α} {k : Nat} (h : g k = some r) : ∀ d, g (k + d) = some r
  | 0 => h
  | d + 1 => hm _ r (upm hm h d)
theorem upK {α : Type} {g : Nat → Option α} {r : α} (hm : ∀ k, LeO (g k) (g (k + 1))) (h : g 3000 = some r) {k : Nat} (hk : 3000 ≤ k) : g k = some r := by
  obtain ⟨d, rfl⟩ : ∃ d, k = 3000 + d := ⟨k - 3000, by omega⟩
  exact upm hm h d
theorem rows_ok {l : List Int} (h : Bytes l) (k : Nat) (hk : 3000 ≤ k) : Drew (spec_l1Cur_rows.f k l 0 0) 0 100 P14 := by
  unfold spec_l1Cur_rows.f
  refine Drew.bind (m := 1) (m' := 99) (one_ok h 0 0 3 (by omega) (by omega) (by omega)) (fun v j t hv a b => ?_) (by omega)
  refine Drew.ite (fun _ => ?_) (fun _ => ?_)
  · refine Drew.bind (m := 1) (m' := 98) (pick_ok h j t 3 (by omega) (by omega) (by omega)) (fun n j2 t2 hn a2 b2 => ?_) (by omega)
    refine Drew.bind (m := 1) (m' := 97) (pick_ok h j2 t2 7 (by omega) (by omega) (by omega)) (fun x j3 t3 hx a3 b3 => ?_) (by omega)
    have w1 : wrap64 (1 + n) = 1 + n := wrap_id (by omega) (by omega)
    have w2 : wrap64 (x - 3) = x - 3 := wrap_id (by omega) (by omega)
    obtain ⟨R, hR, hl⟩ := taTab_ok (n := 1 + n) (x := x - 3) (by omega) (by omega)
    have hR2 := upK (g := fun k => spec_taTable.f k (1 + n) (x - 3)) (fun k => spec_taTable.mono _ _ k) hR hk
    show Drew ((spec_taTable.f k (wrap64 (1 + n)) (wrap64 (x - 3))).bind _) j3 97 P14
    rw [w1, w2, hR2]
    exact Drew.done R t3 rfl hl (by omega)
  · refine Drew.bind (m := 1) (m' := 98) (pick_ok h j t 5 (by omega) (by omega) (by omega)) (fun n j2 t2 hn a2 b2 => ?_) (by omega)
    have w1 : wrap64 (1 + n) = 1 + n := wrap_id (by omega) (by omega)
    show Drew (spec_l1Cur_rows.l0 k (wrap64 (1 + n)) [] 0 l j2 t2) j2 98 P14
    rw [w1]
    exact Drew.more (rows_l0 h (1 + n) (by omega) (1 + n).toNat k [] 0 j2 t2 (by omega) (by omega) (by omega) rfl (fun x hx => by cases hx) (by omega) (by omega)) (by omega)
/-- rows to bring to zero and numbers to apply them to -/
theorem apply_l0 {l : List Int} (h : Bytes l) (q : List (List Int)) (hq : q.length ≤ 14) (d : Nat) : ∀ (k : Nat) (x6 : List Int) (x14 i s : Int), d + 1 ≤ k → x14 + (d : Int) = q.length → 0 ≤ x14 → (x6.length : Int) = x14 → 0 ≤ i → i + d ≤ 1000 →
    ∃ v : List Int, spec_DrawApplyTable.l0 k q x6 (q.length : Int) x14 l i s = some (q, v) ∧ v.length = q.length := by
  induction d with
  | zero =>
    intro k x6 x14 i s hk hd h0 h6 hi hB
    obtain ⟨k, rfl⟩ : ∃ q, k = q + 1 := ⟨k - 1, by omega⟩
    simp only [spec_DrawApplyTable.l0]
    rw [if_neg (by omega)]
    by_cases hp : (x6.length : Int) > 0
    · rw [if_pos hp]
      obtain ⟨b, j, t, e, _, j1, j2⟩ := (one_ok h i s 10 hi (by omega) (by omega)).ok
      rw [e, Option.bind_some]
      simp only
      cases b with
      | false => rw [if_neg (by simp)]; exact ⟨x6, rfl, by omega⟩
      | true =>
        rw [if_pos rfl]
        obtain ⟨y, j', t', e', _, _⟩ := (among_ok h j t [(-1001), (-1000), 1000, 1001] (by show (0 : Nat) < 4; omega) (by show (4 : Nat) ≤ 100; omega) (by omega) (by omega)).ok
        rw [e', Option.bind_some, if_pos (by omega)]
        exact ⟨_, rfl, by rw [List.length_set]; omega⟩
    · rw [if_neg hp]; exact ⟨x6, rfl, by omega⟩
  | succ d ih =>
    intro k x6 x14 i s hk hd h0 h6 hi hB
    obtain ⟨k, rfl⟩ : ∃ q, k = q + 1 := ⟨k - 1, by omega⟩
    have hw : wrap64 (x14 + 1) = x14 + 1 := wrap_id (by omega) (by omega)
    obtain ⟨v, j, t, e, _, j1, j2⟩ := (pick_ok h i s 21 hi (by omega) (by omega)).ok
    simp only [spec_DrawApplyTable.l0]
    rw [if_pos (by omega), e, Option.bind_some, if_pos (by omega), hw]
    exact ih k _ (x14 + 1) j t (by omega) (by omega) (by omega) (by rw [List.length_append, List.length_singleton]; omega) (by omega) (by omega)
theorem drawApply_ok {l : List Int} (h : Bytes l) (k : Nat) (hk : 3000 ≤ k) : ∃ (q : List (List Int)) (v : List Int), spec_DrawApplyTable.f k l = some (q, v) ∧ q.length ≤ 14 ∧ v.length = q.length := by
  obtain ⟨q, j, t, e, hq, j1, j2⟩ := (rows_ok h k hk).ok
  unfold P14 at hq
  obtain ⟨v, hv, hl⟩ := apply_l0 h q hq q.length k [] 0 j t (by omega) (by omega) (by omega) rfl (by omega) (by omega)
  exact ⟨q, v, by unfold spec_DrawApplyTable.f; rw [e, Option.bind_some]; exact hv, hq, hl⟩
theorem drawRows_ok {l : List Int} (h : Bytes l) (k : Nat) (hk : 3000 ≤ k) : ∃ R : List (List Int), spec_DrawDeterminantOf.f k l = some R ∧ R.length ≤ 14 := by
  obtain ⟨q, j, t, e, hq, j1, j2⟩ := (rows_ok h k hk).ok
  exact ⟨q, by unfold spec_DrawDeterminantOf.f; rw [e]; rfl, hq⟩

end Go.Proofs.Ytbphdjnainlbhaa.Pure
