/- The law FnRowsOfTables, as plain lists tell it: at all bytes the law says yes. -/
import Derived.Test.YtbphdjnainlbhaaPTurnL
import Derived.Test.YtbphdjnainlbhaaPApply
import Derived.Test.YtbphdjnainlbhaaPDrawRows
import Derived.Test.YtbphdjnainlbhaaQA2
import Derived.Test.YtbphdjnainlbhaaRTL
set_option linter.unusedVariables false
set_option linter.unusedSimpArgs false
namespace Go.Proofs.Ytbphdjnainlbhaa.Pure
open Go.RowKit Go.Proofs.Ytbphdjnainlbhaa.R Go.Proofs.YtbphdjnainlbhaaW.PrintWords Go.Proofs.YtbphdjnainlbhaaW.PrintLast Go.Proofs.YtbphdjnainlbhaaW.PrintMore

/-- the tables of the numbers of components, by the kernel -/
def chkX (n : Int) : Bool := match impl_ExponentTable.f 3000 n, spec_ExponentTable.f 3000 n with
  | some (r, a), some (q, b) => a == b && (laws_sSameRows.f 3000 r q == some true)
  | _, _ => false
theorem allX : (([-1, 0, 1, 2, 3, 4, 5] : List Int).all chkX) = true := by decide +kernel
theorem x_mem {x : Int} (h : -1 ≤ x ∧ x ≤ 5) : x ∈ ([-1, 0, 1, 2, 3, 4, 5] : List Int) := by
  obtain rfl | rfl | rfl | rfl | rfl | rfl | rfl : x = -1 ∨ x = 0 ∨ x = 1 ∨ x = 2 ∨ x = 3 ∨ x = 4 ∨ x = 5 := by omega
  all_goals decide
theorem arches_ok {l : List Int} (h : Bytes l) : ∃ n, spec_DrawExponentTable.f l = some n ∧ -1 ≤ n ∧ n ≤ 5 := by
  have key : Drew (spec_l1Cur_arches.f l 0 0 4) 0 10 (fun n => -1 ≤ n ∧ n ≤ 5) := by
    unfold spec_l1Cur_arches.f
    refine Drew.bind (m := 1) (m' := 9) (one_ok h 0 0 8 (by omega) (by omega) (by omega)) (fun v j t hv a b => ?_) (by omega)
    have w : wrap64 (4 + 1) = 5 := wrap_id (x := 4 + 1) (by omega) (by omega)
    refine Drew.ite (fun _ => ?_) (fun _ => ?_)
    · refine Drew.bind (m := 1) (m' := 8) (among_ok h j t [(-1), 0, 1, 4, wrap64 (4 + 1)] (by show (0 : Nat) < 5; omega) (by show (5 : Nat) ≤ 100; omega) (by omega) (by omega)) (fun n j2 t2 hn a2 b2 => ?_) (by omega)
      rw [w] at hn
      simp only [List.mem_cons, List.not_mem_nil, or_false] at hn
      exact Drew.done _ _ rfl (by omega) (by omega)
    · rw [w]
      refine Drew.bind (m := 1) (m' := 8) (pick_ok h j t 5 (by omega) (by omega) (by omega)) (fun n j2 t2 hn a2 b2 => ?_) (by omega)
      exact Drew.done _ _ rfl (by omega) (by omega)
  obtain ⟨n, j, s, e, hn, _⟩ := key.ok
  exact ⟨n, by unfold spec_DrawExponentTable.f; rw [e]; rfl, hn⟩
theorem sSame_l0 (l : List Int) (hl : l.length ≤ 1000) (d : Nat) : ∀ (k i : Nat), i + d = l.length → d < k → laws_sSame.l0 k l l (l.length : Int) (i : Int) = some true := by
  induction d with
  | zero =>
    intro k i hi hk
    obtain ⟨k, rfl⟩ : ∃ m, k = m + 1 := ⟨k - 1, by omega⟩
    rw [laws_sSame.l0, if_neg (by omega)]
  | succ d ih =>
    intro k i hi hk
    obtain ⟨k, rfl⟩ : ∃ m, k = m + 1 := ⟨k - 1, by omega⟩
    have h := ih k (i + 1) (by omega) (by omega)
    rw [laws_sSame.l0, wrap_succ (by omega)]
    simp only [show (i : Int) < (l.length : Int) by omega, show 0 ≤ (i : Int) by omega, if_true]
    exact h
theorem sSame_ev (l : List Int) (hl : l.length ≤ 1000) (k : Nat) (hk : 1001 ≤ k) : laws_sSame.f k l l = some true := by
  unfold laws_sSame.f
  rw [if_pos rfl]
  have := sSame_l0 l hl l.length k 0 (by omega) (by omega)
  rw [Int.natCast_zero] at this
  exact this
/-- the rows as one asks for them -/
def J5 (k : Nat) (R : List (List Int)) (det : Int) (ok : Bool) (rank : Int) (one : Bool) (row : Int) (three : Bool) : Prop := laws_FnRowsOfTables.j5 k R det ok rank one row three = some true
theorem l3_ok (R : List (List Int)) (hR : R.length ≤ 14) (hr : ∀ x ∈ R, x.length = R.length) (det : Int) (ok : Bool) (rank : Int) (T : List (List Int)) (hT : T.length ≤ 14) (c : Nat) (hc : c < R.length) (d : Nat) : ∀ (i k : Nat) (col : List Int), i + d = R.length → col = (R.take i).map (fun row => row.getD c 0) →
    laws_FnRowsOfTables.l3 (k + d + 1) R det ok rank T (c : Int) col (R.length : Int) (c : Int) R (R.length : Int) (i : Int) = laws_FnRowsOfTables.l2 k R det ok rank (T ++ [R.map fun row => row.getD c 0]) (R.length : Int) ((c + 1 : Nat) : Int) := by
  induction d with
  | zero =>
    intro i k col hi hcol
    have e : R.take i = R := by rw [show i = R.length by omega, List.take_length]
    rw [e] at hcol
    subst hcol
    rw [show k + 0 + 1 = k + 1 from rfl, laws_FnRowsOfTables.l3, if_neg (by omega), if_pos (by omega), wrap_succ (by omega)]
  | succ d ih =>
    intro i k col hi hcol
    have h : i < R.length := by omega
    have hlen := hr _ (List.getElem_mem h)
    have hcl : col.length ≤ 14 := by rw [hcol, List.length_map, List.length_take]; omega
    rw [show k + (d + 1) + 1 = (k + d + 1) + 1 from rfl, laws_FnRowsOfTables.l3, if_pos (by omega), if_pos (by omega), if_pos (by omega), if_pos (by omega), rdL1_at h, if_pos (by omega), if_pos (by omega), wrap_succ (by omega)]
    refine ih (i + 1) k _ (by omega) ?_
    rw [hcol, List.take_succ_eq_append_getElem h, List.map_append, rd_nat]
    rfl
theorem l2_ok {R : List (List Int)} (hR : R.length ≤ 14) (hr : ∀ x ∈ R, x.length = R.length) {det : Int} {ok : Bool} {rank row : Int} {three : Bool} (A : Asked R det ok rank row three) (d : Nat) : ∀ (c k : Nat) (T : List (List Int)), c + d = R.length → T = (List.range c).map (fun c => R.map fun row => row.getD c 0) → 20 * d + 400 ≤ k →
    laws_FnRowsOfTables.l2 k R det ok rank T (R.length : Int) (c : Int) = some true := by
  induction d with
  | zero =>
    intro c k T hc hT hk
    obtain ⟨k, rfl⟩ : ∃ m, k = m + 1 := ⟨k - 1, by omega⟩
    have e : T = turnL R := by rw [hT, show c = R.length by omega]; rfl
    obtain ⟨_, _, _, _, _, _, h7, h8⟩ := A.ev k (by omega)
    rw [laws_FnRowsOfTables.l2, if_neg (by omega), e, h8, Option.bind_some, h7, Option.bind_some]
    simp
  | succ d ih =>
    intro c k T hc hT hk
    obtain ⟨k, rfl⟩ : ∃ m, k = (m + R.length + 1) + 1 := ⟨k - 2 - R.length, by omega⟩
    have hTl : T.length ≤ 14 := by rw [hT, List.length_map, List.length_range]; omega
    have h3 := l3_ok R hR hr det ok rank T hTl c (by omega) R.length 0 k [] (by omega) rfl
    rw [Int.natCast_zero] at h3
    rw [laws_FnRowsOfTables.l2, if_pos (by omega), h3]
    refine ih (c + 1) k _ (by omega) ?_ (by omega)
    rw [hT, List.range_succ, List.map_append]
    rfl
theorem j5_ok {R : List (List Int)} (hR : R.length ≤ 14) (hr : ∀ x ∈ R, x.length = R.length) {det : Int} {ok : Bool} {rank row : Int} {three : Bool} (A : Asked R det ok rank row three) (k : Nat) (hk : 1000 ≤ k) :
    laws_FnRowsOfTables.j5 k R det ok rank true row three = some true := by
  obtain ⟨k, rfl⟩ : ∃ m, k = m + 2 := ⟨k - 2, by omega⟩
  have h2 := l2_ok hR hr A R.length 0 k [] (by omega) rfl (by omega)
  rw [Int.natCast_zero] at h2
  have h6 : laws_FnRowsOfTables.j6 (k + 1) R det ok rank false = some true := by
    rw [laws_FnRowsOfTables.j6, if_neg (by simp)]; exact h2
  rw [laws_FnRowsOfTables.j5, if_pos rfl]
  rcases A.said with ⟨rfl, hrk, hd⟩ | ⟨rfl, hrk, hrow, hd⟩
  · rw [if_neg (by rw [hrk]; simp), if_neg (by simp)]
    cases ok with
    | false => rw [if_neg (by simp)]; exact h6
    | true =>
      rw [if_pos rfl, show (det == 0) = false by simpa using hd rfl]
      exact h6
  · rw [if_neg (by simpa using hrk), if_pos rfl, if_neg hrow]
    cases ok with
    | false => rw [if_neg (by simp)]; exact h6
    | true => rw [if_pos rfl, if_pos (hd rfl)]; exact h6
theorem l1_ok (R : List (List Int)) (det : Int) (ok : Bool) (rank : Int) (one : Bool) (row : Int) (three : Bool) (r : List Int) (hr : r.length ≤ 14) (hb : ∀ y ∈ r, -1400000 ≤ y ∧ y ≤ 1400000) (h5 : ∀ k, 1000 ≤ k → laws_FnRowsOfTables.j5 k R det ok rank one row three = some true) (d : Nat) : ∀ (i k : Nat), i + d = r.length → 1001 + d ≤ k →
    laws_FnRowsOfTables.l1 k R det ok rank one row three r (r.map fun y => -y) (r.length : Int) (i : Int) = some true := by
  induction d with
  | zero =>
    intro i k hi hk
    obtain ⟨k, rfl⟩ : ∃ m, k = m + 1 := ⟨k - 1, by omega⟩
    rw [laws_FnRowsOfTables.l1, if_neg (by omega)]
    exact h5 k (by omega)
  | succ d ih =>
    intro i k hi hk
    obtain ⟨k, rfl⟩ : ∃ m, k = m + 1 := ⟨k - 1, by omega⟩
    have h : i < r.length := by omega
    have hy := hb _ (List.getElem_mem h)
    have e : rd r (i : Int) = wrap64 (-(rd (r.map fun y => -y) (i : Int))) := by
      rw [rd_map_neg, Int.neg_neg, rd_get h, wrap_id (by omega) (by omega)]
    rw [laws_FnRowsOfTables.l1, if_pos (by omega), if_pos (by omega), if_pos (by omega), if_pos (by rw [List.length_map]; omega), if_pos e, wrap_succ (by omega)]
    exact ih (i + 1) k (by omega) (by omega)
theorem l0_ok (R : List (List Int)) (det : Int) (ok : Bool) (rank : Int) (one : Bool) (row : Int) (three : Bool) (q : List (List Int)) (v r : List Int) (hv : v.length ≤ 14) (hvb : ∀ y ∈ v, -4611686018427387904 ≤ y ∧ y ≤ 4611686018427387904) (hr : r.length ≤ 14) (hb : ∀ y ∈ r, -1400000 ≤ y ∧ y ≤ 1400000)
    (ha : ∀ k, 1100 ≤ k → impl_ApplyTable.f k q (v.map fun y => -y) = some ((r.map fun y => -y), true)) (h5 : ∀ k, 1000 ≤ k → laws_FnRowsOfTables.j5 k R det ok rank one row three = some true) (d : Nat) : ∀ (i k : Nat) (back : List Int), i + d = v.length → back = (v.take i).map (fun y => -y) → 1200 + d ≤ k →
    laws_FnRowsOfTables.l0 k R det ok rank one row three q r back v (v.length : Int) (i : Int) = some true := by
  induction d with
  | zero =>
    intro i k back hi hbk hk
    obtain ⟨k, rfl⟩ : ∃ m, k = m + 1 := ⟨k - 1, by omega⟩
    rw [show i = v.length by omega, List.take_length] at hbk
    have := l1_ok R det ok rank one row three r hr hb h5 r.length 0 k (by omega) (by omega)
    rw [Int.natCast_zero] at this
    rw [laws_FnRowsOfTables.l0, if_neg (by omega), hbk, ha k (by omega), Option.bind_some]
    simp only
    rw [if_pos trivial]
    exact this
  | succ d ih =>
    intro i k back hi hbk hk
    obtain ⟨k, rfl⟩ : ∃ m, k = m + 1 := ⟨k - 1, by omega⟩
    have h : i < v.length := by omega
    have hy := hvb _ (List.getElem_mem h)
    have hl : back.length ≤ 14 := by rw [hbk, List.length_map, List.length_take]; omega
    rw [laws_FnRowsOfTables.l0, if_pos (by omega), if_pos (by omega), if_pos (by omega), if_pos (by omega), wrap_succ (by omega), rd_get h, wrap_id (x := -v[i]) (by omega) (by omega)]
    refine ih (i + 1) k _ (by omega) ?_ (by omega)
    rw [hbk, List.take_succ_eq_append_getElem h, List.map_append]
    rfl
theorem j0_ok {l : List Int} (hl : Bytes l) (R : List (List Int)) (det : Int) (ok : Bool) (rank : Int) (one : Bool) (row : Int) (three : Bool) (h5 : ∀ k, 1000 ≤ k → laws_FnRowsOfTables.j5 k R det ok rank one row three = some true) (k : Nat) (hk : 4000 ≤ k) :
    laws_FnRowsOfTables.j0 k l R det ok rank one row three false = some true := by
  obtain ⟨k, rfl⟩ : ∃ m, k = m + 3 := ⟨k - 3, by omega⟩
  obtain ⟨n, en, hn⟩ := arches_ok hl
  have hX := List.all_eq_true.1 allX n (x_mem hn)
  unfold chkX at hX
  cases h1 : impl_ExponentTable.f 3000 n with
  | none => rw [h1] at hX; exact absurd hX (by simp)
  | some a =>
    cases h2 : spec_ExponentTable.f 3000 n with
    | none => rw [h1, h2] at hX; exact absurd hX (by simp)
    | some b =>
      obtain ⟨x, xa⟩ := a
      obtain ⟨y, yb⟩ := b
      rw [h1, h2] at hX
      simp only [Bool.and_eq_true, beq_iff_eq] at hX
      obtain ⟨rfl, hs⟩ := hX
      have f1 := upK (g := fun k => impl_ExponentTable.f k n) (fun k => impl_ExponentTable.mono _ k) h1 (k := k + 2) (by omega)
      have f2 := upK (g := fun k => spec_ExponentTable.f k n) (fun k => spec_ExponentTable.mono _ k) h2 (k := k + 2) (by omega)
      have f3 := upK (g := fun k => laws_sSameRows.f k x y) (fun k => laws_sSameRows.mono _ _ k) hs (k := k + 2) (by omega)
      obtain ⟨q, v, eq, hq, hv⟩ := drawApply_ok hl (k + 1) (by omega)
      obtain ⟨r, b, hr, hb, hneg, hev⟩ := both_ev q v (by omega)
      obtain ⟨g1, g2⟩ := hev (k + 1) (by omega)
      have g3 := sSame_ev r (by omega) (k + 1) (by omega)
      rw [laws_FnRowsOfTables.j0, if_neg (by simp), en, Option.bind_some, f1, Option.bind_some, f2, Option.bind_some]
      simp only [bne_self_eq_false, Bool.false_eq_true, if_false]
      rw [f3, Option.bind_some, Bool.not_true, laws_FnRowsOfTables.j1, if_neg (by simp), eq, Option.bind_some]
      simp only
      rw [g2, Option.bind_some, g1, Option.bind_some]
      simp only [bne_self_eq_false, Bool.false_eq_true, if_false]
      rw [g3, Option.bind_some, Bool.not_true, laws_FnRowsOfTables.j2, if_neg (by simp)]
      cases b with
      | false => rw [if_neg (by simp)]; exact h5 k (by omega)
      | true =>
        rw [if_pos rfl]
        have := l0_ok R det ok rank one row three q v r (by omega) (fun y hy => ?_) hr hb (fun k hk => (hneg rfl).2 k (by omega)) h5 v.length 0 k [] (by omega) rfl (by omega)
        · rw [Int.natCast_zero] at this; exact this
        · have := (hneg rfl).1 y hy; omega
theorem FnRowsOfTables : laws_FnRowsOfTables.Pure := by
  intro l0 l1 hl0 _ hw0 hl1 _ hw1
  have hbig : laws_big.f l0 l1 = some (if (l0.length : Int) > 1048576 then true else decide ((l1.length : Int) > 1048576 - (l0.length : Int))) := by
    unfold laws_big.f
    by_cases hb : (l0.length : Int) > 1048576
    · rw [if_pos hb, if_pos hb]
    · rw [if_neg hb, if_neg hb, wrap_id (by omega) (by omega)]
  by_cases hb : (if (l0.length : Int) > 1048576 then true else decide ((l1.length : Int) > 1048576 - (l0.length : Int))) = true
  · rw [hb] at hbig
    refine ⟨0, ?_⟩
    unfold laws_FnRowsOfTables.f
    rw [hbig, Option.bind_some, if_pos rfl]
  have hbf := Bool.eq_false_iff.mpr hb
  rw [hbf] at hbig
  have hlen : l0.length ≤ 1048576 ∧ l1.length ≤ 1048576 := by
    by_cases hc : (l0.length : Int) > 1048576
    · rw [if_pos hc] at hb; exact absurd rfl hb
    · rw [if_neg hc] at hb
      have : ¬ (l1.length : Int) > 1048576 - (l0.length : Int) := fun h => hb (decide_eq_true h)
      omega
  have hB0 : Bytes l0 := ⟨hlen.1, fun x hx => wf_u8' (hw0 x hx)⟩
  have hB1 : Bytes l1 := ⟨hlen.2, fun x hx => wf_u8' (hw1 x hx)⟩
  obtain ⟨R, eR, hR⟩ := drawRows_ok hB0 4000 (by omega)
  refine ⟨4000, ?_⟩
  unfold laws_FnRowsOfTables.f
  rw [hbig, Option.bind_some, if_neg (by simp), eR, Option.bind_some]
  cases hrows : rowsB R with
  | true =>
    obtain ⟨det, ok, rank, row, three, A⟩ := asked hrows
    obtain ⟨h1, h2, h3, h4, h5, h6, _, _⟩ := A.ev 4000 (by omega)
    have hj := j0_ok hB1 R det ok rank true row three (fun k hk => j5_ok hR (rowsB_row hrows) A k hk) 4000 (by omega)
    rw [h1, Option.bind_some, h2, Option.bind_some, h3, Option.bind_some, h4, Option.bind_some, h5, Option.bind_some, h6, Option.bind_some]
    simp only [bne_self_eq_false, Bool.false_eq_true, if_false, if_true, Bool.not_true, ite_self]
    exact hj
  | false =>
    obtain ⟨h2, h1⟩ := det_no hrows 4000 (by omega)
    obtain ⟨h4, h3⟩ := rankOf_no hrows 4000 (by omega)
    obtain ⟨row, three, hd, _⟩ := dep_ans R
    obtain ⟨h6, h5⟩ := hd 4000 (by omega)
    have hj := j0_ok hB1 R 0 false 0 false row three (fun k hk => by
      obtain ⟨k, rfl⟩ : ∃ m, k = m + 1 := ⟨k - 1, by omega⟩
      rw [laws_FnRowsOfTables.j5, if_neg (by simp)]) 4000 (by omega)
    rw [h1, Option.bind_some, h2, Option.bind_some, h3, Option.bind_some, h4, Option.bind_some, h5, Option.bind_some, h6, Option.bind_some]
    simp only [bne_self_eq_false, Bool.false_eq_true, if_false, if_true]
    exact hj

end Go.Proofs.Ytbphdjnainlbhaa.Pure
