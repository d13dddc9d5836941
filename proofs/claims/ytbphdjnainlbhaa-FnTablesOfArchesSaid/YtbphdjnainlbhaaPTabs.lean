/- Tables of arches: the numbers drawn, and what the functions say of all of them (by the kernel). -/
import Derived.Test.YtbphdjnainlbhaaPCur
import Derived.Test.YtbphdjnainlbhaaTAL
import Derived.Test.YtbphdjnainlbhaaQB2
set_option linter.unusedVariables false
set_option linter.unusedSimpArgs false
namespace Go.Proofs.Ytbphdjnainlbhaa.Pure
open Go.RowKit Go.Proofs.Ytbphdjnainlbhaa.R Go.Proofs.YtbphdjnainlbhaaW.PrintWords Go.Proofs.YtbphdjnainlbhaaW.PrintLast Go.Proofs.YtbphdjnainlbhaaW.PrintMore

theorem among_ok {l : List Int} (h : Bytes l) (i s : Int) (L : List Int) (hL : 0 < L.length) (hL2 : L.length ≤ 100) (h0 : 0 ≤ i) (h1 : i ≤ 1000000000) : Drew (spec_l1Cur_among.f l i s L) i 1 (fun v => v ∈ L) := by
  unfold spec_l1Cur_among.f
  refine Drew.bind (m := 1) (m' := 0) (pick_ok h i s (L.length : Int) h0 h1 (by omega)) (fun v j t hv a b => ?_) (by omega)
  have h2 : v < (L.length : Int) := by omega
  refine Drew.ite (fun _ => Drew.ite (fun _ => ?_) (fun n => absurd h2 n)) (fun n => absurd hv.1 n)
  refine Drew.done _ _ rfl ?_ (by omega)
  obtain ⟨n, hn⟩ : ∃ n : Nat, v = (n : Int) := ⟨v.toNat, by omega⟩
  show rd L v ∈ L
  rw [hn, rd_get (by omega)]
  exact List.getElem_mem _
def Xs : List Int := [-4, -3, -2, -1, 0, 1, 2, 3, 4, 4611686018427387904]
theorem xs_mem {x : Int} (h : -4 ≤ x ∧ x ≤ 4 ∨ x = 4611686018427387904) : x ∈ Xs := by
  rcases h with h | h
  · obtain rfl | rfl | rfl | rfl | rfl | rfl | rfl | rfl | rfl : x = -4 ∨ x = -3 ∨ x = -2 ∨ x = -1 ∨ x = 0 ∨ x = 1 ∨ x = 2 ∨ x = 3 ∨ x = 4 := by omega
    all_goals decide
  · subst h; decide
/-- what tabled draws -/
theorem tabled_ok {l : List Int} (h : Bytes l) (m : Int) (hm : 0 ≤ m ∧ m ≤ 4) : ∃ n x j s, spec_l1Cur_tabled.f l 0 0 m = some (n, x, j, s) ∧ (-1 ≤ n ∧ n ≤ 5) ∧ x ∈ Xs := by
  unfold spec_l1Cur_tabled.f
  rw [wrap_id (by omega) (by omega)]
  obtain ⟨n, j, s, e, hn, h1, h2⟩ := (pick_ok h 0 0 (m + 1) (by omega) (by omega) (by omega)).ok
  rw [e, Option.bind_some]
  obtain ⟨x, j2, s2, e2, hx, h3, h4⟩ := (pick_ok h j s 7 (by omega) (by omega) (by omega)).ok
  rw [e2, Option.bind_some]
  obtain ⟨c, j3, s3, e3, hc, h5, h6⟩ := (pick_ok h j2 s2 12 (by omega) (by omega) (by omega)).ok
  rw [e3, Option.bind_some]
  have hw : wrap64 (x - 3) = x - 3 := wrap_id (by omega) (by omega)
  show ∃ n' x' j' s', (if c = 0 then _ else _) = some (n', x', j', s') ∧ _
  by_cases c0 : c = 0
  · rw [if_pos c0]
    obtain ⟨v, j4, s4, e4, hv, _⟩ := (among_ok h j3 s3 [(-1), 4, 5] (by show (0 : Nat) < 3; omega) (by show (3 : Nat) ≤ 100; omega) (by omega) (by omega)).ok
    refine ⟨v, wrap64 (x - 3), j4, s4, by rw [e4]; rfl, ?_, ?_⟩
    · simp only [List.mem_cons, List.not_mem_nil, or_false] at hv; omega
    · rw [hw]; exact xs_mem (by omega)
  · rw [if_neg c0]
    by_cases c1 : c = 1
    · rw [if_pos c1]
      obtain ⟨v, j4, s4, e4, hv, _⟩ := (among_ok h j3 s3 [(-4), (-3), 3, 4, 4611686018427387904] (by show (0 : Nat) < 5; omega) (by show (5 : Nat) ≤ 100; omega) (by omega) (by omega)).ok
      refine ⟨n, v, j4, s4, by rw [e4]; rfl, by omega, ?_⟩
      simp only [List.mem_cons, List.not_mem_nil, or_false] at hv
      exact xs_mem (by omega)
    · rw [if_neg c1]
      exact ⟨n, wrap64 (x - 3), j3, s3, rfl, by omega, by rw [hw]; exact xs_mem (by omega)⟩
theorem valueAt_ok {l : List Int} (h : Bytes l) : ∃ k z, spec_DrawValueAt.f l = some (k, z) ∧ (-1 ≤ k ∧ k ≤ 11) ∧ -4 ≤ z ∧ z ≤ 4 := by
  unfold spec_DrawValueAt.f
  obtain ⟨n, j, s, e, hn, h1, h2⟩ := (pick_ok h 0 0 13 (by omega) (by omega) (by omega)).ok
  rw [e, Option.bind_some]
  obtain ⟨x, j2, s2, e2, hx, h3, h4⟩ := (pick_ok h j s 9 (by omega) (by omega) (by omega)).ok
  rw [e2, Option.bind_some]
  refine ⟨_, _, rfl, ?_, ?_⟩
  · show -1 ≤ wrap64 (n - 1) ∧ wrap64 (n - 1) ≤ 11
    rw [wrap_id (by omega) (by omega)]; omega
  · show -4 ≤ wrap64 (x - 4) ∧ wrap64 (x - 4) ≤ 4
    rw [wrap_id (by omega) (by omega)]; omega
theorem exponentOf_ok {l : List Int} (h : Bytes l) : ∃ a b, spec_DrawExponentOf.f l = some (a, b) ∧ (-1 ≤ a ∧ a ≤ 5) ∧ 0 ≤ b ∧ b ≤ 5 := by
  unfold spec_DrawExponentOf.f
  obtain ⟨n, j, s, e, hn, h1, h2⟩ := (pick_ok h 0 0 6 (by omega) (by omega) (by omega)).ok
  rw [e, Option.bind_some]
  obtain ⟨x, j2, s2, e2, hx, h3, h4⟩ := (pick_ok h j s 9 (by omega) (by omega) (by omega)).ok
  rw [e2, Option.bind_some]
  obtain ⟨c, j3, s3, e3, hc, h5, h6⟩ := (pick_ok h j2 s2 6 (by omega) (by omega) (by omega)).ok
  rw [e3, Option.bind_some]
  refine ⟨_, _, rfl, ?_, ?_⟩
  · show -1 ≤ wrap64 (n - wrap64 (Int.tdiv x 8)) ∧ wrap64 (n - wrap64 (Int.tdiv x 8)) ≤ 5
    have hd : 0 ≤ Int.tdiv x 8 ∧ Int.tdiv x 8 ≤ 1 := by
      rw [Int.tdiv_eq_ediv_of_nonneg (by omega)]; omega
    rw [wrap_id (x := Int.tdiv x 8) (by omega) (by omega), wrap_id (by omega) (by omega)]; omega
  · show 0 ≤ c ∧ c ≤ 5
    omega
/-- the own product of the law, round by round -/
def runB (m y : Int) : Nat → Int → Int → Option Int
  | 0, _, own => some own
  | c + 1, i, own => (impl_ValueAt.f 3000 i y).bind fun v => (impl_ExponentOf.f 3000 m i).bind fun e => if v.2 = true then if e.2 = true then if e.1 < 0 then none else (laws_sPower.f 3000 v.1 e.1).bind fun p => runB m y c (i + 1) (wrap64 (own * p)) else none else none
def chkB (m y : Int) : Bool := match impl_ProductDeterminant.f 3000 m y, spec_ProductDeterminant.f 3000 m y with
  | some (p, t), some (q, t') => t == t' && p == q && (!t || (decide (1 ≤ m) && decide (m ≤ 4) && (runB m y m.toNat 1 1 == some p) && match impl_TableAt.f 3000 m y with
    | some (tb, th) => th && (match impl_DeterminantOf.f 3000 tb, impl_RankOf.f 3000 tb with
      | some (d, f), some (r, g) => f && d == p && g && ((r == (tb.length : Int)) == (d != 0)) && (!(y == 1 || y == -1) || r == 1 || m != 1)
      | _, _ => false)
    | none => false))
  | _, _ => false
def Ms : List Int := [-1, 0, 1, 2, 3, 4, 5]
theorem ms_mem {x : Int} (h : -1 ≤ x ∧ x ≤ 5) : x ∈ Ms := by
  obtain rfl | rfl | rfl | rfl | rfl | rfl | rfl : x = -1 ∨ x = 0 ∨ x = 1 ∨ x = 2 ∨ x = 3 ∨ x = 4 ∨ x = 5 := by omega
  all_goals decide
theorem allB : (Ms.all fun m => Xs.all fun y => chkB m y) = true := by decide +kernel
def chkA (n x : Int) : Bool := match impl_TableAt.f 3000 n x, spec_TableAt.f 3000 n x, impl_SumOfTable.f 3000 n x, spec_SumOfTable.f 3000 n x with
  | some (r, ok), some (q, fine), some (s, one), some (w, two) => ok == fine && (laws_sSameRows.f 3000 r q == some true) && one == two && s == w && one == ok && (laws_FnTablesOfArches.j4 3000 n x r fine s false == some true)
  | _, _, _, _ => false
theorem allA : (Ms.all fun n => Xs.all fun x => chkA n x) = true := by decide +kernel
theorem allV : (([-1, 0, 1, 2, 3, 4, 5, 6, 7, 8, 9, 10, 11] : List Int).all fun k => ([-4, -3, -2, -1, 0, 1, 2, 3, 4] : List Int).all fun z => (impl_ValueAt.f 3000 k z).isSome && (impl_ValueAt.f 3000 k z == spec_ValueAt.f 3000 k z)) = true := by decide +kernel
theorem allE : (Ms.all fun a => ([0, 1, 2, 3, 4, 5] : List Int).all fun b => (impl_ExponentOf.f 3000 a b).isSome && (impl_ExponentOf.f 3000 a b == spec_ExponentOf.f 3000 a b)) = true := by decide +kernel
theorem tableAt_ok {l : List Int} (h : Bytes l) : ∃ n x, spec_DrawTableAt.f l = some (n, x) ∧ (-1 ≤ n ∧ n ≤ 5) ∧ x ∈ Xs := by
  obtain ⟨n, x, j, s, e, hn, hx⟩ := tabled_ok h 3 (by omega)
  exact ⟨n, x, by unfold spec_DrawTableAt.f; rw [e]; rfl, hn, hx⟩
theorem product_ok {l : List Int} (h : Bytes l) : ∃ n x, spec_DrawProductDeterminant.f l = some (n, x) ∧ (-1 ≤ n ∧ n ≤ 5) ∧ x ∈ Xs := by
  obtain ⟨n, x, j, s, e, hn, hx⟩ := tabled_ok h 4 (by omega)
  exact ⟨n, x, by unfold spec_DrawProductDeterminant.f; rw [e]; rfl, hn, hx⟩
theorem v_mem {x : Int} (h : -1 ≤ x ∧ x ≤ 11) : x ∈ ([-1, 0, 1, 2, 3, 4, 5, 6, 7, 8, 9, 10, 11] : List Int) := by
  obtain rfl | rfl | rfl | rfl | rfl | rfl | rfl | rfl | rfl | rfl | rfl | rfl | rfl : x = -1 ∨ x = 0 ∨ x = 1 ∨ x = 2 ∨ x = 3 ∨ x = 4 ∨ x = 5 ∨ x = 6 ∨ x = 7 ∨ x = 8 ∨ x = 9 ∨ x = 10 ∨ x = 11 := by omega
  all_goals decide
theorem z_mem {x : Int} (h : -4 ≤ x ∧ x ≤ 4) : x ∈ ([-4, -3, -2, -1, 0, 1, 2, 3, 4] : List Int) := by
  obtain rfl | rfl | rfl | rfl | rfl | rfl | rfl | rfl | rfl : x = -4 ∨ x = -3 ∨ x = -2 ∨ x = -1 ∨ x = 0 ∨ x = 1 ∨ x = 2 ∨ x = 3 ∨ x = 4 := by omega
  all_goals decide
theorem e_mem {x : Int} (h : 0 ≤ x ∧ x ≤ 5) : x ∈ ([0, 1, 2, 3, 4, 5] : List Int) := by
  obtain rfl | rfl | rfl | rfl | rfl | rfl : x = 0 ∨ x = 1 ∨ x = 2 ∨ x = 3 ∨ x = 4 ∨ x = 5 := by omega
  all_goals decide

end Go.Proofs.Ytbphdjnainlbhaa.Pure
