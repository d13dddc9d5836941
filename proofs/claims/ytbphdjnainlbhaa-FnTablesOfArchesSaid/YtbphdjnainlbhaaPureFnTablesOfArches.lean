/- The law FnTablesOfArches, as plain lists tell it: at all bytes the law says yes. -/
import Derived.Test.YtbphdjnainlbhaaPTabs
import Derived.Test.YtbphdjnainlbhaaTAL
import Derived.Test.YtbphdjnainlbhaaQB2
set_option linter.unusedVariables false
set_option linter.unusedSimpArgs false
namespace Go.Proofs.Ytbphdjnainlbhaa.Pure
open Go.RowKit Go.Proofs.Ytbphdjnainlbhaa.R Go.Proofs.YtbphdjnainlbhaaW.PrintWords Go.Proofs.YtbphdjnainlbhaaW.PrintLast Go.Proofs.YtbphdjnainlbhaaW.PrintMore

theorem upm {α : Type} {g : Nat → Option α} (hm : ∀ k, LeO (g k) (g (k + 1))) {r : α} {k : Nat} (h : g k = some r) : ∀ d, g (k + d) = some r
  | 0 => h
  | d + 1 => hm _ r (upm hm h d)
theorem upK {α : Type} {g : Nat → Option α} {r : α} (hm : ∀ k, LeO (g k) (g (k + 1))) (h : g 3000 = some r) {k : Nat} (hk : 3000 ≤ k) : g k = some r := by
  obtain ⟨d, rfl⟩ : ∃ d, k = 3000 + d := ⟨k - 3000, by omega⟩
  exact upm hm h d
theorem j3_ok {l : List Int} (hl : Bytes l) (n x : Int) (R : List (List Int)) (fine : Bool) (sum : Int) (h4 : laws_FnTablesOfArches.j4 3000 n x R fine sum false = some true) (k : Nat) (hk : 3001 ≤ k) :
    laws_FnTablesOfArches.j3 k l n x R fine sum = some true := by
  obtain ⟨k, rfl⟩ : ∃ q, k = q + 1 := ⟨k - 1, by omega⟩
  obtain ⟨v, z, e1, hv, hz⟩ := valueAt_ok hl
  obtain ⟨a, b, e2, ha, hb⟩ := exponentOf_ok hl
  have hV := List.all_eq_true.1 (List.all_eq_true.1 allV v (v_mem hv)) z (z_mem hz)
  have hE := List.all_eq_true.1 (List.all_eq_true.1 allE a (ms_mem ha)) b (e_mem hb)
  rw [Bool.and_eq_true, beq_iff_eq] at hV hE
  obtain ⟨⟨p, pb⟩, hp⟩ := Option.isSome_iff_exists.1 hV.1
  obtain ⟨⟨q, qb⟩, hq⟩ := Option.isSome_iff_exists.1 hE.1
  have hp2 := hV.2.symm.trans hp
  have hq2 := hE.2.symm.trans hq
  have f1 := upK (g := fun k => impl_ValueAt.f k v z) (fun k => impl_ValueAt.mono _ _ k) hp (k := k) (by omega)
  have f2 := upK (g := fun k => spec_ValueAt.f k v z) (fun k => spec_ValueAt.mono _ _ k) hp2 (k := k) (by omega)
  have f3 := upK (g := fun k => impl_ExponentOf.f k a b) (fun k => impl_ExponentOf.mono _ _ k) hq (k := k) (by omega)
  have f4 := upK (g := fun k => spec_ExponentOf.f k a b) (fun k => spec_ExponentOf.mono _ _ k) hq2 (k := k) (by omega)
  have f5 := upK (g := fun k => laws_FnTablesOfArches.j4 k n x R fine sum false) (fun k => (laws_FnTablesOfArches.mono_l k).2.2.2.1 _ _ _ _ _ _) h4 (k := k) (by omega)
  simp only [laws_FnTablesOfArches.j3]
  rw [e1, Option.bind_some]
  simp only
  rw [f1, Option.bind_some, f2, Option.bind_some, e2, Option.bind_some]
  simp only
  rw [f3, Option.bind_some, f4, Option.bind_some]
  simp only [bne_self_eq_false, Bool.false_eq_true, if_false, if_true]
  exact f5
/-- the law's own product, round by round -/
theorem l0_ok {l : List Int} (hl : Bytes l) (n x : Int) (R : List (List Int)) (fine : Bool) (sum : Int) (h4 : laws_FnTablesOfArches.j4 3000 n x R fine sum false = some true)
    (m y p d r : Int) (T : List (List Int)) (hm : 1 ≤ m ∧ m ≤ 4) (hd : d = p) (hr : ((r == (T.length : Int)) == (d != 0)) = true) (h1 : (!(y == 1 || y == -1) || r == 1 || m != 1) = true) (c : Nat) :
    ∀ (i own : Int), i + c = m + 1 → 1 ≤ i → runB m y c i own = some p → ∀ k, 3002 + c ≤ k → laws_FnTablesOfArches.l0 k l n x R fine sum m y p T true d true r true own i = some true := by
  induction c with
  | zero =>
    intro i own hi _ hr0 k hk
    obtain ⟨k, rfl⟩ : ∃ q, k = q + 1 := ⟨k - 1, by omega⟩
    have hown : own = p := Option.some.inj hr0
    have hj := j3_ok hl n x R fine sum h4 k (by omega)
    simp only [laws_FnTablesOfArches.l0]
    rw [if_neg (by omega), if_pos trivial, if_pos trivial, if_pos trivial, if_pos hd, if_pos hown]
    have hne : ((r == (T.length : Int)) != (d != 0)) = false := by rw [bne, hr]; rfl
    rw [hne, if_neg (by simp)]
    have h3 : r = 1 ∨ m ≠ 1 ∨ (y ≠ 1 ∧ y ≠ -1) := by
      rcases Classical.em (r = 1) with a | a
      · exact .inl a
      rcases Classical.em (m = 1) with b | b
      · refine .inr (.inr ?_)
        have e1 : (r == 1) = false := by simpa using a
        have e2 : (m != 1) = false := by simpa using b
        rw [e1, e2] at h1
        simpa using h1
      · exact .inr (.inl b)
    by_cases y1 : y = 1
    · rw [if_pos y1]
      by_cases r1 : r = 1
      · rw [if_pos r1]; exact hj
      · rw [if_neg r1, if_neg (by omega)]; exact hj
    · rw [if_neg y1]
      by_cases y2 : y = -1
      · rw [if_pos y2]
        by_cases r1 : r = 1
        · rw [if_pos r1]; exact hj
        · rw [if_neg r1, if_neg (by omega)]; exact hj
      · rw [if_neg y2]; exact hj
  | succ c ih =>
    intro i own hi h0 hr0 k hk
    obtain ⟨k, rfl⟩ : ∃ q, k = q + 1 := ⟨k - 1, by omega⟩
    unfold runB at hr0
    obtain ⟨⟨v, vb⟩, ev, hr0⟩ := Option.bind_eq_some_iff.1 hr0
    obtain ⟨⟨e, eb⟩, ee, hr0⟩ := Option.bind_eq_some_iff.1 hr0
    simp only at hr0
    cases vb with
    | false => exact absurd hr0 (by simp)
    | true =>
      cases eb with
      | false => exact absurd hr0 (by simp)
      | true =>
        rw [if_pos rfl, if_pos rfl] at hr0
        by_cases he : e < 0
        · rw [if_pos he] at hr0; exact absurd hr0 (by simp)
        · rw [if_neg he] at hr0
          obtain ⟨pw, ep, hr0⟩ := Option.bind_eq_some_iff.1 hr0
          have f1 := upK (g := fun k => impl_ValueAt.f k i y) (fun k => impl_ValueAt.mono _ _ k) ev (k := k) (by omega)
          have f2 := upK (g := fun k => impl_ExponentOf.f k m i) (fun k => impl_ExponentOf.mono _ _ k) ee (k := k) (by omega)
          have f3 := upK (g := fun k => laws_sPower.f k v e) (fun k => laws_sPower.mono _ _ k) ep (k := k) (by omega)
          have := ih (i + 1) (wrap64 (own * pw)) (by omega) (by omega) hr0 k (by omega)
          simp only [laws_FnTablesOfArches.l0]
          rw [if_pos (by omega), f1, Option.bind_some, f2, Option.bind_some]
          simp only
          rw [if_pos trivial, if_pos trivial, if_neg he, f3, Option.bind_some, wrap_id (x := i + 1) (by omega) (by omega)]
          exact this
theorem j0_ok {l : List Int} (hl : Bytes l) (n x : Int) (R : List (List Int)) (fine : Bool) (sum : Int) (h4 : laws_FnTablesOfArches.j4 3000 n x R fine sum false = some true) (k : Nat) (hk : 4000 ≤ k) :
    laws_FnTablesOfArches.j0 k l n x R fine sum false = some true := by
  obtain ⟨k, rfl⟩ : ∃ q, k = q + 2 := ⟨k - 2, by omega⟩
  obtain ⟨m, y, e, hm, hy⟩ := product_ok hl
  have hB := List.all_eq_true.1 (List.all_eq_true.1 allB m (ms_mem hm)) y hy
  unfold chkB at hB
  cases h1 : impl_ProductDeterminant.f 3000 m y with
  | none => rw [h1] at hB; exact absurd hB (by simp)
  | some pt =>
    obtain ⟨p, t⟩ := pt
    cases h2 : spec_ProductDeterminant.f 3000 m y with
    | none => rw [h1, h2] at hB; exact absurd hB (by simp)
    | some qt =>
      obtain ⟨q, t'⟩ := qt
      rw [h1, h2] at hB
      simp only [Bool.and_eq_true, beq_iff_eq] at hB
      obtain ⟨⟨ht, hp⟩, hB⟩ := hB
      subst ht hp
      have f1 := upK (g := fun k => impl_ProductDeterminant.f k m y) (fun k => impl_ProductDeterminant.mono _ _ k) h1 (k := k + 1) (by omega)
      have f2 := upK (g := fun k => spec_ProductDeterminant.f k m y) (fun k => spec_ProductDeterminant.mono _ _ k) h2 (k := k + 1) (by omega)
      simp only [laws_FnTablesOfArches.j0]
      rw [if_neg (by simp), e, Option.bind_some]
      simp only
      rw [f1, Option.bind_some, f2, Option.bind_some]
      simp only [bne_self_eq_false, Bool.false_eq_true, if_false]
      simp only [laws_FnTablesOfArches.j1]
      rw [if_neg (by simp)]
      cases t with
      | false =>
        rw [if_neg (by simp)]
        exact j3_ok hl n x R fine sum h4 k (by omega)
      | true =>
        rw [if_pos rfl]
        simp only [Bool.not_true, Bool.false_or, Bool.and_eq_true, beq_iff_eq, decide_eq_true_eq] at hB
        obtain ⟨⟨⟨m1, m2⟩, hrun⟩, hB⟩ := hB
        cases h3 : impl_TableAt.f 3000 m y with
        | none => rw [h3] at hB; exact absurd hB (by simp)
        | some tt =>
          obtain ⟨T, th⟩ := tt
          rw [h3] at hB
          simp only [Bool.and_eq_true] at hB
          obtain ⟨hth, hB⟩ := hB
          cases h5 : impl_DeterminantOf.f 3000 T with
          | none => rw [h5] at hB; exact absurd hB (by simp)
          | some df =>
            obtain ⟨d, f⟩ := df
            cases h6 : impl_RankOf.f 3000 T with
            | none => rw [h5, h6] at hB; exact absurd hB (by simp)
            | some rg =>
              obtain ⟨r, g⟩ := rg
              rw [h5, h6] at hB
              simp only [Bool.and_eq_true] at hB
              obtain ⟨⟨⟨⟨hf, hd⟩, hg⟩, hr⟩, hy1⟩ := hB
              subst hth hf hg
              have f3 := upK (g := fun k => impl_TableAt.f k m y) (fun k => impl_TableAt.mono _ _ k) h3 (k := k) (by omega)
              have f5 := upK (g := fun k => impl_DeterminantOf.f k T) (fun k => impl_DeterminantOf.mono _ k) h5 (k := k) (by omega)
              have f6 := upK (g := fun k => impl_RankOf.f k T) (fun k => impl_RankOf.mono _ k) h6 (k := k) (by omega)
              rw [f3, Option.bind_some]
              simp only
              rw [f5, Option.bind_some, f6, Option.bind_some]
              simp only
              exact l0_ok hl n x R fine sum h4 m y p d r T ⟨m1, m2⟩ (eq_of_beq hd) hr hy1 m.toNat 1 1 (by omega) (by omega) hrun k (by omega)
theorem FnTablesOfArches : laws_FnTablesOfArches.Pure := by
  intro l0 l1 hl0 _ hw0 hl1 _ hw1
  have hbig : laws_big.f l0 l1 = some (if (l0.length : Int) > 1048576 then true else decide ((l1.length : Int) > 1048576 - (l0.length : Int))) := by
    unfold laws_big.f
    by_cases hb : (l0.length : Int) > 1048576
    · rw [if_pos hb, if_pos hb]
    · rw [if_neg hb, if_neg hb, wrap_id (by omega) (by omega)]
  by_cases hb : (if (l0.length : Int) > 1048576 then true else decide ((l1.length : Int) > 1048576 - (l0.length : Int))) = true
  · rw [hb] at hbig
    refine ⟨0, ?_⟩
    unfold laws_FnTablesOfArches.f
    rw [hbig, Option.bind_some, if_pos rfl]
  have hbf := Bool.eq_false_iff.mpr hb
  rw [hbf] at hbig
  have hlen : l0.length ≤ 1048576 ∧ l1.length ≤ 1048576 := by
    by_cases hc : (l0.length : Int) > 1048576
    · rw [if_pos hc] at hb; exact absurd rfl hb
    · rw [if_neg hc] at hb
      have : ¬ (l1.length : Int) > 1048576 - (l0.length : Int) := fun h => hb (decide_eq_true h)
      omega
  have hB0 : Bytes l0 := ⟨hlen.1, fun x hx => wf_u8' (hw0 x hx)⟩
  have hB1 : Bytes l1 := ⟨hlen.2, fun x hx => wf_u8' (hw1 x hx)⟩
  obtain ⟨n, x, e, hn, hx⟩ := tableAt_ok hB0
  have hA := List.all_eq_true.1 (List.all_eq_true.1 allA n (ms_mem hn)) x hx
  unfold chkA at hA
  cases h1 : impl_TableAt.f 3000 n x with
  | none => rw [h1] at hA; exact absurd hA (by simp)
  | some a =>
    cases h2 : spec_TableAt.f 3000 n x with
    | none => rw [h1, h2] at hA; exact absurd hA (by simp)
    | some b =>
      cases h3 : impl_SumOfTable.f 3000 n x with
      | none => rw [h1, h2, h3] at hA; exact absurd hA (by simp)
      | some c =>
        cases h4 : spec_SumOfTable.f 3000 n x with
        | none => rw [h1, h2, h3, h4] at hA; exact absurd hA (by simp)
        | some d =>
          obtain ⟨r, ok⟩ := a
          obtain ⟨q, fine⟩ := b
          obtain ⟨s, one⟩ := c
          obtain ⟨t, two⟩ := d
          rw [h1, h2, h3, h4] at hA
          simp only [Bool.and_eq_true, beq_iff_eq] at hA
          obtain ⟨⟨⟨⟨⟨ha, hs⟩, hone⟩, hst⟩, hoo⟩, hj⟩ := hA
          subst ha hone hst hoo
          have f1 := upK (g := fun k => impl_TableAt.f k n x) (fun k => impl_TableAt.mono _ _ k) h1 (k := 4000) (by omega)
          have f2 := upK (g := fun k => spec_TableAt.f k n x) (fun k => spec_TableAt.mono _ _ k) h2 (k := 4000) (by omega)
          have f3 := upK (g := fun k => impl_SumOfTable.f k n x) (fun k => impl_SumOfTable.mono _ _ k) h3 (k := 4000) (by omega)
          have f4 := upK (g := fun k => spec_SumOfTable.f k n x) (fun k => spec_SumOfTable.mono _ _ k) h4 (k := 4000) (by omega)
          have f5 := upK (g := fun k => laws_sSameRows.f k r q) (fun k => laws_sSameRows.mono _ _ k) hs (k := 4000) (by omega)
          refine ⟨4000, ?_⟩
          unfold laws_FnTablesOfArches.f
          rw [hbig, Option.bind_some, if_neg (by simp), e, Option.bind_some]
          simp only
          rw [f1, Option.bind_some, f2, Option.bind_some, f3, Option.bind_some, f4, Option.bind_some]
          simp only [bne_self_eq_false, Bool.false_eq_true, if_false]
          rw [f5, Option.bind_some]
          simp only [if_true]
          exact j0_ok hB1 n x r _ s hj 4000 (by omega)

end Go.Proofs.Ytbphdjnainlbhaa.Pure
