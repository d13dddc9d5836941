/- The law FnFoldingsTurn, as plain lists tell it: at all bytes the law says yes. -/
import Derived.Test.YtjgkcknopnollaaPM3
import Derived.Test.YtjgkcknopnollaaHFoldingsTurn
import Derived.Test.YtjgkcknopnollaaG0
import Derived.Test.YtjgkcknopnollaaG10
import Derived.Test.YtjgkcknopnollaaG7
import Derived.Test.YtjgkcknopnollaaG8
import Derived.Test.YtjgkcknopnollaaG9
set_option linter.unusedVariables false
set_option linter.unusedSimpArgs false
namespace Go.Proofs.Ytjgkcknopnollaa.Pure
open Go.RowKit Go.Proofs.Ytjgkcknopnollaa.G Go.Proofs.YtjgkcknopnollaaW.PrintWords Go.Proofs.YtjgkcknopnollaaW.PrintLast Go.Proofs.YtjgkcknopnollaaW.PrintMore

theorem drawTurn_ans {l : List Int} (h : Bytes l) (k : Nat) (hk : 1400 ≤ k) : ∃ p y, p.length ≤ 9 ∧ -1000 ≤ y ∧ y ≤ 1000 ∧ spec_DrawTurnFolding.f k l = some (p, y) := by
  obtain ⟨v, j, s, e, hv, h1, h2⟩ := (stack_ok h 8 (by omega) (by omega) k hk 0 0 (by omega) (by omega)).ok
  obtain ⟨y, j2, s2, e2, hy, _⟩ := (among_ok h j s [0, 1, (-1), 3, 100, (-100), 101] (by show (0 : Nat) < 7; omega) (by show (7 : Nat) ≤ 100; omega) (by omega) (by omega)).ok
  refine ⟨v, y, hv, ?_, ?_, by unfold spec_DrawTurnFolding.f; rw [e, Option.bind_some, e2]; rfl⟩
  · simp only [List.mem_cons, List.not_mem_nil, or_false] at hy; omega
  · simp only [List.mem_cons, List.not_mem_nil, or_false] at hy; omega
theorem stack_of {l : List Int} (h : 1 ≤ l.length ∧ l.length ≤ 8) (hw : wordB l = true) : stackB l = true := by
  unfold stackB; rw [hw]; simp; omega
theorem less_cut (p : List Int) (i : Nat) (hi : i < p.length) (hw : wordB p = true) (h : p.getD i 0 = (p.length : Int) - 1) : p.filter (fun x => decide (x ≠ (p.length : Int) - 1)) = p.eraseIdx i := by
  have hpi : p[i] = (p.length : Int) - 1 := by rw [← h, getD_get p i hi]
  obtain ⟨_, h2⟩ := (wordB_iff p).1 hw
  have e : p = p.take i ++ p[i] :: p.drop (i + 1) := by rw [← List.drop_eq_getElem_cons hi, List.take_append_drop]
  have key : ∀ (q : List Int), (∀ x ∈ q, x ≠ (p.length : Int) - 1) → q.filter (fun x => decide (x ≠ (p.length : Int) - 1)) = q := fun q hq => List.filter_eq_self.2 fun x hx => decide_eq_true (hq x hx)
  have h3 : (p.take i).filter (fun x => decide (x ≠ (p.length : Int) - 1)) = p.take i := key _ fun x hx => by
    obtain ⟨j, hj, rfl⟩ := List.getElem_of_mem hx
    have hj' : j < i := by simpa using (by rw [List.length_take] at hj; omega : j < i)
    rw [List.getElem_take]
    have := h2 j i (by omega) hi (by omega)
    rw [getD_get p j (by omega), h] at this; exact this
  have h4 : (p.drop (i + 1)).filter (fun x => decide (x ≠ (p.length : Int) - 1)) = p.drop (i + 1) := key _ fun x hx => by
    obtain ⟨j, hj, rfl⟩ := List.getElem_of_mem hx
    rw [List.length_drop] at hj
    rw [List.getElem_drop]
    have := h2 (i + 1 + j) i (by omega) hi (by omega)
    rw [getD_get p (i + 1 + j) (by omega), h] at this; exact this
  have e5 : p.filter (fun x => decide (x ≠ (p.length : Int) - 1)) = (p.take i ++ p[i] :: p.drop (i + 1)).filter (fun x => decide (x ≠ (p.length : Int) - 1)) := congrArg _ e
  rw [e5, List.filter_append, h3, List.filter_cons, if_neg (by rw [hpi]; simp), h4, List.eraseIdx_eq_take_drop_succ]
set_option maxHeartbeats 2000000 in
theorem FnFoldingsTurn : laws_FnFoldingsTurn.Pure := by
  intro l0 l1 hl0 _ hw0 hl1 _ hw1
  obtain ⟨k, hk⟩ : ∃ k, k = l0.length + l1.length + 20000 := ⟨_, rfl⟩
  refine ⟨k, ?_⟩
  have hbig : laws_big.f l0 l1 = some (if (l0.length : Int) > 1048576 then true else decide ((l1.length : Int) > 1048576 - (l0.length : Int))) := by
    unfold laws_big.f
    by_cases hb : (l0.length : Int) > 1048576
    · rw [if_pos hb, if_pos hb]
    · rw [if_neg hb, if_neg hb, wrap_id (by omega) (by omega)]
  by_cases hb : (if (l0.length : Int) > 1048576 then true else decide ((l1.length : Int) > 1048576 - (l0.length : Int))) = true
  · rw [hb] at hbig
    exact .t_big hbig
  have hbf := Bool.eq_false_iff.mpr hb
  rw [hbf] at hbig
  have hlen : l0.length ≤ 1048576 ∧ l1.length ≤ 1048576 := by
    by_cases hc : (l0.length : Int) > 1048576
    · rw [if_pos hc] at hb; exact absurd rfl hb
    · rw [if_neg hc] at hb
      have : ¬ (l1.length : Int) > 1048576 - (l0.length : Int) := fun h => hb (decide_eq_true h)
      omega
  have hB0 : Bytes l0 := ⟨hlen.1, fun x hx => wf_u8' (hw0 x hx)⟩
  have hB1 : Bytes l1 := ⟨hlen.2, fun x hx => wf_u8' (hw1 x hx)⟩
  obtain ⟨p, y, hp9, hy1, hy2, hdt⟩ := drawTurn_ans hB0 k (by omega)
  obtain ⟨x, hx9, hdx⟩ := drawStack_ans hB1 k (by omega)
  have hdc : spec_DrawCrossedArcs.f k l1 = some x := by unfold spec_DrawCrossedArcs.f; rw [hdx]; rfl
  have hdr : spec_DrawReverseFolding.f k l1 = some x := by unfold spec_DrawReverseFolding.f; rw [hdx]; rfl
  have hda : spec_DrawAddStamp.f k l1 = some x := by unfold spec_DrawAddStamp.f; rw [hdx]; rfl
  obtain ⟨cr, hc1, hc2, hc3, hc4⟩ := crossed_ans x (by omega)
  obtain ⟨s1, i1⟩ := hc4 k (by omega)
  obtain ⟨s2, i2⟩ := rev_ans x (by omega) k (by omega)
  obtain ⟨s3, i3⟩ := num_ans x (by omega) k (by omega)
  obtain ⟨s4, i4⟩ := add_ans x (by omega) k (by omega)
  have f1 := isfold_ans x k (by omega)
  have r1 := yRows_ev cr (by omega) (fun z hz => by rw [hc2 z hz]; omega) k (by omega)
  have r2 : laws_ySame.f k (if stackB x = true then x.reverse else []) (if stackB x = true then x.reverse else []) = some true := ySame_ev _ (by split <;> simp; omega) k (by omega)
  have r3 : laws_ySame.f k (if stackB x = true then numb x else []) (if stackB x = true then numb x else []) = some true := ySame_ev _ (by split <;> simp [numb]; omega) k (by omega)
  have r4 := yRows_ev _ (add_len x).1 (add_len x).2 k (by omega)
  by_cases hok : stackB p = true ∧ (-100 ≤ y ∧ y ≤ 100)
  · obtain ⟨hsp, hyr⟩ := hok
    have hl := stackB_len hsp
    have hw := stackB_word hsp
    obtain ⟨q, hT, hq⟩ := turn_yes p y hsp hyr
    obtain ⟨sq, iq⟩ := hq k (by omega)
    have hwq := turned_isword hl hw hT
    have hsq : stackB q = true := stack_of (by rw [hT.len]; exact hl) hwq
    obtain ⟨p', hT', hp'⟩ := turn_yes q (-y) hsq (by omega)
    have hpe : p' = p := turned_back hl hT hT'
    rw [hpe] at hp'
    have hb2 := (hp' k (by omega)).2
    have hwr : wrap64 (-y) = -y := wrap_id (by omega) (by omega)
    rw [← hwr] at hb2
    have fp := isfold_ans p k (by omega)
    have fq := isfold_ans q k (by omega)
    have rp := (rev_ans p (by omega) k (by omega)).2
    have np := (num_ans p (by omega) k (by omega)).2
    have frp := isfold_ans p.reverse k (by omega)
    have fnp := isfold_ans (numb p) k (by omega)
    have hsr : stackB p.reverse = true := stack_of (by rw [List.length_reverse]; exact hl) (rev_isword hw)
    have hsn : stackB (numb p) = true := stack_of (by rw [numb_len]; exact hl) (numb_isword hw)
    have eqq := ySame_ev q (by rw [hT.len]; omega) k (by omega)
    have eqp := ySame_ev p (by omega) k (by omega)
    rw [hsp, Bool.true_and] at fp
    rw [hsq, turned_fold hl hw hT, Bool.true_and] at fq
    rw [hsr, rev_fold hl hw, Bool.true_and] at frp
    rw [hsn, numb_fold hl hw, Bool.true_and] at fnp
    rw [hsp, if_pos rfl] at rp np
    cases hf : foldB p with
    | false =>
      rw [hf] at fp fq frp fnp
      cases hsx : stackB x with
      | false =>
        rw [hsx] at s1 i1 f1 s2 i2 s3 i3 r2 r3
        exact .t_is_false ⟨p, y, q, p.reverse, numb p, x, cr, x, _, _, _, _, x, _, _, hbig, hdt, iq, sq, eqq, fp, fq, hb2, rp, frp, np, fnp, eqp, hdc, i1, s1, f1, r1, hdr, i2, s2, i3, s3, hda, i4, s4, r2, r3, r4⟩
      | true =>
        rw [hsx] at s1 i1 f1 s2 i2 s3 i3 r2 r3
        rw [hc3 hsx] at f1
        exact .t_is_true ⟨p, y, q, p.reverse, numb p, x, cr, x, _, _, _, _, x, _, _, hbig, hdt, iq, sq, eqq, fp, fq, hb2, rp, frp, np, fnp, eqp, hdc, i1, s1, f1, r1, hdr, i2, s2, i3, s3, hda, i4, s4, r2, r3, r4⟩
    | true =>
      rw [hf] at fp fq frp fnp
      by_cases h1 : p.length = 1
      · cases hsx : stackB x with
        | false =>
          rw [hsx] at s1 i1 f1 s2 i2 s3 i3 r2 r3
          exact .t_one_false ⟨p, y, q, p.reverse, numb p, x, cr, x, _, _, _, _, x, _, _, hbig, hdt, iq, sq, eqq, fp, fq, hb2, rp, frp, np, fnp, eqp, h1, hdc, i1, s1, f1, r1, hdr, i2, s2, i3, s3, hda, i4, s4, r2, r3, r4⟩
        | true =>
          rw [hsx] at s1 i1 f1 s2 i2 s3 i3 r2 r3
          rw [hc3 hsx] at f1
          exact .t_one_true ⟨p, y, q, p.reverse, numb p, x, cr, x, _, _, _, _, x, _, _, hbig, hdt, iq, sq, eqq, fp, fq, hb2, rp, frp, np, fnp, eqp, h1, hdc, i1, s1, f1, r1, hdr, i2, s2, i3, s3, hda, i4, s4, r2, r3, r4⟩
      · -- the last stamp taken out
        obtain ⟨i, hi, hpi⟩ := word_all p (by omega) hw (p.length - 1) (by omega)
        have hpi' : p.getD i 0 = (p.length : Int) - 1 := by rw [hpi]; omega
        have hless := less_cut p i hi hw hpi'
        have hll := cut_len p i hi
        have hwl := cut_isword i hi hpi' hw
        have hfl := cut_fold i (by omega) hi hpi' hw hf
        have hsl : stackB (p.eraseIdx i) = true := stack_of (by omega) hwl
        have fl := isfold_ans (p.eraseIdx i) k (by omega)
        rw [hsl, hfl] at fl
        have hab : addB (p.eraseIdx i) = true := by
          unfold addB; rw [hsl, hfl]
          have : decide ((p.eraseIdx i).length ≠ 8) = true := decide_eq_true (by omega)
          rw [this]; rfl
        have al := (add_ans (p.eraseIdx i) (by omega) k (by omega)).2
        have alen := add_len (p.eraseIdx i)
        rw [hab, if_pos rfl] at al
        rw [hab, if_pos rfl] at alen
        have hmem : p ∈ SortL.sortL (cand (p.eraseIdx i) ((p.eraseIdx i).length + 1) 0) := by
          rw [sort_mem]
          have := cand_has (p.eraseIdx i) ((p.eraseIdx i).length + 1) 0 i (by omega) (by omega) (by rw [ins_cut p i hi hpi']; exact hf)
          rw [ins_cut p i hi hpi'] at this; exact this
        generalize SortL.sortL (cand (p.eraseIdx i) ((p.eraseIdx i).length + 1) 0) = add at al alen hmem
        obtain ⟨a, ha, hae⟩ := List.getElem_of_mem hmem
        have hsame : ∀ j : Nat, j < add.length → laws_ySame.f k (rd_L1 add (j : Int)) p = some (decide (rd_L1 add (j : Int) = p)) := fun j hj => by
          rw [rdL1_at hj]; exact ySame_ans _ p (alen.2 _ (List.getElem_mem hj)) k (by omega)
        have hat : a < add.length ∧ decide (rd_L1 add (a : Int) = p) = true ∧ add.length ≤ 1000 := ⟨ha, by rw [rdL1_at ha, hae]; exact decide_eq_true rfl, alen.1⟩
        have h1' : 1 < p.length := by omega
        cases hsx : stackB x with
        | false =>
          rw [hsx] at s1 i1 f1 s2 i2 s3 i3 r2 r3
          exact .t_all_false ⟨p, y, q, p.reverse, numb p, p.eraseIdx i, add, a, fun j => decide (rd_L1 add (j : Int) = p), x, cr, x, _, _, _, _, x, _, _, hbig, hdt, iq, sq, eqq, fp, fq, hb2, rp, frp, np, fnp, eqp, h1', hless.symm, by omega, fl, al, hsame, hat, hdc, i1, s1, f1, r1, hdr, i2, s2, i3, s3, hda, i4, s4, r2, r3, r4⟩
        | true =>
          rw [hsx] at s1 i1 f1 s2 i2 s3 i3 r2 r3
          rw [hc3 hsx] at f1
          exact .t_all_true ⟨p, y, q, p.reverse, numb p, p.eraseIdx i, add, a, fun j => decide (rd_L1 add (j : Int) = p), x, cr, x, _, _, _, _, x, _, _, hbig, hdt, iq, sq, eqq, fp, fq, hb2, rp, frp, np, fnp, eqp, h1', hless.symm, by omega, fl, al, hsame, hat, hdc, i1, s1, f1, r1, hdr, i2, s2, i3, s3, hda, i4, s4, r2, r3, r4⟩
  · have hno : stackB p = false ∨ ¬ (-100 ≤ y ∧ y ≤ 100) := by
      cases hs : stackB p with
      | false => exact .inl rfl
      | true => exact .inr fun h => hok ⟨hs, h⟩
    obtain ⟨sq, iq⟩ := turn_no p (by omega) y hno k (by omega)
    have eqq := ySame_ev [] (by simp) k (by omega)
    cases hsx : stackB x with
    | false =>
      rw [hsx] at s1 i1 f1 s2 i2 s3 i3 r2 r3
      exact .t_no_false ⟨p, y, [], x, cr, x, _, _, _, _, x, _, _, hbig, hdt, iq, sq, eqq, hdc, i1, s1, f1, r1, hdr, i2, s2, i3, s3, hda, i4, s4, r2, r3, r4⟩
    | true =>
      rw [hsx] at s1 i1 f1 s2 i2 s3 i3 r2 r3
      rw [hc3 hsx] at f1
      exact .t_no_true ⟨p, y, [], x, cr, x, _, _, _, _, x, _, _, hbig, hdt, iq, sq, eqq, hdc, i1, s1, f1, r1, hdr, i2, s2, i3, s3, hda, i4, s4, r2, r3, r4⟩

end Go.Proofs.Ytjgkcknopnollaa.Pure
