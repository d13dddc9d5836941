/- The reference's drawn stacks: the draw has an answer, a short row. -/
import Derived.Test.YtjgkcknopnollaaGreatPCur
import Derived.Test.YtjgkcknopnollaaGreatPAddS
import Derived.Test.YtjgkcknopnollaaGreatQA2
set_option linter.unusedVariables false
set_option linter.unusedSimpArgs false
namespace Go.Proofs.YtjgkcknopnollaaGreat.Pure
open Go.RowKit Go.Proofs.YtjgkcknopnollaaGreat.D Go.Proofs.YtjgkcknopnollaaGreatW.PrintWords Go.Proofs.YtjgkcknopnollaaGreatW.PrintLast Go.Proofs.YtjgkcknopnollaaGreatW.PrintMore

theorem among_ok {l : List Int} (h : Bytes l) (i s : Int) (L : List Int) (hL : 0 < L.length) (hL2 : L.length ≤ 100) (h0 : 0 ≤ i) (h1 : i ≤ 1000000000) : Drew (spec_l1Cur_among.f l i s L) i 1 (fun v => v ∈ L) := by
  unfold spec_l1Cur_among.f
  refine Drew.bind (m := 1) (m' := 0) (pick_ok h i s (L.length : Int) h0 h1 (by omega)) (fun v j t hv a b => ?_) (by omega)
  have h2 : v < (L.length : Int) := by omega
  refine Drew.ite (fun _ => Drew.ite (fun _ => ?_) (fun n => absurd h2 n)) (fun n => absurd hv.1 n)
  refine Drew.done _ _ rfl ?_ (by omega)
  obtain ⟨n, hn⟩ : ∃ n : Nat, v = (n : Int) := ⟨v.toNat, by omega⟩
  show rd L v ∈ L
  rw [hn, rd_get (by omega)]
  exact List.getElem_mem _
theorem own_val' (l : List Int) (h : l.length ≤ 1000) : spec_l1Own.f l = some l := by
  unfold spec_l1Own.f
  rw [Option.bind_some, if_pos (by simp; omega)]; rfl
theorem rdL2_at {L : List (List Int)} {i : Nat} (h : i < L.length) : rd_L2 L (i : Int) = L[i] := by
  unfold rd_L2; simp [h]
theorem sort_mem (L : List (List Int)) (x : List Int) : x ∈ SortL.sortL L ↔ x ∈ L := by
  rw [← insAll_sort]
  have := insAll_perm L []
  rw [List.nil_append] at this
  exact this.mem_iff
theorem sort_len (L : List (List Int)) : (SortL.sortL L).length = L.length := by
  rw [← insAll_sort]
  have := insAll_perm L []
  rw [List.nil_append] at this
  exact this.length_eq
/-- how a stack is ended -/
theorem stack_fin {l : List Int} (h : Bytes l) (n : Int) (p : List Int) (hp : 1 ≤ p.length) (hp2 : p.length ≤ 9) (hn : ¬ (p.length : Int) < n) (k : Nat) (j s : Int) (hj : 0 ≤ j) (hj2 : j ≤ 1000000) :
    Drew (spec_l1Cur_stack.l0 (k + 1) n p l j s) j 10 (fun q => q.length ≤ 9) := by
  rw [spec_l1Cur_stack.l0, if_neg hn, own_val' p (by omega), Option.bind_some]
  refine Drew.bind (m := 1) (m' := 5) (pick_ok h j s 14 hj (by omega) (by omega)) (fun v1 j1 s1 hv1 a1 b1 => ?_) (by omega)
  refine Drew.ite (fun _ => ?_) (fun _ => Drew.ite (fun _ => ?_) (fun _ => Drew.ite (fun _ => ?_) (fun _ => ?_)))
  · refine Drew.bind (m := 1) (m' := 3) (pick_ok h j1 s1 (p.length : Int) (by omega) (by omega) (by omega)) (fun v2 j2 s2 hv2 a2 b2 => ?_) (by omega)
    refine Drew.bind (m := 1) (m' := 2) (among_ok h j2 s2 [(-1), 0, (p.length : Int), 4611686018427387904] (by show (0 : Nat) < 4; omega) (by show (4 : Nat) ≤ 100; omega) (by omega) (by omega)) (fun v3 j3 s3 hv3 a3 b3 => ?_) (by omega)
    have h1 : 0 ≤ v2 := hv2.1
    have h2 : v2 < (p.length : Int) := by omega
    refine Drew.ite (fun _ => Drew.ite (fun _ => ?_) (fun n => absurd h2 n)) (fun n => absurd h1 n)
    exact Drew.done _ _ rfl (by show (p.set _ _).length ≤ 9; rw [List.length_set]; omega) (by omega)
  · exact Drew.done _ _ rfl (by show ([] : List Int).length ≤ 9; decide) (by omega)
  · exact Drew.done _ _ rfl (by show ([8, 7, 6, 5, 4, 3, 2, 1, 0] : List Int).length ≤ 9; decide) (by omega)
  · exact Drew.done _ _ rfl hp2 (by omega)
theorem Drew.le {β : Type} {o : Option (β × Int × Int)} {i m M : Int} {R : β → Prop} (h : Drew o i m R) (hm : m ≤ M) : Drew o i M R := by
  obtain ⟨v, j, s, e, hv, h1, h2⟩ := h.ok
  exact ⟨v, j, s, e, hv, h1, by omega⟩
theorem stack_l0 {l : List Int} (h : Bytes l) (n : Int) (hn : n ≤ 8) (d : Nat) : ∀ (k : Nat) (p : List Int) (j s : Int), wordB p = true → 1 ≤ p.length → p.length ≤ 8 → n ≤ (p.length : Int) + d → 1300 + 2 * d ≤ k → 0 ≤ j → j + 4 * d ≤ 100000 →
    Drew (spec_l1Cur_stack.l0 k n p l j s) j (10 + 4 * d) (fun q => q.length ≤ 9) := by
  induction d with
  | zero =>
    intro k p j s hw hp hp2 hd hk hj hj2
    obtain ⟨k, rfl⟩ : ∃ m, k = m + 1 := ⟨k - 1, by omega⟩
    exact stack_fin h n p hp (by omega) (by omega) k j s hj (by omega)
  | succ d ih =>
    intro k p j s hw hp hp2 hd hk hj hj2
    obtain ⟨k, rfl⟩ : ∃ m, k = m + 1 := ⟨k - 1, by omega⟩
    by_cases c : (p.length : Int) < n
    · have hw1 : wrap64 ((p.length : Int) + 1) = (p.length : Int) + 1 := wrap_id (by omega) (by omega)
      have step : ∀ (i : Nat) (k' : Nat) (j' s' : Int), 1300 + 2 * d ≤ k' → j ≤ j' → j' ≤ j + 4 → Drew (spec_l1Cur_stack.l0 k' n (ins p i) l j' s') j' (10 + 4 * d) (fun q => q.length ≤ 9) :=
        fun i k' j' s' h1 h2 h3 => ih k' (ins p i) j' s' (ins_word p hw i) (by rw [ins_len]; omega) (by rw [ins_len]; omega) (by rw [ins_len]; omega) h1 (by omega) (by omega)
      rw [spec_l1Cur_stack.l0, if_pos c, hw1]
      refine Drew.bind (m := 1) (m' := 13 + 4 * d) (pick_ok h j s ((p.length : Int) + 1) hj (by omega) (by omega)) (fun v1 j1 s1 hv1 a1 b1 => ?_) (by omega)
      have ea := (added_ev p ⟨hp, by omega⟩ hw k (by omega)).1
      have tail : ∀ (b : Bool) (k' : Nat) (j2 s2 : Int), 1300 + 2 * d ≤ k' → (b = true → 0 < (SortL.sortL (cand p (p.length + 1) 0)).length) → j1 ≤ j2 → j2 ≤ j1 + 1 → Drew (spec_l1Cur_stack.j1 (k' + 1) n p v1 (SortL.sortL (cand p (p.length + 1) 0)) b l j2 s2) j2 (11 + 4 * d) (fun q => q.length ≤ 9) := by
        intro b k' j2 s2 hk' hb g1 g2
        have hlen : (SortL.sortL (cand p (p.length + 1) 0)).length ≤ 9 := by rw [sort_len]; have := cand_len p (p.length + 1) 0; omega
        rw [spec_l1Cur_stack.j1]
        refine Drew.ite (fun hbt => ?_) (fun _ => ?_)
        · have hpos := hb hbt
          refine Drew.bind (m := 1) (m' := 10 + 4 * d) (pick_ok h j2 s2 ((SortL.sortL (cand p (p.length + 1) 0)).length : Int) (by omega) (by omega) (by omega)) (fun v3 j3 s3 hv3 a3 b3 => ?_) (by omega)
          have h1 : 0 ≤ v3 := hv3.1
          have h2 : v3 < ((SortL.sortL (cand p (p.length + 1) 0)).length : Int) := by omega
          refine Drew.ite (fun _ => Drew.ite (fun _ => ?_) (fun n => absurd h2 n)) (fun n => absurd h1 n)
          obtain ⟨m, hm⟩ : ∃ m : Nat, v3 = (m : Int) := ⟨v3.toNat, by omega⟩
          have hmem := (sort_mem _ _).1 (List.getElem_mem (l := SortL.sortL (cand p (p.length + 1) 0)) (n := m) (by omega))
          obtain ⟨i, hi⟩ := cand_mem p _ 0 _ hmem
          show Drew (spec_l1Cur_stack.l0 k' n (rd_L2 (SortL.sortL (cand p (p.length + 1) 0)) v3) l j3 s3) j3 (10 + 4 * d) _
          rw [hm, rdL2_at (by omega), hi]
          exact step i k' j3 s3 hk' (by omega) (by omega)
        · have h1 : 0 ≤ v1 := hv1.1
          have h2 : v1 ≤ (p.length : Int) := by omega
          rw [if_pos h1, if_pos h2, own_val' _ (by simp; omega)]
          simp only [Option.bind_some]
          rw [if_pos (by simp; omega), if_pos (by simp; omega)]
          exact (step v1.toNat k' j2 s2 hk' (by omega) (by omega)).le (by omega)
      obtain ⟨k, rfl⟩ : ∃ m, k = m + 1 := ⟨k - 1, by omega⟩
      show Drew ((spec_spAdded.f (k + 1) p).bind _) j1 (13 + 4 * d) _
      rw [ea, Option.bind_some]
      refine Drew.ite (fun hpos => ?_) (fun _ => ?_)
      · have hpos' : ((SortL.sortL (cand p (p.length + 1) 0)).length : Int) > 0 := hpos
        refine Drew.bind (m := 1) (m' := 11 + 4 * d) (one_ok h j1 s1 8 (by omega) (by omega) (by omega)) (fun b j2 s2 _ a2 b2 => ?_) (by omega)
        exact tail (!b) k j2 s2 (by omega) (fun _ => by omega) a2 b2
      · exact (tail false k j1 s1 (by omega) (fun e => by cases e) (by omega) (by omega)).le (by omega)
    · exact (stack_fin h n p hp (by omega) c k j s hj (by omega)).le (by omega)
theorem stack_ok {l : List Int} (h : Bytes l) (most : Int) (hm : 1 ≤ most) (hm2 : most ≤ 8) (k : Nat) (hk : 1400 ≤ k) (j s : Int) (hj : 0 ≤ j) (hj2 : j ≤ 1000) : Drew (spec_l1Cur_stack.f k l j s most) j 100 (fun q => q.length ≤ 9) := by
  unfold spec_l1Cur_stack.f
  refine Drew.bind (m := 1) (m' := 90) (pick_ok h j s most hj (by omega) (by omega)) (fun v1 j1 s1 hv1 a1 b1 => ?_) (by omega)
  have h0 : 0 ≤ v1 := hv1.1
  have hw : wrap64 (1 + v1) = 1 + v1 := wrap_id (by omega) (by omega)
  show Drew (spec_l1Cur_stack.l0 k (wrap64 (1 + v1)) [0] l j1 s1) j1 90 _
  rw [hw]
  exact (stack_l0 h (1 + v1) (by omega) 10 k [0] j1 s1 (by decide) (by decide) (by decide) (by simp; omega) (by omega) (by omega) (by omega)).le (by omega)

end Go.Proofs.YtjgkcknopnollaaGreat.Pure
