/- The law FnExactCountByWinding, as plain lists tell it: at every pair of slices of whole numbers the program's CountByWinding answers what the reference's does. No condition but the law's own guard. -/
import Derived.Test.YtoblagangofflaaPWind
import Derived.Test.YtoblagangofflaaW0
import Derived.Test.YtoblagangofflaaW6
import Derived.Test.YtoblagangofflaaW7
set_option linter.unusedVariables false
set_option linter.unusedSimpArgs false
namespace Go.Proofs.Ytoblagangofflaa.Pure
open Go.RowKit Go.Proofs.Ytoblagangofflaa.W Go.Proofs.YtoblagangofflaaW.PrintWords Go.Proofs.YtoblagangofflaaW.PrintLast Go.Proofs.YtoblagangofflaaW.PrintMore

/-- one step's share of the counts -/
def cstep (p : Int × Int) (e : S26 × UInt8) : Int × Int := if e.2 = 67 then (wrap64 (p.1 + Int.tmod (rd e.1.f0 0) 2), wrap64 (p.2 + wrap64 (Int.tdiv (rd e.1.f0 0) 2))) else p
theorem count_l0 (d : Nat) : ∀ (t b : List Int) (p : Int × Int) (k : Nat), Inv t b → meas t b < d → d ≤ k →
    spec_CountByWinding.l0 k p.1 p.2 t b = some (((tr d t b).foldl cstep p).1, ((tr d t b).foldl cstep p).2, true) := by
  induction d with
  | zero => intro t b p k _ h; omega
  | succ d ih =>
    intro t b p k hI hm hk
    obtain ⟨k, rfl⟩ : ∃ m, k = m + 1 := ⟨k - 1, by omega⟩
    rcases inv_shape t b hI with ⟨rfl, rfl⟩ | ⟨a, t', c, u, rfl, rfl⟩
    · rw [spec_CountByWinding.l0, if_neg (by simp)]; rfl
    · rw [spec_CountByWinding.l0, if_pos (by simp), (step_ev a t' c u hI 0).1, Option.bind_some, toList_one]
      obtain ⟨h1, h2⟩ := inv_next a t' c u hI
      have e : (tr (d + 1) (a :: t') (c :: u)).foldl cstep p = (tr d (nx a t' c u).1 (nx a t' c u).2).foldl cstep (cstep p (⟨a :: t', c :: u⟩, wl a c)) := rfl
      rw [e]
      by_cases hc : wl a c = 67
      · rw [if_pos (by rw [hc]), if_pos (by simp)]
        have := ih _ _ (cstep p (⟨a :: t', c :: u⟩, wl a c)) k h1 (by omega) (by omega)
        unfold cstep at this ⊢
        rw [if_pos hc] at this ⊢
        exact this
      · rw [if_neg (by simpa using hc)]
        have := ih _ _ (cstep p (⟨a :: t', c :: u⟩, wl a c)) k h1 (by omega) (by omega)
        unfold cstep at this ⊢
        rw [if_neg hc] at this ⊢
        exact this
theorem tr_parts (d : Nat) : ∀ (t b : List Int), ∀ e ∈ tr d t b, 0 < e.1.f0.length := by
  induction d with
  | zero => intro t b e he; simp [tr] at he
  | succ d ih =>
    intro t b e he
    cases t with
    | nil => simp [tr] at he
    | cons a t =>
      cases b with
      | nil => simp [tr] at he
      | cons c u =>
        simp only [tr, List.mem_cons] at he
        rcases he with rfl | he
        · simp
        · exact ih _ _ e he
theorem tr_len (d : Nat) : ∀ (t b : List Int), (tr d t b).length ≤ d := by
  induction d with
  | zero => intro t b; simp [tr]
  | succ d ih =>
    intro t b
    cases t with
    | nil => simp [tr]
    | cons a t =>
      cases b with
      | nil => simp [tr]
      | cons c u => simp only [tr, List.length_cons]; have := ih (nx a t c u).1 (nx a t c u).2; omega
theorem lets_data (l : List UInt8) : ∀ w : ByteArray, (lets w l).data.toList = w.data.toList ++ l := by
  induction l with
  | nil => intro w; simp [lets]
  | cons c l ih =>
    intro w
    show (lets (w ++ ⟨#[c]⟩) l).data.toList = _
    rw [ih]
    simp [ByteArray.data_append]
theorem lets_size (l : List UInt8) : (lets ⟨#[]⟩ l).size = l.length := by
  have := congrArg List.length (lets_data l ⟨#[]⟩)
  rw [data_length] at this
  simpa using this
theorem lets_bt (l : List UInt8) (i : Nat) (h : i < l.length) : bt (lets ⟨#[]⟩ l) (i : Int) = (l[i].toNat : Int) := by
  rw [← rd_bytesOf]
  unfold bytesOf rd
  rw [lets_data]
  simp [List.getElem?_eq_getElem h]
theorem count_i (T : List (S26 × UInt8)) (fin : S26) (hT : ∀ e ∈ T, 0 < e.1.f0.length) (hl : T.length ≤ 1000) (d : Nat) : ∀ (k i : Nat) (p : Int × Int), i + d = T.length → d < k →
    impl_CountByWinding.l0 k (T.map (·.1) ++ [fin]) (lets ⟨#[]⟩ (T.map (·.2))) p.1 p.2 (T.length : Int) (i : Int) = some (((T.drop i).foldl cstep p).1, ((T.drop i).foldl cstep p).2, true) := by
  induction d with
  | zero =>
    intro k i p hi hk
    obtain ⟨k, rfl⟩ : ∃ m, k = m + 1 := ⟨k - 1, by omega⟩
    rw [impl_CountByWinding.l0, if_neg (by omega), List.drop_of_length_le (by omega)]; rfl
  | succ d ih =>
    intro k i p hi hk
    obtain ⟨k, rfl⟩ : ∃ m, k = m + 1 := ⟨k - 1, by omega⟩
    have h : i < T.length := by omega
    have hs : (lets ⟨#[]⟩ (T.map (·.2))).size = T.length := by rw [lets_size]; simp
    have hb : bt (lets ⟨#[]⟩ (T.map (·.2))) (i : Int) = (T[i].2.toNat : Int) := by rw [lets_bt _ i (by simpa using h)]; simp
    have hr : rd_T26 (T.map (·.1) ++ [fin]) (i : Int) = T[i].1 := by
      unfold rd_T26
      rw [Int.toNat_natCast, List.getD_eq_getElem?_getD, List.getElem?_append_left (by simpa using h)]
      simp [List.getElem?_eq_getElem h]
    have hp := hT T[i] (List.getElem_mem h)
    rw [impl_CountByWinding.l0, if_pos (by omega), if_pos (by omega), if_pos (by rw [hs]; omega), hb, hr, wrap_succ (by omega)]
    rw [List.drop_eq_getElem_cons h, List.foldl_cons]
    by_cases hc : T[i].2 = 67
    · rw [if_pos (by rw [hc]; rfl), if_pos (by simp; omega), if_pos (by omega)]
      have := ih k (i + 1) (cstep p T[i]) (by omega) (by omega)
      unfold cstep at this ⊢
      rw [if_pos hc] at this ⊢
      exact this
    · have hn : ¬ ((T[i].2.toNat : Int) = 67) := fun e => hc (by apply UInt8.toNat_inj.1; have : (67 : UInt8).toNat = 67 := rfl; omega)
      rw [if_neg hn]
      have := ih k (i + 1) (cstep p T[i]) (by omega) (by omega)
      unfold cstep at this ⊢
      rw [if_neg hc] at this ⊢
      exact this
theorem both_ev (a b : List Int) (ha : a.length ≤ 1048576) (hb : b.length ≤ 1048576) : ∃ (r1 r2 : Int) (q : Bool), ∀ k, a.length + b.length + 100 ≤ k → spec_CountByWinding.f k a b = some (r1, r2, q) ∧ impl_CountByWinding.f k a b = some (r1, r2, q) := by
  cases h : weed a b with
  | false =>
    refine ⟨0, 0, false, fun k hk => ?_⟩
    unfold spec_CountByWinding.f impl_CountByWinding.f
    rw [swGood_ev a b ha hb k (by omega), isSeaweed_ev a b ha hb k (by omega), h]
    exact ⟨rfl, rfl⟩
  | true =>
    have hI := inv_of_weed h
    have hm := meas_le a b hI
    refine ⟨((tr 50 a b).foldl cstep (0, 0)).1, ((tr 50 a b).foldl cstep (0, 0)).2, true, fun k hk => ?_⟩
    unfold spec_CountByWinding.f impl_CountByWinding.f impl_Seaweed_run.f
    rw [swGood_ev a b ha hb k (by omega), isSeaweed_ev a b ha hb k (by omega), h]
    obtain ⟨fin, hf⟩ := run_l0 50 a b ⟨#[]⟩ [] k hI hm (by omega) (by decide) (by decide)
    simp only [Option.bind_some, if_true]
    rw [List.nil_append] at hf
    rw [hf, Option.bind_some, List.nil_append]
    have e1 := count_l0 50 a b (0, 0) k hI hm (by omega)
    have e2 := count_i (tr 50 a b) fin (tr_parts 50 a b) (by have := tr_len 50 a b; omega) (tr 50 a b).length k 0 (0, 0) (by omega) (by have := tr_len 50 a b; omega)
    rw [List.drop_zero] at e2
    have e3 : ((lets ⟨#[]⟩ ((tr 50 a b).map (·.2))).size : Int) = ((tr 50 a b).length : Int) := by rw [lets_size]; simp
    dsimp only
    rw [e3]
    exact ⟨e1, e2⟩
theorem FnExactCountByWinding : laws_FnExactCountByWinding.Pure := by
  intro a b ha _ hb _
  by_cases h : a.length + b.length ≤ 1048576
  · obtain ⟨r, r2, q, hr⟩ := both_ev a b (by omega) (by omega)
    have hs : ∀ k, a.length + b.length + 100 ≤ k → spec_CountByWinding.f k a b = some (r, r2, q) := fun k hk => (hr k hk).1
    have hi : ∀ k, a.length + b.length + 100 ≤ k → impl_CountByWinding.f k a b = some (r, r2, q) := fun k hk => (hr k hk).2
    have T1 := fun k hk => toSeaweed_ev a b (by omega) (by omega) k hk
    have E1 := fun k hk => eqSeaweed_ev a b (by omega) (by omega) k hk
    obtain ⟨n, hn0⟩ : ∃ n, n = a.length + b.length + 2000 := ⟨_, rfl⟩
    refine ⟨n + 4, ?_⟩
    unfold laws_FnExactCountByWinding.f
    rw [szSeaweed_val a b ha hb, if_pos h, Option.bind_some, if_neg (by omega)]
    simp (disch := omega) only [T1, hs, hi, Option.bind_some, if_true, bne_self_eq_false]
    rw [laws_FnExactCountByWinding.j0]
    simp (disch := omega) only [T1, E1, Option.bind_some, if_true, if_false, bne_self_eq_false, Bool.false_eq_true]
  · refine ⟨1, ?_⟩
    unfold laws_FnExactCountByWinding.f
    rw [szSeaweed_val a b ha hb, if_neg h, Option.bind_some, if_pos (by omega)]

end Go.Proofs.Ytoblagangofflaa.Pure
