/- The law FnJoinsMoveOver, as plain lists tell it: at all bytes the law says yes. -/
import Derived.Test.YtiljhemobammdaaPMove
import Derived.Test.YtiljhemobammdaaPJoinAns
import Derived.Test.YtiljhemobammdaaPDrawSys
import Derived.Test.YtiljhemobammdaaO0
import Derived.Test.YtiljhemobammdaaO1
import Derived.Test.YtiljhemobammdaaO4
import Derived.Test.YtiljhemobammdaaO5
import Derived.Test.YtiljhemobammdaaO6
import Derived.Test.YtiljhemobammdaaO7
set_option linter.unusedVariables false
set_option linter.unusedSimpArgs false
namespace Go.Proofs.Ytiljhemobammdaa.Pure
open Go.RowKit Go.Proofs.Ytiljhemobammdaa.O Go.Proofs.YtiljhemobammdaaW.PrintWords Go.Proofs.YtiljhemobammdaaW.PrintLast Go.Proofs.YtiljhemobammdaaW.PrintMore

theorem set_getD (l : List Int) (a : Nat) (v : Int) (x : Nat) (ha : a < l.length) : (l.set a v).getD x 0 = if x = a then v else l.getD x 0 := by
  rw [List.getD_eq_getElem?_getD, List.getD_eq_getElem?_getD, List.getElem?_set]
  by_cases h : a = x
  · subst h; rw [if_pos rfl, if_pos ha, if_pos rfl]; rfl
  · rw [if_neg h, if_neg (fun e => h e.symm)]
theorem good_val {p : List Int} (hg : good p = true) (x : Nat) : p.getD x 0 = (qof p x : Int) := by
  by_cases h : x < p.length
  · have := (inr_get (good_len hg).2 x h).1
    rw [rd_nat] at this; exact this
  · have e : p.getD x 0 = 0 := by rw [List.getD_eq_getElem?_getD, List.getElem?_eq_none (by omega)]; rfl
    unfold qof; rw [e]; rfl
theorem good_lt {p : List Int} (hg : good p = true) : ∀ x, x < p.length → qof p x < p.length := fun x h => (inr_get (good_len hg).2 x h).2
theorem joined_val {p : List Int} (hg : good p = true) (m : Nat) (hm : m + 1 < p.length) (hne : qof p m ≠ m + 1) (x : Nat) : (joinedList p (m : Int)).getD x 0 = ((jn (qof p) m x : Nat) : Int) := by
  obtain ⟨f1, f2, f3, f4, f5, f6, f7, f8⟩ := jn_facts (good_sys hg) (good_lt hg) hm hne
  have e1 : rd p (m : Int) = (qof p m : Int) := by rw [rd_nat, good_val hg]
  have e2 : rd p ((m : Int) + 1) = (qof p (m + 1) : Int) := by rw [show (m : Int) + 1 = ((m + 1 : Nat) : Int) by omega, rd_nat, good_val hg]
  unfold joinedList
  rw [e1, e2, Int.toNat_natCast, Int.toNat_natCast, Int.toNat_natCast, show ((m : Int) + 1).toNat = m + 1 by omega]
  rw [set_getD _ _ _ _ (by simpa using f2), set_getD _ _ _ _ (by simpa using f1), set_getD _ _ _ _ (by simpa using hm), set_getD _ _ _ _ (by omega), good_val hg]
  unfold jn
  by_cases h1 : x = m
  · rw [if_neg (by omega), if_neg (by omega), if_neg (by omega), if_pos h1, if_pos h1]; rfl
  by_cases h2 : x = m + 1
  · rw [if_neg (by omega), if_neg (by omega), if_pos h2, if_neg h1, if_pos h2]
  by_cases h3 : x = qof p m
  · rw [if_neg (by omega), if_pos h3, if_neg h1, if_neg h2, if_pos h3]
  by_cases h4 : x = qof p (m + 1)
  · rw [if_pos h4, if_neg h1, if_neg h2, if_neg h3, if_pos h4]
  · rw [if_neg h4, if_neg h3, if_neg h2, if_neg h1, if_neg h1, if_neg h2, if_neg h3, if_neg h4]
theorem joinedList_length (p : List Int) (i : Int) : (joinedList p i).length = p.length := by unfold joinedList; simp
theorem good_of_sys {q : List Int} (hl : q.length ≤ 12) (hv : ∀ x, q.getD x 0 = (qof q x : Int)) (hs : Sys (qof q) q.length) (hr : ∀ x, x < q.length → qof q x < q.length) : good q = true := by
  have h2 := (sys_iff_scan hr).1 hs
  have hi : inr q = true := by
    unfold inr
    rw [List.all_eq_true]
    intro x hx
    obtain ⟨n, hn, rfl⟩ := List.getElem_of_mem hx
    have h3 := hv n
    have h4 := hr n hn
    rw [List.getD_eq_getElem?_getD, List.getElem?_eq_getElem hn, Option.getD_some] at h3
    rw [h3]
    exact decide_eq_true (by omega)
  unfold good
  rw [decide_eq_true h2.1, decide_eq_true hl, hi, h2.2]; rfl
/-- what a join of a good row is -/
structure IsJoin (p q : List Int) (loop : Int) (m : Nat) : Prop where
  good : good q = true
  len : q.length = p.length
  fn : qof q = jn' (qof p) m
  loop : loop = (closed (qof p) m : Int)
theorem join_ok {p : List Int} (hg : good p = true) (m : Nat) (hm : m + 1 < p.length) : ∃ q loop, joinedAns p (m : Int) = (q, loop, true) ∧ IsJoin p q loop m := by
  have hr : rd p (m : Int) = (qof p m : Int) := by rw [rd_nat, good_val hg]
  by_cases h : qof p m = m + 1
  · refine ⟨p, 1, ?_, hg, rfl, ?_, ?_⟩
    · unfold joinedAns; rw [if_pos ⟨hg, by omega, by omega⟩, if_pos (by rw [hr]; omega)]
    · unfold jn'; rw [if_pos h]
    · unfold closed; rw [if_pos h]; rfl
  · have hv := joined_val hg m hm h
    have hq : qof (joinedList p (m : Int)) = jn (qof p) m := by
      funext x
      show ((joinedList p (m : Int)).getD x 0).toNat = _
      rw [hv x, Int.toNat_natCast]
    obtain ⟨s1, s2⟩ := jn_sys (good_sys hg) (good_lt hg) hm h
    refine ⟨joinedList p (m : Int), 0, ?_, ?_, joinedList_length _ _, ?_, ?_⟩
    · unfold joinedAns; rw [if_pos ⟨hg, by omega, by omega⟩, if_neg (by rw [hr]; omega)]
    · exact good_of_sys (by rw [joinedList_length]; exact (good_len hg).1) (fun x => by rw [hq]; exact hv x) (by rw [hq, joinedList_length]; exact s1) (by rw [hq, joinedList_length]; exact s2)
    · unfold jn'; rw [if_neg h]; exact hq
    · unfold closed; rw [if_neg h]; rfl
theorem components_ev {p q : List Int} (h : Pair p q) (k : Nat) (hk : 1000 ≤ k) : laws_sCount.f k p q = some (cnt (qof p) (qof q) p.length : Int) := by
  unfold laws_sCount.f impl_ComponentsOf.f impl_IsPair.f impl_Meander_components.f
  rw [isSystem_ev p k (by omega), isSystem_ev q k (by omega), h.gp, h.gq, icurves_ev h k (by omega)]
  simp only [Option.bind_some, if_true]
  rw [show ((p.length : Int) == (q.length : Int)) = true from beq_iff_eq.2 (by rw [h.len])]
  rfl
theorem sSame_l0 (l : List Int) (hl : l.length ≤ 1048576) (d : Nat) : ∀ (k i : Nat), i + d = l.length → d < k → laws_sSame.l0 k l l (l.length : Int) (i : Int) = some true := by
  induction d with
  | zero =>
    intro k i hi hk
    obtain ⟨k, rfl⟩ : ∃ m, k = m + 1 := ⟨k - 1, by omega⟩
    rw [laws_sSame.l0, if_neg (by omega)]
  | succ d ih =>
    intro k i hi hk
    obtain ⟨k, rfl⟩ : ∃ m, k = m + 1 := ⟨k - 1, by omega⟩
    rw [laws_sSame.l0, if_pos (by omega), if_pos (by omega), if_pos (by omega), if_pos (by omega), if_pos rfl, wrap_succ (by omega)]
    exact ih k (i + 1) (by omega) (by omega)
theorem sSame_ev (l : List Int) (hl : l.length ≤ 1000) (k : Nat) (hk : 1100 ≤ k) : laws_sSame.f k l l = some true := by
  unfold laws_sSame.f
  rw [if_pos rfl]
  exact sSame_l0 l (by omega) l.length k 0 (by omega) (by omega)
/-- all systems of n arches are good ones of 2 n points -/
def listed (n : Nat) : Bool := match impl_AllSystems.f 3000 (n : Int) with
  | some (l, true) => !l.isEmpty && (decide (l.length ≤ 1000) && l.all fun p => good p && p.length == 2 * n)
  | _ => false
set_option maxRecDepth 100000 in
theorem listed_all : ∀ n : Fin 7, listed n.val = true := by decide +kernel
theorem up {α : Type} {g : Nat → Option α} (hm : ∀ k, LeO (g k) (g (k + 1))) {r : α} {k : Nat} (h : g k = some r) : ∀ d, g (k + d) = some r
  | 0 => h
  | d + 1 => hm _ r (up hm h d)
theorem all_ok (n : Nat) (hn : n ≤ 6) : ∃ l, (∀ k, 3000 ≤ k → impl_AllSystems.f k (n : Int) = some (l, true)) ∧ 0 < l.length ∧ l.length ≤ 1000 ∧ ∀ p ∈ l, good p = true ∧ p.length = 2 * n := by
  have h := listed_all ⟨n, by omega⟩
  unfold listed at h
  split at h
  · rename_i l e
    simp only [Bool.and_eq_true, Bool.not_eq_true', List.isEmpty_eq_false_iff, decide_eq_true_eq, List.all_eq_true, beq_iff_eq] at h
    refine ⟨l, fun k hk => ?_, List.length_pos_iff.2 h.1, h.2.1, h.2.2⟩
    obtain ⟨d, rfl⟩ : ∃ d, k = 3000 + d := ⟨k - 3000, by omega⟩
    exact up (g := fun k => impl_AllSystems.f k (n : Int)) (fun k => impl_AllSystems.mono _ k) e d
  · cases h
theorem rdL2_get {l : List (List Int)} {i : Nat} (h : i < l.length) : rd_L2 l (i : Int) = l[i] := by
  unfold rd_L2; simp [h]
theorem law_l0 {p q : List Int} {loop : Int} {m : Nat} (hg : good p = true) (hm : m + 1 < p.length) (hj : IsJoin p q loop m) (more : List Int) (hmore : more.length ≤ 1048576) (L : List (List Int)) (hL : 0 < L.length) (hL2 : L.length ≤ 1000) (hall : ∀ s ∈ L, good s = true ∧ s.length = p.length)
    (d : Nat) : ∀ (k : Nat) (i : Int), 0 ≤ i → i + d = 6 → 2000 + d ≤ k → laws_FnJoinsMoveOver.l0 k more p (m : Int) q loop L i = some true := by
  induction d with
  | zero =>
    intro k i h0 hi hk
    obtain ⟨k, rfl⟩ : ∃ m, k = m + 1 := ⟨k - 1, by omega⟩
    rw [laws_FnJoinsMoveOver.l0, if_neg (by omega)]
  | succ d ih =>
    intro k i h0 hi hk
    obtain ⟨k, rfl⟩ : ∃ m, k = m + 1 := ⟨k - 1, by omega⟩
    rw [laws_FnJoinsMoveOver.l0, if_pos (by omega), if_neg (by omega), wrap_id (x := i * 7) (by omega) (by omega), wrap_id (x := i * 7 + (more.length : Int)) (by omega) (by omega)]
    have hn := Int.tmod_nonneg (a := i * 7 + (more.length : Int)) (L.length : Int) (by omega)
    have hlt := Int.tmod_lt_of_pos (i * 7 + (more.length : Int)) (b := (L.length : Int)) (by omega)
    generalize Int.tmod (i * 7 + (more.length : Int)) (L.length : Int) = x at hn hlt ⊢
    rw [if_pos hn, if_pos hlt]
    obtain ⟨j, rfl⟩ : ∃ j : Nat, x = (j : Int) := ⟨x.toNat, by omega⟩
    rw [rdL2_get (by omega)]
    obtain ⟨hgs, hls⟩ := hall _ (List.getElem_mem (l := L) (n := j) (by omega))
    generalize L[j] = s at hgs hls ⊢
    have h12 := (good_len hgs).1
    obtain ⟨t, other, ea, ht⟩ := join_ok hgs m (by omega)
    rw [(both_ev s (m : Int) (by omega) k (by omega)).2, ea]
    simp only [Option.bind_some, if_true]
    have P1 : Pair q s := ⟨hj.good, hgs, by rw [hj.len, hls]⟩
    have P2 : Pair p t := ⟨hg, ht.good, by rw [ht.len, hls]⟩
    have P3 : Pair p s := ⟨hg, hgs, hls.symm⟩
    have mv := moves_over (P3.two) hm
    rw [components_ev P1 k (by omega), components_ev P2 k (by omega)]
    simp only [Option.bind_some]
    have hl := hj.loop
    rw [hj.fn, ht.fn, hj.len, ht.loop]
    rw [if_pos (congrArg wrap64 (by omega)), wrap_id (x := i + 1) (by omega) (by omega)]
    exact ih k (i + 1) (by omega) (by omega) (by omega)
theorem FnJoinsMoveOver : laws_FnJoinsMoveOver.Pure := by
  intro l0 l1 hl0 _ hw0 hl1 _ _
  unfold maxLen at hl0 hl1
  refine ⟨9000, ?_⟩
  unfold laws_FnJoinsMoveOver.f laws_big.f
  by_cases hb : (l0.length : Int) > 1048576
  · rw [if_pos hb]; rfl
  rw [if_neg hb, Option.bind_some, wrap_id (x := 1048576 - (l0.length : Int)) (by omega) (by omega)]
  by_cases hb2 : (l1.length : Int) > 1048576 - (l0.length : Int)
  · rw [decide_eq_true hb2]; rfl
  rw [decide_eq_false hb2]
  have hB : Bytes l0 := ⟨by omega, fun x hx => wf_u8' (hw0 x hx)⟩
  obtain ⟨p, i, ed, hp⟩ := drawJoined_ok hB 9000 (by omega)
  obtain ⟨b1, b2⟩ := both_ev p i (by omega) 9000 (by omega)
  simp only [Bool.false_eq_true, if_false, ed, b1, b2, Option.bind_some, bne_self_eq_false]
  have hlen := joinedAns_len p i
  rw [sSame_ev _ (by omega) 9000 (by omega)]
  simp only [Option.bind_some, if_true]
  rw [laws_FnJoinsMoveOver.j0]
  simp only [Bool.false_eq_true, if_false]
  by_cases hok : good p = true ∧ 0 ≤ i ∧ i ≤ (p.length : Int) - 2
  · obtain ⟨hg, hi0, hi1⟩ := hok
    obtain ⟨m, rfl⟩ : ∃ m : Nat, i = (m : Int) := ⟨i.toNat, by omega⟩
    have h12 := (good_len hg).1
    obtain ⟨q, loop, ea, hj⟩ := join_ok hg m (by omega)
    rw [ea]
    simp only [if_true]
    have hq12 := hj.len
    have hat : qof q m = m + 1 := by rw [hj.fn]; exact jn'_at _ _
    have hrq : rd q (m : Int) = (m : Int) + 1 := by rw [rd_nat, good_val hj.good, hat]; omega
    have eq2 : joinedAns q (m : Int) = (q, 1, true) := by
      unfold joinedAns; rw [if_pos ⟨hj.good, by omega, by omega⟩, if_pos hrq]
    rw [(both_ev q (m : Int) (by omega) 8999 (by omega)).2, eq2]
    simp only [Option.bind_some, if_true]
    rw [sSame_ev q (by omega) 8999 (by omega), isSystem_ev q 8999 (by omega), hj.good]
    simp only [Option.bind_some, if_true]
    rw [if_pos (by omega), if_pos (by omega), hrq, wrap_id (x := (m : Int) + 1) (by omega) (by omega), bne_self_eq_false, laws_FnJoinsMoveOver.j1]
    simp only [Bool.false_eq_true, if_false]
    have hev := good_len hg
    have heven : p.length % 2 = 0 := by
      unfold good at hg
      simp only [Bool.and_eq_true, decide_eq_true_eq] at hg
      exact hg.1
    obtain ⟨L, eL, hL, hL2, hall⟩ := all_ok (p.length / 2) (by omega)
    rw [show wrap64 ((p.length : Int) / 2) = ((p.length / 2 : Nat) : Int) by rw [wrap_id (by omega) (by omega)]; omega, eL 8998 (by omega)]
    simp only [Option.bind_some, if_true]
    exact law_l0 hg (by omega) hj l1 (by omega) L hL hL2 (fun s hs => ⟨(hall s hs).1, by have := (hall s hs).2; omega⟩) 6 8998 0 (by omega) (by omega) (by omega)
  · have ha : joinedAns p i = ([], 0, false) := by unfold joinedAns; rw [if_neg hok]
    rw [ha]
    rfl

end Go.Proofs.Ytiljhemobammdaa.Pure
