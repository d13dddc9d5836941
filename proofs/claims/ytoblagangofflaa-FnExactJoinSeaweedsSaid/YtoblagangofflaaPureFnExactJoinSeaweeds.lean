/- The law FnExactJoinSeaweeds, as plain lists tell it: at every two pairs of slices of whole numbers the program's JoinSeaweeds answers what the reference's does, and what it answers is of its own. No condition but the law's own guard. -/
import Derived.Test.YtoblagangofflaaPWeed2
import Derived.Test.YtoblagangofflaaPConc
import Derived.Test.YtoblagangofflaaHJoinSeaweedsW
import Derived.Test.YtoblagangofflaaJ1
import Derived.Test.YtoblagangofflaaJ2
import Derived.Test.YtoblagangofflaaJ4
set_option linter.unusedVariables false
set_option linter.unusedSimpArgs false
namespace Go.Proofs.Ytoblagangofflaa.Pure
open Go.RowKit Go.Proofs.Ytoblagangofflaa.J Go.Proofs.YtoblagangofflaaW.PrintWords Go.Proofs.YtoblagangofflaaW.PrintLast Go.Proofs.YtoblagangofflaaW.PrintMore

theorem own_val (l : List Int) (h : l.length ≤ 20) : spec_l1Own.f l = some l := by
  unfold spec_l1Own.f
  rw [Option.bind_some, if_pos (by simp; omega)]; rfl
theorem foldl_sum : ∀ (l : List Int) (acc : Int), 0 ≤ acc → acc + 20 * (l.length : Int) ≤ 100000 → (∀ x ∈ l, 1 ≤ x ∧ x ≤ 20) → l.foldl (fun s x => wrap64 (s + x)) acc = acc + l.sum ∧ (l.length : Int) ≤ l.sum ∧ l.sum ≤ 20 * (l.length : Int)
  | [], acc, h0, h1, _ => by simp
  | x :: t, acc, h0, h1, h2 => by
    have hx := h2 x (List.mem_cons_self ..)
    simp only [List.length_cons, Int.natCast_add, Int.natCast_one] at h1
    have := foldl_sum t (acc + x) (by omega) (by omega) (fun y hy => h2 y (List.mem_cons_of_mem _ hy))
    simp only [List.foldl_cons, List.length_cons, List.sum_cons, Int.natCast_add, Int.natCast_one]
    rw [wrap_id (x := acc + x) (by omega) (by omega), this.1]
    omega
theorem sumw_eq (l : List Int) (hl : l.length ≤ 40) (h : ∀ x ∈ l, 1 ≤ x ∧ x ≤ 20) : sumw l = l.sum ∧ (l.length : Int) ≤ l.sum ∧ l.sum ≤ 20 * (l.length : Int) := by
  have := foldl_sum l 0 (by omega) (by omega) h
  unfold sumw
  rw [this.1]; omega
theorem parts_app (p u : List Int) (hp : parts p = true) (hu : parts u = true) : parts (p ++ u) = decide (sumw p + sumw u ≤ 20) ∧ sumw (p ++ u) = sumw p + sumw u ∧ 0 ≤ sumw p ∧ sumw p ≤ 400 ∧ 0 ≤ sumw u ∧ sumw u ≤ 400 := by
  have lp := parts_len hp; have lu := parts_len hu; have ip := parts_in hp; have iu := parts_in hu
  have ia : ∀ x ∈ p ++ u, 1 ≤ x ∧ x ≤ 20 := fun x hx => (List.mem_append.1 hx).elim (ip x) (iu x)
  have sp := sumw_eq p (by omega) ip; have su := sumw_eq u (by omega) iu
  have sa := sumw_eq (p ++ u) (by simp; omega) ia
  have e : (p ++ u).sum = p.sum + u.sum := by simp
  have hall : ((p ++ u).all fun x => decide (1 ≤ x ∧ x ≤ 20)) = true := List.all_eq_true.2 (fun x hx => decide_eq_true (ia x hx))
  refine ⟨?_, by omega, by omega, by omega, by omega, by omega⟩
  unfold parts
  rw [hall, Bool.and_true, sa.1, e]
  have la : ((p ++ u).length : Int) = (p.length : Int) + (u.length : Int) := by simp
  have e2 : p.sum + u.sum = sumw p + sumw u := by omega
  rw [e2]
  by_cases h : sumw p + sumw u ≤ 20
  · rw [decide_eq_true h, decide_eq_true (by omega)]; rfl
  · rw [decide_eq_false h, Bool.and_false]
theorem weed_app (p q u v : List Int) (h1 : weed p q = true) (h2 : weed u v = true) : weed (p ++ u) (q ++ v) = decide (sumw p + sumw u ≤ 20) ∧ 0 ≤ sumw p ∧ sumw p ≤ 400 ∧ 0 ≤ sumw u ∧ sumw u ≤ 400 := by
  unfold weed at *
  simp only [Bool.and_eq_true, beq_iff_eq] at h1 h2
  obtain ⟨⟨a1, a2⟩, a3⟩ := h1
  obtain ⟨⟨b1, b2⟩, b3⟩ := h2
  have P := parts_app p u a1 b1
  have Q := parts_app q v a2 b2
  refine ⟨?_, P.2.2⟩
  rw [P.1, Q.1, P.2.1, Q.2.1, a3, b3]
  by_cases h : sumw q + sumw v ≤ 20 <;> simp [h]
theorem both_ev (p q u v : List Int) (hp : p.length ≤ 1048576) (hq : q.length ≤ 1048576) (hu : u.length ≤ 1048576) (hv : v.length ≤ 1048576) (hs : p.length + q.length + u.length + v.length ≤ 1048576) :
    ∃ (r1 r2 : List Int) (b : Bool), r1.length ≤ 40 ∧ r2.length ≤ 40 ∧ ∀ k, p.length + q.length + u.length + v.length + 100 ≤ k → spec_JoinSeaweeds.f k p q u v = some (r1, r2, b) ∧ impl_JoinSeaweeds.f k p q u v = some (r1, r2, b) := by
  have C : ∀ k, p.length + q.length + u.length + v.length + 100 ≤ k → ∀ z, impl_JoinSeaweeds.f k p q u v = z ↔ (if weed p q = true then (if weed u v = true then (if weed (p ++ u) (q ++ v) = true then some (p ++ u, q ++ v, true) else some ([], [], false)) else some ([], [], false)) else some ([], [], false)) = z := by
    intro k hk z
    obtain ⟨m, rfl⟩ : ∃ m, k = m + 6 := ⟨k - 6, by omega⟩
    unfold impl_JoinSeaweeds.f
    rw [concat2_ev p u hp hu m, concat2_ev q v hq hv m, isSeaweed_ev p q hp hq _ (by omega), isSeaweed_ev u v hu hv _ (by omega)]
    simp only [Option.bind_some]
    rw [isSeaweed_ev (p ++ u) (q ++ v) (by simp only [List.length_append]; omega) (by simp only [List.length_append]; omega) _ (by simp only [List.length_append]; omega)]
    simp only [Option.bind_some]
  cases h1 : weed p q with
  | false =>
    refine ⟨[], [], false, by simp, by simp, fun k hk => ⟨?_, ?_⟩⟩
    · obtain ⟨m, rfl⟩ : ∃ m, k = m + 1 := ⟨k - 1, by omega⟩
      unfold spec_JoinSeaweeds.f
      rw [swGood_ev p q hp hq _ (by omega), h1]
      rfl
    · rw [C k hk, h1]; rfl
  | true =>
    cases h2 : weed u v with
    | false =>
      refine ⟨[], [], false, by simp, by simp, fun k hk => ⟨?_, ?_⟩⟩
      · obtain ⟨m, rfl⟩ : ∃ m, k = m + 1 := ⟨k - 1, by omega⟩
        unfold spec_JoinSeaweeds.f
        rw [swGood_ev p q hp hq _ (by omega), swGood_ev u v hu hv _ (by omega), h1, h2]
        rfl
      · rw [C k hk, h1, h2]; rfl
    | true =>
      have WA := weed_app p q u v h1 h2
      have l1 := weed_len h1
      have l2 := weed_len h2
      have S : ∀ k, p.length + q.length + u.length + v.length + 100 ≤ k → spec_JoinSeaweeds.f k p q u v = if sumw p + sumw u ≤ 20 then some (p ++ u, q ++ v, true) else some ([], [], false) := by
        intro k hk
        obtain ⟨m, rfl⟩ : ∃ m, k = m + 1 := ⟨k - 1, by omega⟩
        unfold spec_JoinSeaweeds.f
        rw [swGood_ev p q hp hq _ (by omega), swGood_ev u v hu hv _ (by omega), h1, h2, swSum_ev p hp _ (by omega), swSum_ev u hu _ (by omega)]
        simp only [Option.bind_some, if_true]
        rw [wrap_id (x := sumw p + sumw u) (by omega) (by omega), spec_JoinSeaweeds.j0, own_val p l1.1, own_val q l1.2]
        by_cases h : sumw p + sumw u ≤ 20
        · rw [if_neg (by simp; omega), if_pos h, Option.bind_some, if_pos (by omega), Option.bind_some, if_pos (by omega)]
        · rw [if_pos (by simp; omega), if_neg h]
      by_cases h : sumw p + sumw u ≤ 20
      · refine ⟨p ++ u, q ++ v, true, by simp; omega, by simp; omega, fun k hk => ⟨?_, ?_⟩⟩
        · rw [S k hk, if_pos h]
        · rw [C k hk, h1, h2, WA.1, decide_eq_true h]; rfl
      · refine ⟨[], [], false, by simp, by simp, fun k hk => ⟨?_, ?_⟩⟩
        · rw [S k hk, if_neg h]
        · rw [C k hk, h1, h2, WA.1, decide_eq_false h]; rfl
theorem szSeaweed_any (a b : List Int) (left : Int) (hl : 0 ≤ left) (hl2 : left ≤ 1048576) (ha : a.length ≤ maxLen) (hb : b.length ≤ maxLen) : laws_szSeaweed.f a b left = some (if (a.length : Int) + (b.length : Int) ≤ left then left - (a.length : Int) - (b.length : Int) else (-1 : Int)) := by
  unfold maxLen at ha hb
  unfold laws_szSeaweed.f laws_szIntS.f
  rw [wrap_id (x := left - (a.length : Int)) (by omega) (by omega)]
  by_cases h1 : left - (a.length : Int) < 0
  · rw [if_pos h1, Option.bind_some, if_pos (by omega), if_neg (by omega)]
  · rw [if_neg h1, Option.bind_some, if_neg h1, wrap_id (x := left - (a.length : Int) - (b.length : Int)) (by omega) (by omega)]
    by_cases h2 : left - (a.length : Int) - (b.length : Int) < 0
    · rw [if_pos h2, Option.bind_some, if_pos (by omega), if_neg (by omega)]
    · rw [if_neg h2, Option.bind_some, if_neg h2, if_pos (by omega)]
theorem markSeaweed_any (a b : List Int) (s : Nat) (hs : s ≤ 1048577) (ha : a.length ≤ 1048576) (hb : b.length ≤ 1048576) (k : Nat) (hk : a.length + b.length < k) : laws_markSeaweed.f k a b (s : Int) = some (((s + a.length + b.length : Nat) : Int), marks s a.length, marks (s + a.length) b.length) := by
  unfold laws_markSeaweed.f
  have h1 := markIntS_ev a s ha (by omega) k (by omega)
  have h2 := markIntS_ev b (s + a.length) hb (by omega) k (by omega)
  rw [h1, Option.bind_some, h2]; rfl
theorem FnExactJoinSeaweeds : laws_FnExactJoinSeaweeds.Pure := by
  intro p q u v hp _ hq _ hu _ hv _
  have Z1 := szSeaweed_any p q 1048576 (by omega) (by omega) hp hq
  by_cases h : (p.length : Int) + (q.length : Int) ≤ 1048576
  · rw [if_pos h] at Z1
    have Z2 := szSeaweed_any u v (1048576 - (p.length : Int) - (q.length : Int)) (by omega) (by omega) hu hv
    by_cases h' : (u.length : Int) + (v.length : Int) ≤ 1048576 - (p.length : Int) - (q.length : Int)
    · rw [if_pos h'] at Z2
      have b1 : p.length ≤ 1048576 := by omega
      have b2 : q.length ≤ 1048576 := by omega
      have b3 : u.length ≤ 1048576 := by omega
      have b4 : v.length ≤ 1048576 := by omega
      obtain ⟨r1, r2, b, hr1, hr2, hr⟩ := both_ev p q u v b1 b2 b3 b4 (by omega)
      obtain ⟨n, hn⟩ : ∃ n, n = p.length + q.length + u.length + v.length + 2000 := ⟨_, rfl⟩
      have hB := hr n (by omega)
      have M1 := markSeaweed_any p q 1 (by omega) b1 b2 n (by omega)
      have M2 := markSeaweed_any u v (1 + p.length + q.length) (by omega) b3 b4 n (by omega)
      have M3 := markSeaweed_any r1 r2 1 (by omega) (by omega) (by omega) n (by omega)
      rw [Int.natCast_one] at M1 M3
      refine ⟨n, .inr (.inr ⟨⟨_, _, r1, r2, b, _, _, _, _, _, _, _, _, _, Z1, by omega, Z2, by omega, hB.1, hB.2, toSeaweed_ev p q b1 b2 n (by omega), toSeaweed_ev u v b3 b4 n (by omega), eqSeaweed_ev r1 r2 (by omega) (by omega) n (by omega), eqSeaweed_ev p q b1 b2 n (by omega), eqSeaweed_ev u v b3 b4 n (by omega), M1, M2, by omega, M3, by omega, heldSeaweed_ev r1.length r2.length (by omega) (by omega) n (by omega)⟩⟩)⟩
    · rw [if_neg h'] at Z2
      exact ⟨1, .inr (.inl ⟨_, _, Z1, by omega, Z2, by decide⟩)⟩
  · rw [if_neg h] at Z1
    exact ⟨1, .inl ⟨_, Z1, by decide⟩⟩

end Go.Proofs.Ytoblagangofflaa.Pure
