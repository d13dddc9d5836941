/- The program's test of an arch system and the reference's answer alike: both as 'good', in plain Lean. -/
import Derived.Test.YtjgkcknopnollaaGreatPStack
import Derived.Test.YtjgkcknopnollaaGreatPSys
import Derived.Test.YtjgkcknopnollaaGreatQA2
set_option linter.unusedVariables false
set_option linter.unusedSimpArgs false
namespace Go.Proofs.YtjgkcknopnollaaGreat.Pure
open Go.RowKit Go.Proofs.YtjgkcknopnollaaGreat.D Go.Proofs.YtjgkcknopnollaaGreatW.PrintWords Go.Proofs.YtjgkcknopnollaaGreatW.PrintLast Go.Proofs.YtjgkcknopnollaaGreatW.PrintMore

def qof (p : List Int) (i : Nat) : Nat := (p.getD i 0).toNat
def inr (p : List Int) : Bool := p.all fun x => decide (0 ≤ x ∧ x ≤ (p.length : Int) - 1)
def good (p : List Int) : Bool := decide (p.length % 2 = 0) && (decide (p.length ≤ 12) && (inr p && scan (qof p) p.length 0 []))
theorem inr_get {p : List Int} (h : inr p = true) (i : Nat) (hi : i < p.length) : rd p (i : Int) = (qof p i : Int) ∧ qof p i < p.length := by
  unfold inr at h
  rw [List.all_eq_true] at h
  have := h p[i] (List.getElem_mem hi)
  simp at this
  rw [rd_get hi]
  unfold qof
  simp [hi]
  omega
theorem ah_l0 (p : List Int) (hn : p.length ≤ 12) (h : inr p = true) (d : Nat) : ∀ (k i : Nat) (o : List Nat), i + d = p.length → 2 * d + 1 ≤ k → o.length ≤ i →
    spec_ahGood.l0 k p (o.map fun (x : Nat) => (x : Int)) p (p.length : Int) (i : Int) = some (scan (qof p) d i o) := by
  induction d with
  | zero =>
    intro k i o hi hk ho
    obtain ⟨k, rfl⟩ : ∃ m, k = m + 1 := ⟨k - 1, by omega⟩
    simp only [spec_ahGood.l0]
    rw [if_neg (by omega)]; rfl
  | succ d ih =>
    intro k i o hi hk ho
    obtain ⟨k, rfl⟩ : ∃ m, k = m + 2 := ⟨k - 2, by omega⟩
    have hin : i < p.length := by omega
    obtain ⟨e1, e2⟩ := inr_get h i hin
    obtain ⟨e3, e4⟩ := inr_get h (qof p i) e2
    rw [spec_ahGood.l0]
    rw [if_pos (by omega), if_pos (by omega), if_pos (by omega), e1]
    have push : ∀ (hk : 2 * d + 1 ≤ k), spec_ahGood.j2 (k + 1) p (o.map fun (x : Nat) => (x : Int)) (i : Int) (qof p i : Int) p (p.length : Int) (i : Int) true = some (scan (qof p) d (i + 1) (i :: o)) := by
      intro hk
      rw [spec_ahGood.j2, if_pos rfl, Option.bind_some, if_pos (by simp; omega), wrap_succ (by omega)]
      exact ih k (i + 1) (i :: o) (by omega) hk (by simp; omega)
    have pop : ∀ (hk : 2 * d + 1 ≤ k) (hc : ¬ (i < qof p i ∧ qof p (qof p i) = i)), spec_ahGood.j2 (k + 1) p (o.map fun (x : Nat) => (x : Int)) (i : Int) (qof p i : Int) p (p.length : Int) (i : Int) false = some (scan (qof p) (d + 1) i o) := by
      intro hk hc
      rw [spec_ahGood.j2, if_neg (by simp)]
      simp only [scan]
      rw [if_neg hc]
      by_cases hlt : qof p i < i
      · rw [if_pos (by omega), if_pos hlt]
        cases o with
        | nil => simp
        | cons a t =>
          have e5 : rd ((a :: t).map fun (x : Nat) => (x : Int)) 0 = (a : Int) := by simp [rd]
          have e6 : (1 : Int) ≤ (((a :: t).map fun (x : Nat) => (x : Int)).length : Int) := by simp; omega
          rw [if_pos (by omega), if_pos (by omega), e5]
          by_cases e : a = qof p i
          · rw [if_pos (by omega), if_pos (by omega), wrap_succ (by omega)]
            simp only [if_pos e]
            exact ih k (i + 1) t (by omega) hk (by simp at ho; omega)
          · rw [if_neg (by omega)]; simp [e]
      · rw [if_neg (by omega), if_neg hlt]
    by_cases hlt : i < qof p i
    · rw [if_pos (by omega), if_pos (by omega), if_pos (by omega), e3]
      by_cases e : qof p (qof p i) = i
      · simp only [scan]
        rw [if_pos ⟨hlt, e⟩, e, show ((i : Int) == (i : Int)) = true by simp]
        exact push (by omega)
      · rw [show (((qof p (qof p i) : Nat) : Int) == (i : Int)) = false by simp; omega]
        exact pop (by omega) (by omega)
    · rw [if_neg (by omega)]
      exact pop (by omega) (by omega)
theorem ahGood_ev (p : List Int) (hl : p.length ≤ 1048576) (k : Nat) (hk : p.length + 30 < k) : spec_ahGood.f k p = some (good p) := by
  obtain ⟨k, rfl⟩ : ∃ m, k = m + 1 := ⟨k - 1, by omega⟩
  unfold spec_ahGood.f good
  by_cases h1 : p.length % 2 = 0
  · rw [if_neg (by omega)]
    by_cases h2 : p.length ≤ 12
    · rw [if_neg (by omega), sAll_ev p _ _ hl _ (by omega), Option.bind_some, wrap_id (by omega) (by omega)]
      have e : (p.all fun x => decide (0 ≤ x ∧ x ≤ (p.length : Int) - 1)) = inr p := rfl
      rw [e]
      cases h3 : inr p with
      | false => rw [spec_ahGood.j0, if_pos (by rfl)]; simp
      | true =>
        rw [spec_ahGood.j0, if_neg (by simp)]
        have := ah_l0 p h2 h3 p.length k 0 [] (by omega) (by omega) (by simp)
        rw [List.map_nil, show ((0 : Nat) : Int) = 0 from rfl] at this
        rw [this]; simp [h1, h2]
    · rw [if_pos (by omega), spec_ahGood.j0, if_pos rfl]; simp [h2]
  · rw [if_pos (by omega), spec_ahGood.j0, if_pos rfl]; simp [h1]

/-- what the program's first loop asks of a point -/
def okp (p : List Int) (i : Nat) : Prop := 0 ≤ rd p (i : Int) ∧ rd p (i : Int) ≤ (p.length : Int) - 1 ∧ rd p (i : Int) ≠ i ∧ rd p (rd p (i : Int)) = i
theorem is_l0_all (p : List Int) (hn : p.length ≤ 12) (d : Nat) : ∀ (k i : Nat), i + d = p.length → (∀ m, i ≤ m → m < p.length → okp p m) →
    impl_isSystem.l0 (k + d + 1) p p (p.length : Int) (i : Int) = impl_isSystem.l1 k p p (p.length : Int) 0 := by
  induction d with
  | zero =>
    intro k i hi _
    simp only [Nat.add_zero, impl_isSystem.l0]
    rw [if_neg (by omega)]
  | succ d ih =>
    intro k i hi h
    obtain ⟨a1, a2, a3, a4⟩ := h i (by omega) (by omega)
    rw [show k + (d + 1) + 1 = (k + d + 1) + 1 by omega, impl_isSystem.l0]
    rw [if_pos (by omega), if_pos (by omega), if_pos (by omega), iIn_val, Option.bind_some, wrap_id (by omega) (by omega), if_pos (by simp; omega), if_neg a3, if_pos a1, if_pos (by omega), if_pos a4, wrap_succ (by omega)]
    exact ih k (i + 1) (by omega) (fun m h1 h2 => h m (by omega) h2)
theorem is_l0_not (p : List Int) (hn : p.length ≤ 12) (d : Nat) : ∀ (k i : Nat), i + d = p.length → d < k → (¬ ∀ m, i ≤ m → m < p.length → okp p m) →
    impl_isSystem.l0 k p p (p.length : Int) (i : Int) = some false := by
  induction d with
  | zero => intro k i hi _ h; exact absurd (fun m h1 h2 => by omega) h
  | succ d ih =>
    intro k i hi hk h
    obtain ⟨k, rfl⟩ : ∃ m, k = m + 1 := ⟨k - 1, by omega⟩
    rw [impl_isSystem.l0]
    rw [if_pos (by omega), if_pos (by omega), if_pos (by omega), iIn_val, Option.bind_some, wrap_id (by omega) (by omega)]
    by_cases a12 : 0 ≤ rd p (i : Int) ∧ rd p (i : Int) ≤ (p.length : Int) - 1
    · rw [if_pos (by simp; omega)]
      by_cases a3 : rd p (i : Int) = i
      · rw [if_pos a3]
      · rw [if_neg a3, if_pos a12.1, if_pos (by omega)]
        by_cases a4 : rd p (rd p (i : Int)) = i
        · rw [if_pos a4, wrap_succ (by omega)]
          refine ih k (i + 1) (by omega) (by omega) (fun hh => h fun m h1 h2 => ?_)
          by_cases e : m = i
          · subst e; exact ⟨a12.1, a12.2, a3, a4⟩
          · exact hh m (by omega) h2
        · rw [if_neg a4]
    · rw [if_neg (by simp; omega)]
/-- what the second loop asks of a point: all under its arch stay under it -/
def lamp (p : List Int) (a : Nat) : Prop := ∀ b : Nat, a < b → (b : Int) < rd p (a : Int) → (a : Int) ≤ rd p (b : Int) ∧ rd p (b : Int) ≤ rd p (a : Int)
theorem is_l2_all (p : List Int) (hn : p.length ≤ 12) (a : Nat) (c : Int) (hc : c ≤ p.length) (d : Nat) : ∀ (k b : Nat), (b : Int) + d = c → (∀ m : Nat, b ≤ m → (m : Int) < c → (a : Int) ≤ rd p (m : Int) ∧ rd p (m : Int) ≤ c) →
    impl_isSystem.l2 (k + d + 1) p (a : Int) c (b : Int) p (p.length : Int) (a : Int) = impl_isSystem.l1 k p p (p.length : Int) (wrap64 ((a : Int) + 1)) := by
  induction d with
  | zero =>
    intro k b hb _
    simp only [Nat.add_zero, impl_isSystem.l2]
    rw [if_neg (by omega)]
  | succ d ih =>
    intro k b hb h
    rw [show k + (d + 1) + 1 = (k + d + 1) + 1 by omega, impl_isSystem.l2]
    have := h b (by omega) (by omega)
    rw [if_pos (by omega), if_pos (by omega), if_pos (by omega), iIn_val, Option.bind_some, if_pos (by simp; omega), wrap_succ (by omega)]
    exact ih k (b + 1) (by omega) (fun m h1 h2 => h m (by omega) h2)
theorem is_l2_not (p : List Int) (hn : p.length ≤ 12) (a : Nat) (c : Int) (hc : c ≤ p.length) (d : Nat) : ∀ (k b : Nat), (b : Int) + d = c → d < k → (¬ ∀ m : Nat, b ≤ m → (m : Int) < c → (a : Int) ≤ rd p (m : Int) ∧ rd p (m : Int) ≤ c) →
    impl_isSystem.l2 k p (a : Int) c (b : Int) p (p.length : Int) (a : Int) = some false := by
  induction d with
  | zero => intro k b hb _ h; exact absurd (fun m h1 h2 => by omega) h
  | succ d ih =>
    intro k b hb hk h
    obtain ⟨k, rfl⟩ : ∃ m, k = m + 1 := ⟨k - 1, by omega⟩
    rw [impl_isSystem.l2]
    rw [if_pos (by omega), if_pos (by omega), if_pos (by omega), iIn_val, Option.bind_some]
    by_cases hx : (a : Int) ≤ rd p (b : Int) ∧ rd p (b : Int) ≤ c
    · rw [if_pos (by simp; omega), wrap_succ (by omega)]
      refine ih k (b + 1) (by omega) (by omega) (fun hh => h fun m h1 h2 => ?_)
      by_cases e : m = b
      · subst e; exact hx
      · exact hh m (by omega) h2
    · rw [if_neg (by simp; omega)]
theorem is_l1 (p : List Int) (hn : p.length ≤ 12) (hok : ∀ m, m < p.length → okp p m) (e : Nat) : ∀ (k a : Nat), a + e = p.length → 20 * e + 1 ≤ k →
    ∃ r, impl_isSystem.l1 k p p (p.length : Int) (a : Int) = some r ∧ (r = true ↔ ∀ m, a ≤ m → m < p.length → lamp p m) := by
  induction e with
  | zero =>
    intro k a ha hk
    obtain ⟨k, rfl⟩ : ∃ m, k = m + 1 := ⟨k - 1, by omega⟩
    rw [impl_isSystem.l1, if_neg (by omega)]
    exact ⟨true, rfl, by simp; intro m h1 h2; omega⟩
  | succ e ih =>
    intro k a ha hk
    obtain ⟨k, rfl⟩ : ∃ m, k = m + 1 := ⟨k - 1, by omega⟩
    rw [impl_isSystem.l1, if_pos (by omega), if_pos (by omega), if_pos (by omega), wrap_succ (by omega)]
    have hcx := hok a (by omega)
    have hc : rd p (a : Int) ≤ p.length := by have := hcx.2.1; omega
    obtain ⟨c, hcc⟩ : ∃ c, c = rd p (a : Int) := ⟨_, rfl⟩
    have hla : lamp p a ↔ ∀ m : Nat, a + 1 ≤ m → (m : Int) < c → (a : Int) ≤ rd p (m : Int) ∧ rd p (m : Int) ≤ c := by
      rw [hcc]; exact ⟨fun h m h1 h2 => h m (by omega) h2, fun h m h1 h2 => h m (by omega) h2⟩
    rw [← hcc] at hc ⊢
    by_cases hgt : (a : Int) + 1 ≤ c
    · obtain ⟨d, hd⟩ : ∃ d : Nat, ((a + 1 : Nat) : Int) + d = c := ⟨(c - (a + 1)).toNat, by omega⟩
      by_cases hall : ∀ m : Nat, a + 1 ≤ m → (m : Int) < c → (a : Int) ≤ rd p (m : Int) ∧ rd p (m : Int) ≤ c
      · obtain ⟨k', hk'⟩ : ∃ k', k = k' + d + 1 := ⟨k - d - 1, by omega⟩
        rw [hk', is_l2_all p hn a c hc d k' (a + 1) hd hall, wrap_succ (by omega)]
        obtain ⟨r, hr, hi⟩ := ih k' (a + 1) (by omega) (by omega)
        refine ⟨r, hr, hi.trans ⟨fun h m h1 h2 => ?_, fun h m h1 h2 => h m (by omega) h2⟩⟩
        by_cases em : m = a
        · subst em; exact hla.2 hall
        · exact h m (by omega) h2
      · rw [is_l2_not p hn a c hc d k (a + 1) hd (by omega) hall]
        exact ⟨false, rfl, by simp; exact ⟨a, by omega, by omega, fun h => hall (hla.1 h)⟩⟩
    · obtain ⟨k, rfl⟩ : ∃ m, k = m + 1 := ⟨k - 1, by omega⟩
      rw [impl_isSystem.l2, if_neg (by omega), wrap_succ (by omega)]
      obtain ⟨r, hr, hi⟩ := ih k (a + 1) (by omega) (by omega)
      refine ⟨r, hr, hi.trans ⟨fun h m h1 h2 => ?_, fun h m h1 h2 => h m (by omega) h2⟩⟩
      by_cases em : m = a
      · subst em; exact hla.2 (fun m h1 h2 => by omega)
      · exact h m (by omega) h2
theorem good_iff (p : List Int) (hn : p.length ≤ 12) : good p = true ↔ (∀ m, m < p.length → okp p m) ∧ ∀ m, m < p.length → lamp p m := by
  have key : inr p = true → (((∀ m, m < p.length → okp p m) ∧ ∀ m, m < p.length → lamp p m) ↔ Sys (qof p) p.length) := by
    intro h
    have hg := fun i hi => inr_get h i hi
    constructor
    · rintro ⟨h1, h2⟩
      refine ⟨fun i hi e => ?_, fun i hi => ?_, fun a ha b hab hb => ?_⟩
      · have := (h1 i hi).2.2.1; rw [(hg i hi).1] at this; omega
      · have := (h1 i hi).2.2.2; rw [(hg i hi).1, (hg _ (hg i hi).2).1] at this; omega
      · have hqa := (hg a ha).2
        have := h2 a ha b hab (by rw [(hg a ha).1]; omega)
        rw [(hg a ha).1, (hg b (by omega)).1] at this
        omega
    · intro hs
      refine ⟨fun i hi => ?_, fun a ha b hab hb => ?_⟩
      · have h1 := hs.ne i hi
        have h2 := hs.inv i hi
        have h3 := (hg i hi).2
        unfold okp
        rw [(hg i hi).1, (hg _ (hg i hi).2).1]
        omega
      · rw [(hg a ha).1] at hb ⊢
        have hqa := (hg a ha).2
        have := hs.lam a ha b hab (by omega)
        rw [(hg b (by omega)).1]
        omega
  have hr : (∀ m, m < p.length → okp p m) → inr p = true := by
    intro h
    unfold inr
    rw [List.all_eq_true]
    intro x hx
    obtain ⟨i, hi, rfl⟩ := List.getElem_of_mem hx
    have := h i hi
    unfold okp at this
    rw [rd_get hi] at this
    simp; omega
  unfold good
  constructor
  · intro h
    simp only [Bool.and_eq_true, decide_eq_true_eq] at h
    obtain ⟨h1, _, h3, h4⟩ := h
    exact (key h3).2 ((sys_iff_scan (fun i hi => (inr_get h3 i hi).2)).2 ⟨h1, h4⟩)
  · intro h
    have h3 := hr h.1
    obtain ⟨h1, h4⟩ := (sys_iff_scan (fun i hi => (inr_get h3 i hi).2)).1 ((key h3).1 h)
    simp [h1, hn, h3, h4]
theorem isSystem_ev (p : List Int) (k : Nat) (hk : 400 ≤ k) : impl_IsSystem.f k p = some (good p) := by
  unfold impl_IsSystem.f impl_isSystem.f
  by_cases hn : p.length ≤ 12
  · rw [if_pos (by omega)]
    by_cases hok : ∀ m, m < p.length → okp p m
    · obtain ⟨k', hk'⟩ : ∃ k', k = k' + p.length + 1 := ⟨k - p.length - 1, by omega⟩
      have h0 := is_l0_all p hn p.length k' 0 (by omega) (fun m _ h => hok m h)
      rw [show ((0 : Nat) : Int) = 0 from rfl] at h0
      rw [hk', h0]
      obtain ⟨r, hr, hi⟩ := is_l1 p hn hok p.length k' 0 (by omega) (by omega)
      rw [show ((0 : Nat) : Int) = 0 from rfl] at hr
      rw [hr, Option.bind_some]
      have : r = good p := by
        rw [Bool.eq_iff_iff, hi, good_iff p hn]
        exact ⟨fun h => ⟨hok, fun m hm => h m (by omega) hm⟩, fun h m _ hm => h.2 m hm⟩
      rw [this]
    · have h0 := is_l0_not p hn p.length k 0 (by omega) (by omega) (fun h => hok fun m hm => h m (by omega) hm)
      rw [show ((0 : Nat) : Int) = 0 from rfl] at h0
      rw [h0, Option.bind_some]
      cases hg : good p with
      | false => rfl
      | true => exact absurd ((good_iff p hn).1 hg).1 hok
  · rw [if_neg (by omega)]
    have : good p = false := by unfold good; simp [hn]
    rw [this]

end Go.Proofs.YtjgkcknopnollaaGreat.Pure
