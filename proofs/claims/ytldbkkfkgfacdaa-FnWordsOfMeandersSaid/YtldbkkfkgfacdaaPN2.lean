/- Arch systems in plain Lean: 'each point is joined with another one and no two arches cross' says the same as the stack's scan. The program's test of an arch system and the reference's answer alike: both as 'good', in plain Lean. The curve through a point of a pair of arch systems, in plain Lean: it comes back to its point, and what the walk round it lists. The curves of a pair of arch systems: the program's colours and the reference's are one, and the number of curves is the greatest colour and one more. What the helpers of the exact laws over a pair compute; the tests of a pair and of a single curve. The word of a meander that the program tells. The meander with a word: the program's and the reference's are one. Joins of a word: two that do not cross; a word whose joins of one side do not cross tells an arch system; an arch system's arches join even with odd points. A closed word and its meander: the meander with a word has this word, and it is one curve. The meander with a closed word has this word; a meander's word is closed, and the meander with it is itself. -/
import Derived.Test.YtldbkkfkgfacdaaPN1
import Derived.Test.YtldbkkfkgfacdaaQA3
set_option linter.unusedVariables false
set_option linter.unusedSimpArgs false
namespace Go.Proofs.Ytldbkkfkgfacdaa.Pure
open Go.RowKit Go.Proofs.Ytldbkkfkgfacdaa.P Go.Proofs.YtldbkkfkgfacdaaW.PrintWords Go.Proofs.YtldbkkfkgfacdaaW.PrintLast Go.Proofs.YtldbkkfkgfacdaaW.PrintMore

def scan (q : Nat → Nat) : Nat → Nat → List Nat → Bool
 | 0, _, _ => true
 | d + 1, i, o => if i < q i ∧ q (q i) = i then scan q d (i + 1) (i :: o) else
   if q i < i then (match o with | a :: t => if a = q i then scan q d (i + 1) t else false | [] => false) else false

structure Sys (q : Nat → Nat) (n : Nat) : Prop where
 ne : ∀ i, i < n → q i ≠ i
 inv : ∀ i, i < n → q (q i) = i
 lam : ∀ a, a < n → ∀ b, a < b → b < q a → a ≤ q b ∧ q b ≤ q a

structure Inv (q : Nat → Nat) (i : Nat) (o : List Nat) : Prop where
 desc : o.Pairwise (· > ·)
 mem : ∀ a, a ∈ o ↔ a < i ∧ i ≤ q a

theorem scan_of_sys {q : Nat → Nat} {n : Nat} (hr : ∀ i, i < n → q i < n) (h : Sys q n) (d : Nat) : ∀ i o, i + d = n → Inv q i o → scan q d i o = true ∧ (d + o.length) % 2 = 0 := by
 induction d with
 | zero =>
  intro i o hi ho; refine ⟨rfl, ?_⟩
  cases o with
  | nil => rfl
  | cons a t =>
   have h1 := (ho.mem a).1 (by simp); have := hr a (by omega); omega
 | succ d ih =>
  intro i o hi ho; (have hin : i < n := by omega); have hne := h.ne i hin; have hinv := h.inv i hin; have uniq : ∀ a, a < n → q a = i → a = q i := fun a ha e => by have := h.inv a ha; rw [e] at this; exact this.symm
  by_cases hlt : i < q i
  ·have : Inv q (i + 1) (i :: o) := by
    refine ⟨List.pairwise_cons.2 ⟨fun a ha => ((ho.mem a).1 ha).1, ho.desc⟩, fun a => ?_⟩; rw [List.mem_cons, ho.mem]
    constructor
    ·rintro (rfl | ⟨h1, h2⟩)
     ·omega
     (have : q a ≠ i := fun e => by have := uniq a (by omega) e; omega); omega
    rintro ⟨h1, h2⟩
    by_cases e : a = i
    ·exact .inl e
    exact .inr ⟨by omega, by omega⟩
   obtain ⟨h1, h2⟩ := ih (i + 1) (i :: o) (by omega) this; simp only [scan]; rw [if_pos ⟨hlt, hinv⟩]; exact ⟨h1, by simp at h2; omega⟩
  (have hlt2 : q i < i := by omega); simp only [scan]; rw [if_neg (by omega), if_pos hlt2]; have hj : q i ∈ o := (ho.mem _).2 ⟨hlt2, by omega⟩
  cases o with
  | nil => simp at hj
  | cons c t =>
   have hc := (ho.mem c).1 (by simp); obtain ⟨hp1, hp2⟩ := List.pairwise_cons.1 ho.desc
   have e : c = q i := by
    rcases List.mem_cons.1 hj with e | hjt
    ·exact e.symm
    have hgt := hp1 _ hjt; have := h.lam (q i) (hr i hin) c hgt (by omega); exact uniq c (by omega) (by omega)
   subst e
   have : Inv q (i + 1) t := by
    refine ⟨hp2, fun a => ?_⟩
    constructor
    ·intro ha; have h1 := (ho.mem a).1 (by simp [ha]); have h2 := hp1 a ha; (have : q a ≠ i := fun e => by have := uniq a (by omega) e; omega); omega
    rintro ⟨h1, h2⟩; (have e : a ≠ i := fun e => by subst e; omega); have := (ho.mem a).2 ⟨by omega, by omega⟩
    rcases List.mem_cons.1 this with e2 | h3
    ·subst e2; omega
    exact h3
   obtain ⟨h1, h2⟩ := ih (i + 1) t (by omega) this; simp only [if_true]; exact ⟨h1, by simp; omega⟩

theorem scan_mem {q : Nat → Nat} {n : Nat} (d : Nat) : ∀ i o, i + d = n → scan q d i o = true → ∀ m, i ≤ m → m < n → q m < i → q m ∈ o := by
 induction d with
 | zero => intro i o hi _ m h1 h2; omega
 | succ d ih =>
  intro i o hi hs m h1 h2 h3; simp only [scan] at hs
  by_cases hc : i < q i ∧ q (q i) = i
  ·rw [if_pos hc] at hs; (have e : m ≠ i := fun e => by subst e; omega); have := ih (i + 1) _ (by omega) hs m (by omega) h2 (by omega)
   rcases List.mem_cons.1 this with e2 | h4
   ·omega
   exact h4
  rw [if_neg hc] at hs
  by_cases hlt : q i < i
  ·rw [if_pos hlt] at hs
   cases o with
   | nil => simp at hs
   | cons a t =>
    simp only at hs
    by_cases e : a = q i
    ·rw [if_pos e] at hs
     by_cases em : m = i
     ·subst em; simp [e]
     have := ih (i + 1) t (by omega) hs m (by omega) h2 (by omega); simp [this]
    rw [if_neg e] at hs; simp at hs
  rw [if_neg hlt] at hs; simp at hs

theorem sys_of_scan_aux {q : Nat → Nat} {n : Nat} (hr : ∀ i, i < n → q i < n) (d : Nat) : ∀ i o, i + d = n → Inv q i o → (∀ a ∈ o, q (q a) = a) → scan q d i o = true →
  (∀ m, i ≤ m → m < n → q m ≠ m ∧ q (q m) = m) ∧ (∀ m, i ≤ m → m < n → q m < m → ∀ b, q m < b → b < m → q b < m) := by
 induction d with
 | zero => intro i o hi _ _ _; exact ⟨fun m h1 h2 => by omega, fun m h1 h2 => by omega⟩
 | succ d ih =>
  intro i o hi ho hoo hs; (have hin : i < n := by omega); simp only [scan] at hs
  by_cases hc : i < q i ∧ q (q i) = i
  ·rw [if_pos hc] at hs
   have : Inv q (i + 1) (i :: o) := by
    refine ⟨List.pairwise_cons.2 ⟨fun a ha => ((ho.mem a).1 ha).1, ho.desc⟩, fun a => ?_⟩; rw [List.mem_cons]
    constructor
    ·rintro (rfl | ha)
     ·omega
     have h1 := (ho.mem a).1 ha; (have : q a ≠ i := fun e => by have := hoo a ha; rw [e] at this; omega); omega
    rintro ⟨h1, h2⟩
    by_cases e : a = i
    ·exact .inl e
    exact .inr ((ho.mem a).2 ⟨by omega, by omega⟩)
   obtain ⟨g1, g2⟩ := ih (i + 1) _ (by omega) this (fun a ha => by rcases List.mem_cons.1 ha with e | ha; (· subst e; exact hc.2); (· exact hoo a ha)) hs
   refine ⟨fun m h1 h2 => ?_, fun m h1 h2 h3 => ?_⟩
   ·by_cases e : m = i
    ·subst e; exact ⟨by omega, hc.2⟩
    exact g1 m (by omega) h2
   by_cases e : m = i
   ·subst e; omega
   exact g2 m (by omega) h2 h3
  rw [if_neg hc] at hs
  by_cases hlt : q i < i
  ·rw [if_pos hlt] at hs
   cases o with
   | nil => simp at hs
   | cons c t =>
    simp only at hs
    by_cases e : c = q i
    ·rw [if_pos e] at hs; obtain ⟨hp1, hp2⟩ := List.pairwise_cons.1 ho.desc; have hcm := (ho.mem c).1 (by simp); have hcc := hoo c (by simp)
     have hqc : q c = i := by
      by_cases e2 : q c = i
      ·exact e2
      have := scan_mem d (i + 1) t (by omega) hs (q c) (by omega) (hr c (by omega)) (by omega); rw [hcc] at this; have := hp1 c this; omega
     have hI : Inv q (i + 1) t := by
      refine ⟨hp2, fun a => ?_⟩
      constructor
      ·intro ha; have h1 := (ho.mem a).1 (by simp [ha]); have h2 := hp1 a ha; (have : q a ≠ i := fun e3 => by have := hoo a (by simp [ha]); rw [e3] at this; omega); omega
      rintro ⟨h1, h2⟩; (have e3 : a ≠ i := fun e3 => by subst e3; omega); have := (ho.mem a).2 ⟨by omega, by omega⟩
      rcases List.mem_cons.1 this with e4 | h3
      ·subst e4; omega
      exact h3
     obtain ⟨g1, g2⟩ := ih (i + 1) t (by omega) hI (fun a ha => hoo a (by simp [ha])) hs
     refine ⟨fun m h1 h2 => ?_, fun m h1 h2 h3 b hb1 hb2 => ?_⟩
     ·by_cases em : m = i
      ·subst em; exact ⟨by omega, by rw [← e]; exact hqc⟩
      exact g1 m (by omega) h2
     by_cases em : m = i
     ·subst em
      by_cases hb : m ≤ q b
      ·have := (ho.mem b).2 ⟨hb2, hb⟩
       rcases List.mem_cons.1 this with e4 | h4
       ·omega
       have := hp1 b h4; omega
      omega
     exact g2 m (by omega) h2 h3 b hb1 hb2
    rw [if_neg e] at hs; simp at hs
  rw [if_neg hlt] at hs; simp at hs

theorem sys_iff_scan {q : Nat → Nat} {n : Nat} (hr : ∀ i, i < n → q i < n) : Sys q n ↔ (n % 2 = 0 ∧ scan q n 0 [] = true) := by
 have h0 : Inv q 0 [] := ⟨List.Pairwise.nil, fun a => by simp⟩
 constructor
 ·intro h; obtain ⟨h1, h2⟩ := scan_of_sys hr h n 0 [] (by omega) h0; exact ⟨by simpa using h2, h1⟩
 rintro ⟨_, hs⟩; obtain ⟨g1, g2⟩ := sys_of_scan_aux hr n 0 [] (by omega) h0 (by simp) hs; refine ⟨fun i hi => (g1 i (by omega) hi).1, fun i hi => (g1 i (by omega) hi).2, fun a ha b hab hb => ?_⟩; have hbn : b < n := Nat.lt_trans hb (hr a ha); have hqa := (g1 a (by omega) ha).2
 constructor
 ·by_cases h : a ≤ q b
  ·exact h
  have := g2 b (by omega) hbn (by omega) a (by omega) hab; omega
 have := g2 (q a) (by omega) (hr a ha) (by omega) b (by omega) hb; omega
def qof (p : List Int) (i : Nat) : Nat := (p.getD i 0).toNat
def inr (p : List Int) : Bool := p.all fun x => decide (0 ≤ x ∧ x ≤ (p.length : Int) - 1)
def good (p : List Int) : Bool := decide (p.length % 2 = 0) && (decide (p.length ≤ 12) && (inr p && scan (qof p) p.length 0 []))
theorem inr_get {p : List Int} (h : inr p = true) (i : Nat) (hi : i < p.length) : rd p (i : Int) = (qof p i : Int) ∧ qof p i < p.length := by
 unfold inr at h; rw [List.all_eq_true] at h; have := h p[i] (List.getElem_mem hi); simp at this; rw [rd_get hi]; unfold qof; simp [hi]; omega
theorem iIn_val (a b c : Int) : impl_in.f a b c = some (decide (b ≤ a ∧ a ≤ c)) := by
 unfold impl_in.f; by_cases h : b ≤ a <;> simp [h]
theorem ah_l0 (p : List Int) (hn : p.length ≤ 12) (h : inr p = true) (d : Nat) : ∀ (k i : Nat) (o : List Nat), i + d = p.length → 2 * d + 1 ≤ k → o.length ≤ i →
  spec_ahGood.l0 k p (o.map fun (x : Nat) => (x : Int)) p (p.length : Int) (i : Int) = some (scan (qof p) d i o) := by
 induction d with
 | zero =>
  intro k i o hi hk ho; obtain ⟨k, rfl⟩ : ∃ m, k = m + 1 := ⟨k - 1, by omega⟩; simp only [spec_ahGood.l0]; rw [if_neg (by omega)]; rfl
 | succ d ih =>
  intro k i o hi hk ho; obtain ⟨k, rfl⟩ : ∃ m, k = m + 2 := ⟨k - 2, by omega⟩; (have hin : i < p.length := by omega); obtain ⟨e1, e2⟩ := inr_get h i hin; obtain ⟨e3, e4⟩ := inr_get h (qof p i) e2; rw [spec_ahGood.l0]; rw [if_pos (by omega), if_pos (by omega), if_pos (by omega), e1]
  have push : ∀ (hk : 2 * d + 1 ≤ k), spec_ahGood.j2 (k + 1) p (o.map fun (x : Nat) => (x : Int)) (i : Int) (qof p i : Int) p (p.length : Int) (i : Int) true = some (scan (qof p) d (i + 1) (i :: o)) := by
   intro hk; rw [spec_ahGood.j2, if_pos rfl, Option.bind_some, if_pos (by simp; omega), wrap_succ (by omega)]; exact ih k (i + 1) (i :: o) (by omega) hk (by simp; omega)
  have pop : ∀ (hk : 2 * d + 1 ≤ k) (hc : ¬ (i < qof p i ∧ qof p (qof p i) = i)), spec_ahGood.j2 (k + 1) p (o.map fun (x : Nat) => (x : Int)) (i : Int) (qof p i : Int) p (p.length : Int) (i : Int) false = some (scan (qof p) (d + 1) i o) := by
   intro hk hc; rw [spec_ahGood.j2, if_neg (by simp)]; simp only [scan]; rw [if_neg hc]
   by_cases hlt : qof p i < i
   ·rw [if_pos (by omega), if_pos hlt]
    cases o with
    | nil => simp
    | cons a t =>
     (have e5 : rd ((a :: t).map fun (x : Nat) => (x : Int)) 0 = (a : Int) := by simp [rd]); (have e6 : (1 : Int) ≤ (((a :: t).map fun (x : Nat) => (x : Int)).length : Int) := by simp; omega); rw [if_pos (by omega), if_pos (by omega), e5]
     by_cases e : a = qof p i
     ·rw [if_pos (by omega), if_pos (by omega), wrap_succ (by omega)]; simp only [if_pos e]; exact ih k (i + 1) t (by omega) hk (by simp at ho; omega)
     rw [if_neg (by omega)]; simp [e]
   rw [if_neg (by omega), if_neg hlt]
  by_cases hlt : i < qof p i
  ·rw [if_pos (by omega), if_pos (by omega), if_pos (by omega), e3]
   by_cases e : qof p (qof p i) = i
   ·simp only [scan]; rw [if_pos ⟨hlt, e⟩, e, show ((i : Int) == (i : Int)) = true by simp]; exact push (by omega)
   rw [show (((qof p (qof p i) : Nat) : Int) == (i : Int)) = false by simp; omega]; exact pop (by omega) (by omega)
  rw [if_neg (by omega)]; exact pop (by omega) (by omega)
theorem ahGood_ev (p : List Int) (hl : p.length ≤ 1048576) (k : Nat) (hk : p.length + 30 < k) : spec_ahGood.f k p = some (good p) := by
 obtain ⟨k, rfl⟩ : ∃ m, k = m + 1 := ⟨k - 1, by omega⟩; unfold spec_ahGood.f good
 by_cases h1 : p.length % 2 = 0
 ·rw [if_neg (by omega)]
  by_cases h2 : p.length ≤ 12
  ·rw [if_neg (by omega), sAll_ev p _ _ hl _ (by omega), Option.bind_some, wrap_id (by omega) (by omega)]; have e : (p.all fun x => decide (0 ≤ x ∧ x ≤ (p.length : Int) - 1)) = inr p := rfl; rw [e]
   cases h3 : inr p with
   | false => rw [spec_ahGood.j0, if_pos (by rfl)]; simp
   | true =>
    rw [spec_ahGood.j0, if_neg (by simp)]; have := ah_l0 p h2 h3 p.length k 0 [] (by omega) (by omega) (by simp); rw [List.map_nil, show ((0 : Nat) : Int) = 0 from rfl] at this; rw [this]; simp [h1, h2]
  rw [if_pos (by omega), spec_ahGood.j0, if_pos rfl]; simp [h2]
 rw [if_pos (by omega), spec_ahGood.j0, if_pos rfl]; simp [h1]

/-- what the program's first loop asks of a point -/
def okp (p : List Int) (i : Nat) : Prop := 0 ≤ rd p (i : Int) ∧ rd p (i : Int) ≤ (p.length : Int) - 1 ∧ rd p (i : Int) ≠ i ∧ rd p (rd p (i : Int)) = i
theorem is_l0_all (p : List Int) (hn : p.length ≤ 12) (d : Nat) : ∀ (k i : Nat), i + d = p.length → (∀ m, i ≤ m → m < p.length → okp p m) →
  impl_isSystem.l0 (k + d + 1) p p (p.length : Int) (i : Int) = impl_isSystem.l1 k p p (p.length : Int) 0 := by
 induction d with
 | zero =>
  intro k i hi _; simp only [Nat.add_zero, impl_isSystem.l0]; rw [if_neg (by omega)]
 | succ d ih =>
  intro k i hi h; obtain ⟨a1, a2, a3, a4⟩ := h i (by omega) (by omega); rw [show k + (d + 1) + 1 = (k + d + 1) + 1 by omega, impl_isSystem.l0]; rw [if_pos (by omega), if_pos (by omega), if_pos (by omega), iIn_val, Option.bind_some, wrap_id (by omega) (by omega), if_pos (by simp; omega), if_neg a3, if_pos a1, if_pos (by omega), if_pos a4, wrap_succ (by omega)]; exact ih k (i + 1) (by omega) (fun m h1 h2 => h m (by omega) h2)
theorem is_l0_not (p : List Int) (hn : p.length ≤ 12) (d : Nat) : ∀ (k i : Nat), i + d = p.length → d < k → (¬ ∀ m, i ≤ m → m < p.length → okp p m) →
  impl_isSystem.l0 k p p (p.length : Int) (i : Int) = some false := by
 induction d with
 | zero => intro k i hi _ h; exact absurd (fun m h1 h2 => by omega) h
 | succ d ih =>
  intro k i hi hk h; obtain ⟨k, rfl⟩ : ∃ m, k = m + 1 := ⟨k - 1, by omega⟩; rw [impl_isSystem.l0]; rw [if_pos (by omega), if_pos (by omega), if_pos (by omega), iIn_val, Option.bind_some, wrap_id (by omega) (by omega)]
  by_cases a12 : 0 ≤ rd p (i : Int) ∧ rd p (i : Int) ≤ (p.length : Int) - 1
  ·rw [if_pos (by simp; omega)]
   by_cases a3 : rd p (i : Int) = i
   ·rw [if_pos a3]
   rw [if_neg a3, if_pos a12.1, if_pos (by omega)]
   by_cases a4 : rd p (rd p (i : Int)) = i
   ·rw [if_pos a4, wrap_succ (by omega)]; refine ih k (i + 1) (by omega) (by omega) (fun hh => h fun m h1 h2 => ?_)
    by_cases e : m = i
    ·subst e; exact ⟨a12.1, a12.2, a3, a4⟩
    exact hh m (by omega) h2
   rw [if_neg a4]
  rw [if_neg (by simp; omega)]
/-- what the second loop asks of a point: all under its arch stay under it -/
def lamp (p : List Int) (a : Nat) : Prop := ∀ b : Nat, a < b → (b : Int) < rd p (a : Int) → (a : Int) ≤ rd p (b : Int) ∧ rd p (b : Int) ≤ rd p (a : Int)
theorem is_l2_all (p : List Int) (hn : p.length ≤ 12) (a : Nat) (c : Int) (hc : c ≤ p.length) (d : Nat) : ∀ (k b : Nat), (b : Int) + d = c → (∀ m : Nat, b ≤ m → (m : Int) < c → (a : Int) ≤ rd p (m : Int) ∧ rd p (m : Int) ≤ c) →
  impl_isSystem.l2 (k + d + 1) p (a : Int) c (b : Int) p (p.length : Int) (a : Int) = impl_isSystem.l1 k p p (p.length : Int) (wrap64 ((a : Int) + 1)) := by
 induction d with
 | zero =>
  intro k b hb _; simp only [Nat.add_zero, impl_isSystem.l2]; rw [if_neg (by omega)]
 | succ d ih =>
  intro k b hb h; rw [show k + (d + 1) + 1 = (k + d + 1) + 1 by omega, impl_isSystem.l2]; have := h b (by omega) (by omega); rw [if_pos (by omega), if_pos (by omega), if_pos (by omega), iIn_val, Option.bind_some, if_pos (by simp; omega), wrap_succ (by omega)]; exact ih k (b + 1) (by omega) (fun m h1 h2 => h m (by omega) h2)
theorem is_l2_not (p : List Int) (hn : p.length ≤ 12) (a : Nat) (c : Int) (hc : c ≤ p.length) (d : Nat) : ∀ (k b : Nat), (b : Int) + d = c → d < k → (¬ ∀ m : Nat, b ≤ m → (m : Int) < c → (a : Int) ≤ rd p (m : Int) ∧ rd p (m : Int) ≤ c) →
  impl_isSystem.l2 k p (a : Int) c (b : Int) p (p.length : Int) (a : Int) = some false := by
 induction d with
 | zero => intro k b hb _ h; exact absurd (fun m h1 h2 => by omega) h
 | succ d ih =>
  intro k b hb hk h; obtain ⟨k, rfl⟩ : ∃ m, k = m + 1 := ⟨k - 1, by omega⟩; rw [impl_isSystem.l2]; rw [if_pos (by omega), if_pos (by omega), if_pos (by omega), iIn_val, Option.bind_some]
  by_cases hx : (a : Int) ≤ rd p (b : Int) ∧ rd p (b : Int) ≤ c
  ·rw [if_pos (by simp; omega), wrap_succ (by omega)]; refine ih k (b + 1) (by omega) (by omega) (fun hh => h fun m h1 h2 => ?_)
   by_cases e : m = b
   ·subst e; exact hx
   exact hh m (by omega) h2
  rw [if_neg (by simp; omega)]
theorem is_l1 (p : List Int) (hn : p.length ≤ 12) (hok : ∀ m, m < p.length → okp p m) (e : Nat) : ∀ (k a : Nat), a + e = p.length → 20 * e + 1 ≤ k →
  ∃ r, impl_isSystem.l1 k p p (p.length : Int) (a : Int) = some r ∧ (r = true ↔ ∀ m, a ≤ m → m < p.length → lamp p m) := by
 induction e with
 | zero =>
  intro k a ha hk; obtain ⟨k, rfl⟩ : ∃ m, k = m + 1 := ⟨k - 1, by omega⟩; rw [impl_isSystem.l1, if_neg (by omega)]; exact ⟨true, rfl, by simp; intro m h1 h2; omega⟩
 | succ e ih =>
  intro k a ha hk; obtain ⟨k, rfl⟩ : ∃ m, k = m + 1 := ⟨k - 1, by omega⟩; rw [impl_isSystem.l1, if_pos (by omega), if_pos (by omega), if_pos (by omega), wrap_succ (by omega)]; have hcx := hok a (by omega); (have hc : rd p (a : Int) ≤ p.length := by have := hcx.2.1; omega); obtain ⟨c, hcc⟩ : ∃ c, c = rd p (a : Int) := ⟨_, rfl⟩
  have hla : lamp p a ↔ ∀ m : Nat, a + 1 ≤ m → (m : Int) < c → (a : Int) ≤ rd p (m : Int) ∧ rd p (m : Int) ≤ c := by
   rw [hcc]; exact ⟨fun h m h1 h2 => h m (by omega) h2, fun h m h1 h2 => h m (by omega) h2⟩
  rw [← hcc] at hc ⊢
  by_cases hgt : (a : Int) + 1 ≤ c
  ·obtain ⟨d, hd⟩ : ∃ d : Nat, ((a + 1 : Nat) : Int) + d = c := ⟨(c - (a + 1)).toNat, by omega⟩
   by_cases hall : ∀ m : Nat, a + 1 ≤ m → (m : Int) < c → (a : Int) ≤ rd p (m : Int) ∧ rd p (m : Int) ≤ c
   ·obtain ⟨k', hk'⟩ : ∃ k', k = k' + d + 1 := ⟨k - d - 1, by omega⟩; rw [hk', is_l2_all p hn a c hc d k' (a + 1) hd hall, wrap_succ (by omega)]; obtain ⟨r, hr, hi⟩ := ih k' (a + 1) (by omega) (by omega); refine ⟨r, hr, hi.trans ⟨fun h m h1 h2 => ?_, fun h m h1 h2 => h m (by omega) h2⟩⟩
    by_cases em : m = a
    ·subst em; exact hla.2 hall
    exact h m (by omega) h2
   rw [is_l2_not p hn a c hc d k (a + 1) hd (by omega) hall]; exact ⟨false, rfl, by simp; exact ⟨a, by omega, by omega, fun h => hall (hla.1 h)⟩⟩
  obtain ⟨k, rfl⟩ : ∃ m, k = m + 1 := ⟨k - 1, by omega⟩; rw [impl_isSystem.l2, if_neg (by omega), wrap_succ (by omega)]; obtain ⟨r, hr, hi⟩ := ih k (a + 1) (by omega) (by omega); refine ⟨r, hr, hi.trans ⟨fun h m h1 h2 => ?_, fun h m h1 h2 => h m (by omega) h2⟩⟩
  by_cases em : m = a
  ·subst em; exact hla.2 (fun m h1 h2 => by omega)
  exact h m (by omega) h2
theorem good_iff (p : List Int) (hn : p.length ≤ 12) : good p = true ↔ (∀ m, m < p.length → okp p m) ∧ ∀ m, m < p.length → lamp p m := by
 have key : inr p = true → (((∀ m, m < p.length → okp p m) ∧ ∀ m, m < p.length → lamp p m) ↔ Sys (qof p) p.length) := by
  intro h; have hg := fun i hi => inr_get h i hi
  constructor
  ·rintro ⟨h1, h2⟩
   refine ⟨fun i hi e => ?_, fun i hi => ?_, fun a ha b hab hb => ?_⟩
   ·have := (h1 i hi).2.2.1; rw [(hg i hi).1] at this; omega
   ·have := (h1 i hi).2.2.2; rw [(hg i hi).1, (hg _ (hg i hi).2).1] at this; omega
   have hqa := (hg a ha).2; have := h2 a ha b hab (by rw [(hg a ha).1]; omega); rw [(hg a ha).1, (hg b (by omega)).1] at this; omega
  intro hs
  refine ⟨fun i hi => ?_, fun a ha b hab hb => ?_⟩
  ·have h1 := hs.ne i hi; have h2 := hs.inv i hi; have h3 := (hg i hi).2; unfold okp; rw [(hg i hi).1, (hg _ (hg i hi).2).1]; omega
  rw [(hg a ha).1] at hb ⊢; have hqa := (hg a ha).2; have := hs.lam a ha b hab (by omega); rw [(hg b (by omega)).1]; omega
 have hr : (∀ m, m < p.length → okp p m) → inr p = true := by
  intro h; unfold inr; rw [List.all_eq_true]; intro x hx; obtain ⟨i, hi, rfl⟩ := List.getElem_of_mem hx; have := h i hi; unfold okp at this; rw [rd_get hi] at this; simp; omega
 unfold good
 constructor
 ·intro h; simp only [Bool.and_eq_true, decide_eq_true_eq] at h; obtain ⟨h1, _, h3, h4⟩ := h; exact (key h3).2 ((sys_iff_scan (fun i hi => (inr_get h3 i hi).2)).2 ⟨h1, h4⟩)
 intro h; have h3 := hr h.1; obtain ⟨h1, h4⟩ := (sys_iff_scan (fun i hi => (inr_get h3 i hi).2)).1 ((key h3).1 h); simp [h1, hn, h3, h4]
theorem isSystem_ev (p : List Int) (k : Nat) (hk : 400 ≤ k) : impl_IsSystem.f k p = some (good p) := by
 unfold impl_IsSystem.f impl_isSystem.f
 by_cases hn : p.length ≤ 12
 ·rw [if_pos (by omega)]
  by_cases hok : ∀ m, m < p.length → okp p m
  ·obtain ⟨k', hk'⟩ : ∃ k', k = k' + p.length + 1 := ⟨k - p.length - 1, by omega⟩; have h0 := is_l0_all p hn p.length k' 0 (by omega) (fun m _ h => hok m h); rw [show ((0 : Nat) : Int) = 0 from rfl] at h0; rw [hk', h0]; obtain ⟨r, hr, hi⟩ := is_l1 p hn hok p.length k' 0 (by omega) (by omega); rw [show ((0 : Nat) : Int) = 0 from rfl] at hr; rw [hr, Option.bind_some]
   have : r = good p := by
    rw [Bool.eq_iff_iff, hi, good_iff p hn]; exact ⟨fun h => ⟨hok, fun m hm => h m (by omega) hm⟩, fun h m _ hm => h.2 m hm⟩
   rw [this]
  have h0 := is_l0_not p hn p.length k 0 (by omega) (by omega) (fun h => hok fun m hm => h m (by omega) hm); rw [show ((0 : Nat) : Int) = 0 from rfl] at h0; rw [h0, Option.bind_some]
  cases hg : good p with
  | false => rfl
  | true => exact absurd ((good_iff p hn).1 hg).1 hok
 rw [if_neg (by omega)]; (have : good p = false := by unfold good; simp [hn]); rw [this]
def iter (f : Nat → Nat) : Nat → Nat → Nat
 | 0, x => x
 | e + 1, x => iter f e (f x)
theorem iter_succ (f : Nat → Nat) (e : Nat) : ∀ x, iter f (e + 1) x = f (iter f e x) := by
 induction e with
 | zero => intro x; rfl
 | succ e ih => intro x; show iter f (e + 1) (f x) = _; rw [ih]; rfl
theorem iter_lt {f : Nat → Nat} {n : Nat} (h : ∀ x, x < n → f x < n) (e : Nat) : ∀ x, x < n → iter f e x < n := by
 induction e with
 | zero => intro x hx; exact hx
 | succ e ih => intro x hx; exact ih _ (h x hx)
theorem pigeon : ∀ (n : Nat) (g : Nat → Nat), (∀ e, e ≤ n → g e < n) → ∃ a b, a < b ∧ b ≤ n ∧ g a = g b := by
 intro n
 induction n with
 | zero => intro g h; exact absurd (h 0 (Nat.le_refl _)) (by omega)
 | succ n ih =>
  intro g h
  by_cases hex : ∃ e, e ≤ n ∧ g e = g (n + 1)
  ·obtain ⟨e, h1, h2⟩ := hex; exact ⟨e, n + 1, by omega, Nat.le_refl _, h2⟩
  have hne : ∀ e, e ≤ n → g e ≠ g (n + 1) := fun e h1 h2 => hex ⟨e, h1, h2⟩; have hlast := h (n + 1) (Nat.le_refl _)
  obtain ⟨a, b, hab, hb, he⟩ := ih (fun e => if g e = n then g (n + 1) else g e) (fun e he => by
   have h1 := h e (by omega)
   have h2 := hne e he
   show (if g e = n then g (n + 1) else g e) < n
   split <;> omega)
  have ha' := hne a (by omega); have hb' := hne b hb; refine ⟨a, b, hab, by omega, ?_⟩
  split at he <;> split at he <;> omega
theorem least {Pr : Nat → Prop} (dec : ∀ n, Decidable (Pr n)) (n : Nat) : Pr n → ∃ m, m ≤ n ∧ Pr m ∧ ∀ e, e < m → ¬ Pr e := by
 induction n using Nat.strongRecOn with
 | _ n ih =>
  intro h
  by_cases hex : ∃ e, e < n ∧ Pr e
  ·obtain ⟨e, he, hp⟩ := hex; obtain ⟨m, h1, h2, h3⟩ := ih e he hp; exact ⟨m, by omega, h2, h3⟩
  exact ⟨n, Nat.le_refl _, h, fun e he hp => hex ⟨e, he, hp⟩⟩
theorem comes_back {f : Nat → Nat} {n : Nat} (hf : ∀ x, x < n → f x < n) (inj : ∀ x y, x < n → y < n → f x = f y → x = y) (s : Nat) (hs : s < n) :
  ∃ m, 1 ≤ m ∧ m ≤ n ∧ iter f m s = s ∧ ∀ e, 1 ≤ e → e < m → iter f e s ≠ s := by
 obtain ⟨a, b, hab, hb, he⟩ := pigeon n (fun e => iter f e s) (fun e _ => iter_lt hf e s hs)
 have back : ∀ a b, a < b → iter f a s = iter f b s → iter f (b - a) s = s := by
  intro a
  induction a with
  | zero => intro b _ h; exact h.symm
  | succ a ih =>
   intro b hab h; obtain ⟨b, rfl⟩ : ∃ c, b = c + 1 := ⟨b - 1, by omega⟩; rw [iter_succ, iter_succ] at h; have := ih b (by omega) (inj _ _ (iter_lt hf a s hs) (iter_lt hf b s hs) h); rw [show b + 1 - (a + 1) = b - a by omega]; exact this
 have h0 := back a b hab he; obtain ⟨m, h1, ⟨h2, h3⟩, h4⟩ := least (Pr := fun m => 1 ≤ m ∧ iter f m s = s) (fun m => inferInstance) (b - a) ⟨by omega, h0⟩; exact ⟨m, h2, by omega, h3, fun e he1 he2 h => h4 e he2 ⟨he1, h⟩⟩

/-- so many steps of two points each -/
def flat (P Q : Nat → Nat) : Nat → Nat → List Nat
 | 0, _ => []
 | d + 1, c => c :: P c :: flat P Q d (Q (P c))
/-- the walk round a curve -/
def wayN (P Q : Nat → Nat) (s : Nat) : Nat → Nat → List Nat
 | 0, _ => []
 | d + 1, c => c :: P c :: (if Q (P c) = s then [] else wayN P Q s d (Q (P c)))
theorem wayN_flat (P Q : Nat → Nat) (s : Nat) (d : Nat) : ∀ (m c : Nat), d + 1 ≤ m → iter (fun x => Q (P x)) (d + 1) c = s → (∀ e, 1 ≤ e → e ≤ d → iter (fun x => Q (P x)) e c ≠ s) → wayN P Q s m c = flat P Q (d + 1) c := by
 induction d with
 | zero =>
  intro m c hm h _; obtain ⟨m, rfl⟩ : ∃ k, m = k + 1 := ⟨m - 1, by omega⟩; have h' : Q (P c) = s := h; simp [wayN, flat, h']
 | succ d ih =>
  intro m c hm h hne; obtain ⟨m, rfl⟩ : ∃ k, m = k + 1 := ⟨m - 1, by omega⟩; have h1 : Q (P c) ≠ s := hne 1 (by omega) (by omega); rw [wayN, if_neg h1, ih m (Q (P c)) (by omega) h (fun e h2 h3 => hne (e + 1) (by omega) (by omega))]; rfl
def wayOf (P Q : Nat → Nat) (n s : Nat) : List Nat := wayN P Q s n s

/-- two systems of as many points -/
structure Two (P Q : Nat → Nat) (n : Nat) : Prop where
 p : Sys P n
 q : Sys Q n
 pr : ∀ i, i < n → P i < n
 qr : ∀ i, i < n → Q i < n
theorem Two.inj {P Q : Nat → Nat} {n : Nat} (h : Two P Q n) : ∀ x y, x < n → y < n → Q (P x) = Q (P y) → x = y := by
 intro x y hx hy he; have h1 := h.q.inv (P x) (h.pr x hx); have h2 := h.q.inv (P y) (h.pr y hy); rw [he, h2] at h1; have h3 := h.p.inv x hx; have h4 := h.p.inv y hy; rw [← h1, h4] at h3; exact h3.symm
theorem Two.period {P Q : Nat → Nat} {n : Nat} (h : Two P Q n) (s : Nat) (hs : s < n) : ∃ m, 1 ≤ m ∧ m ≤ n ∧ iter (fun x => Q (P x)) m s = s ∧ (∀ e, 1 ≤ e → e < m → iter (fun x => Q (P x)) e s ≠ s) ∧ wayOf P Q n s = flat P Q m s := by
 obtain ⟨m, h1, h2, h3, h4⟩ := comes_back (f := fun x => Q (P x)) (fun x hx => h.qr _ (h.pr _ hx)) h.inj s hs; refine ⟨m, h1, h2, h3, h4, ?_⟩; obtain ⟨m, rfl⟩ : ∃ k, m = k + 1 := ⟨m - 1, by omega⟩; exact wayN_flat P Q s m n s h2 h3 (fun e h5 h6 => h4 e h5 (by omega))
theorem flat_length (P Q : Nat → Nat) (d : Nat) : ∀ c, (flat P Q d c).length = 2 * d := by
 induction d with
 | zero => intro c; rfl
 | succ d ih => intro c; simp [flat, ih]; omega
theorem flat_lt {P Q : Nat → Nat} {n : Nat} (h : Two P Q n) (d : Nat) : ∀ c, c < n → ∀ x ∈ flat P Q d c, x < n := by
 induction d with
 | zero => intro c _ x hx; simp [flat] at hx
 | succ d ih =>
  intro c hc x hx; simp only [flat, List.mem_cons] at hx
  rcases hx with rfl | rfl | hx
  ·exact hc
  ·exact h.pr _ hc
  exact ih _ (h.qr _ (h.pr _ hc)) x hx
theorem Two.way_lt {P Q : Nat → Nat} {n : Nat} (h : Two P Q n) (s : Nat) (hs : s < n) : ∀ x ∈ wayOf P Q n s, x < n := by
 obtain ⟨m, _, _, _, _, e⟩ := h.period s hs; rw [e]; exact flat_lt h m s hs
theorem Two.way_self {P Q : Nat → Nat} {n : Nat} (h : Two P Q n) (s : Nat) (hs : s < n) : s ∈ wayOf P Q n s := by
 obtain ⟨m, h1, _, _, _, e⟩ := h.period s hs; obtain ⟨m, rfl⟩ : ∃ k, m = k + 1 := ⟨m - 1, by omega⟩; rw [e]; simp [flat]
theorem Two.way_length {P Q : Nat → Nat} {n : Nat} (h : Two P Q n) (s : Nat) (hs : s < n) : 2 ≤ (wayOf P Q n s).length ∧ (wayOf P Q n s).length ≤ 2 * n := by
 obtain ⟨m, h1, h2, _, _, e⟩ := h.period s hs; rw [e, flat_length]; omega

def ints (l : List Nat) : List Int := l.map fun (x : Nat) => (x : Int)
theorem ints_length (l : List Nat) : (ints l).length = l.length := by simp [ints]
theorem ints_append (a b : List Nat) : ints (a ++ b) = ints a ++ ints b := by simp [ints]
theorem rd_ints (l : List Nat) (i : Nat) (h : i < l.length) : rd (ints l) (i : Int) = (l[i] : Int) := by
 rw [rd_get (by rw [ints_length]; exact h)]; simp [ints]

/-- what a pair of lists is -/
structure Pair (p q : List Int) : Prop where
 gp : good p = true
 gq : good q = true
 len : p.length = q.length
theorem good_len {p : List Int} (h : good p = true) : p.length ≤ 12 ∧ inr p = true := by
 unfold good at h; simp only [Bool.and_eq_true, decide_eq_true_eq] at h; exact ⟨h.2.1, h.2.2.1⟩
theorem good_sys {p : List Int} (h : good p = true) : Sys (qof p) p.length := by
 have h3 := (good_len h).2; unfold good at h; simp only [Bool.and_eq_true, decide_eq_true_eq] at h; exact (sys_iff_scan (fun i hi => (inr_get h3 i hi).2)).2 ⟨h.1, h.2.2.2⟩
theorem Pair.two {p q : List Int} (h : Pair p q) : Two (qof p) (qof q) p.length :=
 ⟨good_sys h.gp, h.len ▸ good_sys h.gq, fun i hi => (inr_get (good_len h.gp).2 i hi).2, fun i hi => by have := (inr_get (good_len h.gq).2 i (by rw [← h.len]; exact hi)).2; rw [h.len]; exact this⟩
theorem Pair.rp {p q : List Int} (h : Pair p q) (i : Nat) (hi : i < p.length) : rd p (i : Int) = (qof p i : Int) := (inr_get (good_len h.gp).2 i hi).1
theorem Pair.rq {p q : List Int} (h : Pair p q) (i : Nat) (hi : i < p.length) : rd q (i : Int) = (qof q i : Int) := (inr_get (good_len h.gq).2 i (by rw [← h.len]; exact hi)).1

theorem sway_l0 {p q : List Int} (h : Pair p q) (s : Nat) (d : Nat) : ∀ (k c : Nat) (acc : List Nat), d < k → c < p.length → acc.length + 2 * d ≤ 1000 → iter (fun x => qof q (qof p x)) d c = s → (∀ e, e < d → iter (fun x => qof q (qof p x)) e c ≠ s) →
  spec_meWay.l0 k (s : Int) (ints acc) (c : Int) p q = some (ints (acc ++ flat (qof p) (qof q) d c)) := by
 induction d with
 | zero =>
  intro k c acc hk hc ha he _; obtain ⟨k, rfl⟩ : ∃ m, k = m + 1 := ⟨k - 1, by omega⟩; have he' : c = s := he; rw [spec_meWay.l0, if_pos (by omega)]; simp [flat]
 | succ d ih =>
  intro k c acc hk hc ha he hne; obtain ⟨k, rfl⟩ : ∃ m, k = m + 1 := ⟨k - 1, by omega⟩; have h0 : c ≠ s := hne 0 (by omega); have t := h.two; have hp := t.pr c hc; have hq := t.qr _ hp; rw [spec_meWay.l0, if_neg (by omega), if_pos (by omega), if_pos (by omega), h.rp c hc, Option.bind_some, if_pos (by rw [ints_length]; simp; omega), if_pos (by omega), if_pos (by have := h.len; omega), h.rq _ hp]; (have e : ints acc ++ [(c : Int), (qof p c : Int)] = ints (acc ++ [c, qof p c]) := by rw [ints_append]; rfl); rw [e, ih k (qof q (qof p c)) (acc ++ [c, qof p c]) (by omega) hq (by simp; omega) he (fun e he => hne (e + 1) (by omega))]; simp [flat]
theorem sway_ev {p q : List Int} (h : Pair p q) (s : Nat) (hs : s < p.length) (k : Nat) (hk : 20 ≤ k) : spec_meWay.f k p q (s : Int) = some (ints (wayOf (qof p) (qof q) p.length s)) := by
 have t := h.two; have hn := (good_len h.gp).1; obtain ⟨m, h1, h2, h3, h4, h5⟩ := t.period s hs; obtain ⟨m, rfl⟩ : ∃ c, m = c + 1 := ⟨m - 1, by omega⟩; have hp := t.pr s hs; have hq := t.qr _ hp; unfold spec_meWay.f; rw [if_pos (by omega), if_pos (by omega), h.rp s hs, if_pos (by omega), if_pos (by have := h.len; omega), h.rq _ hp, h5]; have := sway_l0 h s m k (qof q (qof p s)) [s, qof p s] (by omega) hq (by simp; omega) h3 (fun e he => h4 (e + 1) (by omega) (by omega)); have e : ([(s : Int), (qof p s : Int)] : List Int) = ints [s, qof p s] := rfl; rw [e, this]; rfl
theorem iway_l0 {p q : List Int} (h : Pair p q) (s : Nat) (d : Nat) : ∀ (k c : Nat) (acc : List Nat), d < k → c < p.length → acc.length + 2 * d + 2 ≤ 1000 → iter (fun x => qof q (qof p x)) (d + 1) c = s → (∀ e, 1 ≤ e → e ≤ d → iter (fun x => qof q (qof p x)) e c ≠ s) →
  impl_Meander_way.l0 k (s : Int) (ints acc) (c : Int) p q = some (ints (acc ++ flat (qof p) (qof q) (d + 1) c)) := by
 induction d with
 | zero =>
  intro k c acc hk hc ha he _; obtain ⟨k, rfl⟩ : ∃ m, k = m + 1 := ⟨k - 1, by omega⟩; have t := h.two; have hp := t.pr c hc; have he' : qof q (qof p c) = s := he; rw [impl_Meander_way.l0, if_pos (by omega), if_pos (by omega), h.rp c hc, Option.bind_some, if_pos (by rw [ints_length]; simp; omega), Option.bind_some, if_pos (by omega), if_pos (by have := h.len; omega), h.rq _ hp, if_pos (by omega)]; simp [flat, ints]
 | succ d ih =>
  intro k c acc hk hc ha he hne; obtain ⟨k, rfl⟩ : ∃ m, k = m + 1 := ⟨k - 1, by omega⟩; have t := h.two; have hp := t.pr c hc; have hq := t.qr _ hp; have h0 : qof q (qof p c) ≠ s := hne 1 (by omega) (by omega); rw [impl_Meander_way.l0, if_pos (by omega), if_pos (by omega), h.rp c hc, Option.bind_some, if_pos (by rw [ints_length]; simp; omega), Option.bind_some, if_pos (by omega), if_pos (by have := h.len; omega), h.rq _ hp, if_neg (by omega)]; (have e : ints acc ++ [(c : Int), (qof p c : Int)] = ints (acc ++ [c, qof p c]) := by rw [ints_append]; rfl); rw [e, ih k (qof q (qof p c)) (acc ++ [c, qof p c]) (by omega) hq (by simp; omega) he (fun e h1 h2 => hne (e + 1) (by omega) (by omega))]; simp [flat]
theorem iway_ev {p q : List Int} (h : Pair p q) (s : Nat) (hs : s < p.length) (k : Nat) (hk : 20 ≤ k) : impl_Meander_way.f k p q (s : Int) = some (ints (wayOf (qof p) (qof q) p.length s)) := by
 have hn := (good_len h.gp).1; obtain ⟨m, h1, h2, h3, h4, h5⟩ := h.two.period s hs; obtain ⟨m, rfl⟩ : ∃ c, m = c + 1 := ⟨m - 1, by omega⟩; unfold impl_Meander_way.f; have := iway_l0 h s m k s [] (by omega) hs (by simp; omega) h3 (fun e h6 h7 => h4 e h6 (by omega)); rw [h5]
 simpa [ints] using this
def paint (x : List Int) (w : List Nat) (c : Int) : List Int := w.foldl (fun x j => x.set j c) x
theorem paint_length (w : List Nat) (c : Int) : ∀ x, (paint x w c).length = x.length := by
 induction w with
 | nil => intro x; rfl
 | cons a w ih => intro x; show (paint (x.set a c) w c).length = _; rw [ih]; simp
theorem paint_get (w : List Nat) (c : Int) (j : Nat) : ∀ x : List Int, j < x.length → (paint x w c).getD j 0 = if j ∈ w then c else x.getD j 0 := by
 induction w with
 | nil => intro x hj; simp [paint]
 | cons a w ih =>
  intro x hj; show (paint (x.set a c) w c).getD j 0 = _; rw [ih _ (by simpa using hj)]
  by_cases h : j ∈ w
  ·simp [h]
  by_cases e : a = j
  ·subst e; simp [h, List.getD_eq_getElem?_getD, hj]
  have : j ≠ a := fun e2 => e e2.symm; simp [h, this, List.getD_eq_getElem?_getD, List.getElem?_set, e]
/-- the colours from point i on -/
def outer (P Q : Nat → Nat) (n : Nat) : Nat → Nat → List Int → Nat → List Int × Nat
 | 0, _, x, c => (x, c)
 | d + 1, i, x, c => if 0 ≤ x.getD i 0 then outer P Q n d (i + 1) x c else outer P Q n d (i + 1) (paint x (wayOf P Q n i) (c : Int)) (c + 1)
def colours (P Q : Nat → Nat) (n : Nat) : List Int × Nat := outer P Q n n 0 (List.replicate n (-1)) 0

structure CInv (P Q : Nat → Nat) (n i : Nat) (x : List Int) (c : Nat) : Prop where
 len : x.length = n
 lo : ∀ j, j < n → -1 ≤ x.getD j 0
 hi : ∀ j, j < n → x.getD j 0 ≤ (c : Int) - 1
 top : c = 0 ∨ ∃ j, j < n ∧ x.getD j 0 = (c : Int) - 1
 done : ∀ j, j < i → j < n → 0 ≤ x.getD j 0
 none : c = 0 → i = 0
 one : c = 1 → ∀ j, j < n → 0 ≤ x.getD j 0 → j ∈ wayOf P Q n 0
 bound : c ≤ i
theorem outer_inv {P Q : Nat → Nat} {n : Nat} (t : Two P Q n) (d : Nat) : ∀ i x c, i + d = n → CInv P Q n i x c → CInv P Q n n (outer P Q n d i x c).1 (outer P Q n d i x c).2 := by
 induction d with
 | zero =>
  intro i x c hi h; (obtain rfl : i = n := by omega); exact h
 | succ d ih =>
  intro i x c hi h; (have hin : i < n := by omega); simp only [outer]
  by_cases hx : 0 ≤ x.getD i 0
  ·rw [if_pos hx]
   refine ih (i + 1) x c (by omega) ⟨h.len, h.lo, h.hi, h.top, fun j hj hjn => ?_, fun hc => ?_, h.one, by have := h.bound; omega⟩
   ·by_cases e : j = i
    ·subst e; exact hx
    exact h.done j (by omega) hjn
   have := h.hi i hin; omega
  rw [if_neg hx]; have hw := t.way_self i hin; have hg : ∀ j, j < n → (paint x (wayOf P Q n i) (c : Int)).getD j 0 = if j ∈ wayOf P Q n i then (c : Int) else x.getD j 0 := fun j hj => paint_get _ _ j x (by rw [h.len]; exact hj); have htop : (paint x (wayOf P Q n i) (c : Int)).getD i 0 = ((c + 1 : Nat) : Int) - 1 := by rw [hg i hin, if_pos hw]; omega
  refine ih (i + 1) _ (c + 1) (by omega) ⟨by rw [paint_length]; exact h.len, fun j hj => ?_, fun j hj => ?_, .inr ⟨i, hin, htop⟩, fun j hj hjn => ?_, fun hc => by omega, fun hc j hj hjx => ?_, by have := h.bound; omega⟩
  ·rw [hg j hj]
   split
   ·omega
   exact h.lo j hj
  ·rw [hg j hj]; have := h.hi j hj
   split <;> omega
  ·rw [hg j hjn]
   split
   ·omega
   by_cases e : j = i
   ·subst e; rename_i hn; exact absurd hw hn
   exact h.done j (by omega) hjn
  (obtain rfl : c = 0 := by omega); have hi0 := h.none rfl; subst hi0; rw [hg j hj] at hjx
  split at hjx
  ·assumption
  have := h.hi j hj; omega
theorem colours_inv {P Q : Nat → Nat} {n : Nat} (t : Two P Q n) : CInv P Q n n (colours P Q n).1 (colours P Q n).2 := by
 have h0 : CInv P Q n 0 (List.replicate n (-1)) 0 := by
  refine ⟨by simp, fun j hj => ?_, fun j hj => ?_, .inl rfl, fun j hj => by omega, fun _ => rfl, fun hc => by omega, Nat.le_refl _⟩
  ·simp [List.getD_eq_getElem?_getD, hj]
  simp [List.getD_eq_getElem?_getD, hj]
 exact outer_inv t n 0 _ 0 (by omega) h0
/-- a pair of one curve: it goes through every point -/
theorem one_curve {P Q : Nat → Nat} {n : Nat} (t : Two P Q n) (h : (colours P Q n).2 = 1) : 0 < n ∧ ∀ j, j < n → j ∈ wayOf P Q n 0 := by
 have hi := colours_inv t; refine ⟨?_, fun j hj => hi.one h j hj (hi.done j hj hj)⟩
 rcases hi.top with h0 | ⟨j, hj, _⟩
 ·omega
 omega

theorem rd_getD (x : List Int) (j : Nat) : rd x (j : Int) = x.getD j 0 := rd_nat x j
theorem scol_l2 {p q : List Int} (n i : Nat) (c : Int) (w : List Nat) (hw : ∀ x ∈ w, x < n) (hlw : w.length ≤ 1000) (d : Nat) : ∀ (k j : Nat) (x : List Int), j + d = w.length → x.length = n →
  spec_meColours.l2 (k + d + 1) x c (n : Int) (i : Int) (ints w) (w.length : Int) (j : Int) p q = spec_meColours.l1 k (paint x (w.drop j) c) (wrap64 (c + 1)) (n : Int) (wrap64 ((i : Int) + 1)) p q := by
 induction d with
 | zero =>
  intro k j x hj hx; rw [spec_meColours.l2, if_neg (by omega), List.drop_of_length_le (by omega)]; rfl
 | succ d ih =>
  intro k j x hj hx; (have hlt : j < w.length := by omega); have hwj := hw w[j] (List.getElem_mem hlt); rw [show k + (d + 1) + 1 = (k + d + 1) + 1 by omega, spec_meColours.l2, if_pos (by omega), if_pos (by omega), if_pos (by rw [ints_length]; omega), rd_ints w j hlt, if_pos (by omega), if_pos (by omega), Int.toNat_natCast, wrap_succ (by omega), ih k (j + 1) _ (by omega) (by simpa using hx), List.drop_eq_getElem_cons hlt]; rfl
theorem icol_l1 {p q : List Int} (n i : Nat) (c : Int) (w : List Nat) (hw : ∀ x ∈ w, x < n) (hlw : w.length ≤ 1000) (d : Nat) : ∀ (k j : Nat) (x : List Int), j + d = w.length → x.length = n →
  impl_Meander_curves.l1 (k + d + 1) x c (n : Int) (i : Int) (ints w) (w.length : Int) (j : Int) p q = impl_Meander_curves.l0 k (paint x (w.drop j) c) (wrap64 (c + 1)) (n : Int) (wrap64 ((i : Int) + 1)) p q := by
 induction d with
 | zero =>
  intro k j x hj hx; rw [impl_Meander_curves.l1, if_neg (by omega), List.drop_of_length_le (by omega)]; rfl
 | succ d ih =>
  intro k j x hj hx; (have hlt : j < w.length := by omega); have hwj := hw w[j] (List.getElem_mem hlt); rw [show k + (d + 1) + 1 = (k + d + 1) + 1 by omega, impl_Meander_curves.l1, if_pos (by omega), if_pos (by omega), if_pos (by rw [ints_length]; omega), rd_ints w j hlt, if_pos (by omega), if_pos (by omega), Int.toNat_natCast, wrap_succ (by omega), ih k (j + 1) _ (by omega) (by simpa using hx), List.drop_eq_getElem_cons hlt]; rfl
theorem both_l {p q : List Int} (h : Pair p q) (d : Nat) : ∀ (k i c : Nat) (x : List Int), i + d = p.length → x.length = p.length → c ≤ i → 60 * d + 60 ≤ k →
  spec_meColours.l1 k x (c : Int) (p.length : Int) (i : Int) p q = some (outer (qof p) (qof q) p.length d i x c).1 ∧
  impl_Meander_curves.l0 k x (c : Int) (p.length : Int) (i : Int) p q = some ((outer (qof p) (qof q) p.length d i x c).1, ((outer (qof p) (qof q) p.length d i x c).2 : Int)) := by
 induction d with
 | zero =>
  intro k i c x hi hx hc hk; obtain ⟨k, rfl⟩ : ∃ m, k = m + 1 := ⟨k - 1, by omega⟩; rw [spec_meColours.l1, impl_Meander_curves.l0, if_neg (by omega), if_neg (by omega)]; exact ⟨rfl, rfl⟩
 | succ d ih =>
  intro k i c x hi hx hc hk; have hn := (good_len h.gp).1; (have hin : i < p.length := by omega); obtain ⟨k, rfl⟩ : ∃ m, k = m + 1 := ⟨k - 1, by omega⟩; rw [spec_meColours.l1, impl_Meander_curves.l0]; simp only [outer]; (have c1 : (i : Int) < (p.length : Int) := by omega); (have c2 : (0 : Int) ≤ (i : Int) := by omega); (have c3 : (i : Int) < (x.length : Int) := by omega); simp only [c1, c2, c3, if_true, rd_getD]
  by_cases hx0 : 0 ≤ x.getD i 0
  ·have : x.getD i 0 ≥ 0 := hx0; simp only [hx0, this, if_true]; rw [wrap_succ (by omega)]; exact ih k (i + 1) c x (by omega) hx (by omega) (by omega)
  have : ¬ x.getD i 0 ≥ 0 := hx0; simp only [hx0, this, if_false]; have hlw := h.two.way_length i hin; have hw := h.two.way_lt i hin; rw [sway_ev h i hin k (by omega), iway_ev h i hin k (by omega), Option.bind_some, Option.bind_some]; obtain ⟨w, hwe⟩ : ∃ w, w = wayOf (qof p) (qof q) p.length i := ⟨_, rfl⟩; rw [← hwe] at hlw hw ⊢; obtain ⟨k', hk'⟩ : ∃ k', k = k' + w.length + 1 := ⟨k - w.length - 1, by omega⟩; have s2 := scol_l2 (p := p) (q := q) p.length i c w hw (by omega) w.length k' 0 x (by omega) hx; have i2 := icol_l1 (p := p) (q := q) p.length i c w hw (by omega) w.length k' 0 x (by omega) hx; rw [show ((0 : Nat) : Int) = 0 from rfl, List.drop_zero, wrap_succ (by omega), wrap_succ (by omega)] at s2 i2; rw [ints_length, hk', s2, i2]; exact ih k' (i + 1) (c + 1) _ (by omega) (by rw [paint_length]; exact hx) (by omega) (by omega)
theorem scol_l0 {p q : List Int} (n : Nat) (hn : n ≤ 1000) (d : Nat) : ∀ (k i : Nat), i + d = n →
  spec_meColours.l0 (k + d + 1) (List.replicate i (-1) ++ List.replicate d 0) (n : Int) (i : Int) p q = spec_meColours.l1 k (List.replicate n (-1)) 0 (n : Int) 0 p q := by
 induction d with
 | zero =>
  intro k i hi; (obtain rfl : i = n := by omega); rw [spec_meColours.l0, if_neg (by omega)]; simp
 | succ d ih =>
  intro k i hi; rw [show k + (d + 1) + 1 = (k + d + 1) + 1 by omega, spec_meColours.l0, if_pos (by omega), if_pos (by omega), if_pos (by simp; omega), Int.toNat_natCast, wrap_succ (by omega)]
  have e : (List.replicate i (-1 : Int) ++ List.replicate (d + 1) 0).set i (-1) = List.replicate (i + 1) (-1) ++ List.replicate d 0 := by
   rw [List.set_append_right (h := by simp), List.length_replicate, Nat.sub_self, List.replicate_succ, List.set_cons_zero, List.replicate_succ', List.append_assoc]; rfl
  rw [e]; exact ih k (i + 1) (by omega)
theorem scolours_ev {p q : List Int} (h : Pair p q) (k : Nat) (hk : 900 ≤ k) : spec_meColours.f k p q = some (colours (qof p) (qof q) p.length).1 := by
 have hn := (good_len h.gp).1; unfold spec_meColours.f; rw [if_pos (by omega), if_pos (by omega), Option.bind_some, Int.toNat_natCast]; obtain ⟨k', hk'⟩ : ∃ k', k = k' + p.length + 1 := ⟨k - p.length - 1, by omega⟩; have := scol_l0 (p := p) (q := q) p.length (by omega) p.length k' 0 (by omega); simp only [List.replicate_zero, List.nil_append] at this; rw [show ((0 : Nat) : Int) = 0 from rfl] at this; rw [List.length_replicate, hk', this]; exact (both_l h p.length k' 0 0 _ (by omega) (by simp) (by omega) (by omega)).1
theorem icurves_ev {p q : List Int} (h : Pair p q) (k : Nat) (hk : 900 ≤ k) : impl_Meander_curves.f k p q = some ((colours (qof p) (qof q) p.length).1, ((colours (qof p) (qof q) p.length).2 : Int)) := by
 have hn := (good_len h.gp).1; unfold impl_Meander_curves.f slices_Repeat_int_int.f; rw [if_pos ⟨rfl, by omega, by omega⟩, Option.bind_some, Int.toNat_natCast]; have := (both_l h p.length k 0 0 (List.replicate p.length (-1)) (by omega) (by simp) (by omega) (by omega)).2; rw [List.length_replicate]; exact this
theorem most_val (a b : Int) : spec_l1Most.f a b = some (if a > b then a else b) := by
 unfold spec_l1Most.f
 split <;> rfl
theorem count_l0 (x : List Int) (c : Nat) (hlx : x.length ≤ 1000) (hc : c ≤ 1000) (hi : ∀ j, j < x.length → x.getD j 0 ≤ (c : Int) - 1) (lo : ∀ j, j < x.length → -1 ≤ x.getD j 0) (d : Nat) : ∀ (k i : Nat) (m : Int), i + d = x.length → d < k → -1 ≤ m → m ≤ (c : Int) - 1 →
  (m = (c : Int) - 1 ∨ ∃ j, i ≤ j ∧ j < x.length ∧ x.getD j 0 = (c : Int) - 1) → spec_meCount.l0 k m x (x.length : Int) (i : Int) = some (c : Int) := by
 induction d with
 | zero =>
  intro k i m hid hk h1 h2 h3; obtain ⟨k, rfl⟩ : ∃ m, k = m + 1 := ⟨k - 1, by omega⟩; rw [spec_meCount.l0, if_neg (by omega)]
  rcases h3 with h3 | ⟨j, h4, h5, _⟩
  ·rw [wrap_id (by omega) (by omega), h3]; congr 1; omega
  omega
 | succ d ih =>
  intro k i m hid hk h1 h2 h3; obtain ⟨k, rfl⟩ : ∃ m, k = m + 1 := ⟨k - 1, by omega⟩; rw [spec_meCount.l0, if_pos (by omega), if_pos (by omega), if_pos (by omega), most_val, Option.bind_some, wrap_succ (by omega), rd_getD]; have hx := hi i (by omega); have hl := lo i (by omega); refine ih k (i + 1) _ (by omega) (by omega) (by split <;> omega) (by split <;> omega) ?_
  rcases h3 with h3 | ⟨j, h4, h5, h6⟩
  ·left; split <;> omega
  by_cases e : j = i
  ·subst e; left; split <;> omega
  right; exact ⟨j, by omega, h5, h6⟩
theorem count_ev {p q : List Int} (h : Pair p q) (k : Nat) (hk : 900 ≤ k) : spec_meCount.f k p q = some ((colours (qof p) (qof q) p.length).2 : Int) := by
 have hn := (good_len h.gp).1; have inv := colours_inv h.two; unfold spec_meCount.f; rw [scolours_ev h k hk, Option.bind_some]; have hb := inv.bound
 have := count_l0 (colours (qof p) (qof q) p.length).1 (colours (qof p) (qof q) p.length).2 (by rw [inv.len]; omega) (by omega) (fun j hj => inv.hi j (by rw [← inv.len]; exact hj)) (fun j hj => inv.lo j (by rw [← inv.len]; exact hj)) p.length k 0 (-1) (by rw [inv.len]; omega) (by omega) (by omega) (by omega) (by
  rcases inv.top with h0 | ⟨j, hj, e⟩
  ·left; omega
  right; exact ⟨j, by omega, by rw [inv.len]; exact hj, e⟩)
 exact this
/-- is a pair one curve -/
def single (p q : List Int) : Bool := decide ((colours (qof p) (qof q) p.length).2 = 1)
theorem isOne_ev {p q : List Int} (h : Pair p q) (k : Nat) (hk : 900 ≤ k) : impl_Meander_isOne.f k p q = some (single p q) := by
 unfold impl_Meander_isOne.f impl_Meander_components.f; rw [icurves_ev h k hk, Option.bind_some, Option.bind_some]; unfold single
 by_cases e : (colours (qof p) (qof q) p.length).2 = 1
 ·simp [e]
 (have : ¬ (((colours (qof p) (qof q) p.length).2 : Int) = 1) := by omega); simp [e, this]
theorem count_single {p q : List Int} (h : Pair p q) : ((((colours (qof p) (qof q) p.length).2 : Int)) == 1) = single p q := by
 unfold single
 by_cases e : (colours (qof p) (qof q) p.length).2 = 1
 ·simp [e]
 (have : ¬ (((colours (qof p) (qof q) p.length).2 : Int) = 1) := by omega); simp [e, this]
/-- is this a pair -/
def pairB (p q : List Int) : Bool := good p && (good q && decide (p.length = q.length))
theorem pairB_pair {p q : List Int} (h : pairB p q = true) : Pair p q := by
 unfold pairB at h; simp only [Bool.and_eq_true, decide_eq_true_eq] at h; exact ⟨h.1, h.2.1, h.2.2⟩
theorem len_eq (p q : List Int) : ((p.length : Int) == (q.length : Int)) = decide (p.length = q.length) := by
 by_cases h : p.length = q.length
 ·simp [h]
 (have : ¬ (p.length : Int) = (q.length : Int) := by omega); simp [h, this]
theorem mePair_ev (p q : List Int) (hp : p.length ≤ 1048576) (hq : q.length ≤ 1048576) (k : Nat) (hk : p.length + q.length + 1000 ≤ k) : spec_mePair.f k p q = some (pairB p q) := by
 unfold spec_mePair.f pairB; rw [ahGood_ev p hp k (by omega), ahGood_ev q hq k (by omega), len_eq]; cases good p <;> cases good q <;> simp
theorem isPair_ev (p q : List Int) (k : Nat) (hk : 1000 ≤ k) : impl_IsPair.f k p q = some (pairB p q) := by
 unfold impl_IsPair.f pairB; rw [isSystem_ev p k (by omega), isSystem_ev q k (by omega)]; simp only [len_eq]; cases good p <;> cases good q <;> simp
/-- is this a meander -/
def meander (p q : List Int) : Bool := pairB p q && single p q
theorem peSingle_ev (p q : List Int) (hp : p.length ≤ 1048576) (hq : q.length ≤ 1048576) (k : Nat) (hk : p.length + q.length + 1000 ≤ k) : spec_peSingle.f k p q = some (meander p q) := by
 unfold spec_peSingle.f meander; rw [mePair_ev p q hp hq k hk]
 cases h : pairB p q with
 | false => simp
 | true =>
  have hP := pairB_pair h; rw [Option.bind_some, if_pos rfl, count_ev hP k (by omega), Option.bind_some, count_single hP]; rfl
theorem meander_one {p q : List Int} (h : meander p q = true) : Pair p q ∧ 0 < p.length ∧ ∀ j, j < p.length → j ∈ wayOf (qof p) (qof q) p.length 0 := by
 unfold meander at h; simp only [Bool.and_eq_true] at h; have hP := pairB_pair h.1; have h2 := h.2; unfold single at h2; exact ⟨hP, one_curve hP.two (of_decide_eq_true h2)⟩
/-- the word of a pair -/
def word (p q : List Int) : List Int := ints (wayOf (qof p) (qof q) p.length 0)
theorem perm_ev (a b : List Int) (ha : a.length ≤ 1048576) (hb : b.length ≤ 1048576) (k : Nat) (hk : a.length + b.length + 1000 ≤ k) :
  impl_PermutationOf.f k a b = some (if meander a b = true then (word a b, true) else ([], false)) := by
 unfold impl_PermutationOf.f; rw [isPair_ev a b k (by omega)]; simp only [Option.bind_some]
 cases h : meander a b with
 | false =>
  simp only [Bool.false_eq_true, if_false]; unfold meander at h
  cases h1 : pairB a b with
  | false => simp
  | true =>
   rw [h1, Bool.true_and] at h; rw [if_pos rfl, isOne_ev (pairB_pair h1) k (by omega), h]; rfl
 | true =>
  obtain ⟨hP, h0, _⟩ := meander_one h; have hw2 := iway_ev hP 0 h0 k (by omega); rw [show ((0 : Nat) : Int) = 0 from rfl] at hw2; unfold meander at h; simp only [Bool.and_eq_true] at h; simp only [if_true, hw2, h.1, isOne_ev hP k (by omega : 900 ≤ k), h.2, Option.bind_some]; rfl
theorem word_len {a b : List Int} (h : meander a b = true) : (word a b).length ≤ 24 := by
 obtain ⟨hP, h0, _⟩ := meander_one h; have := (hP.two.way_length 0 h0).2; have hn := (good_len hP.gp).1; unfold word; rw [ints_length]; omega
theorem closedB_even {l : List Int} (h : closedB l = true) : l.length % 2 = 0 := by
 unfold closedB clB at h; simp only [Bool.and_eq_true, decide_eq_true_eq] at h; exact h.2.1.2.1
/-- two joins do not cross -/
def NoX (a b c d : Int) : Prop := ¬ ((min a b < min c d ∧ min c d < max a b ∧ max a b < max c d) ∨ (min c d < min a b ∧ min a b < max c d ∧ max c d < max a b))
theorem crB_no (a b c d : Int) (h1 : a ≠ c) (h2 : a ≠ d) (h3 : b ≠ c) (h4 : b ≠ d) : crB a b c d = false ↔ NoX a b c d := by
 have e : ∀ x, (decide (min a b < x) && decide (x < max a b)) = decide (min a b < x ∧ x < max a b) := fun x => (Bool.decide_and _ _).symm; unfold crB NoX; rw [e, e, bne_eq_false_iff_eq, decide_eq_decide]; omega
theorem NoX.swap {a b c d : Int} (h : NoX a b c d) : NoX c d a b := by unfold NoX at h ⊢; omega
theorem NoX.left {a b c d : Int} (h : NoX a b c d) : NoX b a c d := by unfold NoX at h ⊢; omega
theorem NoX.right {a b c d : Int} (h : NoX a b c d) : NoX a b d c := by unfold NoX at h ⊢; omega
/-- no join of one side crosses another -/
theorem innerF_none (l : List Int) (j : Nat) (d : Nat) : ∀ i, innerF l j d i = none → ∀ e, e < d → i + 2 * e < j → c4 l (i + 2 * e) j = false := by
 induction d with
 | zero => intro i _ e he; omega
 | succ d ih =>
  intro i h e he hj; rw [innerF, if_pos (by omega)] at h
  by_cases c : c4 l i j = true
  ·rw [if_pos c] at h; cases h
  rw [if_neg c] at h
  cases e with
  | zero => simpa using c
  | succ e =>
   have := ih (i + 2) h e (by omega) (by omega); rw [show i + 2 + 2 * e = i + 2 * (e + 1) by omega] at this; exact this
theorem outF_none (l : List Int) (e : Nat) : ∀ j, j + e = l.length → (outF l e j).1 = [] → ∀ i m, j ≤ m → i < m → (m - i) % 2 = 0 → m + 1 < l.length → c4 l i m = false := by
 induction e with
 | zero => intro j hj _ i m h1 h2 h3 h4; omega
 | succ e ih =>
  intro j hj h i m h1 h2 h3 h4; rw [outF] at h
  by_cases c : j + 1 < l.length
  ·rw [if_pos c] at h
   cases hi : innerF l j l.length (j % 2) with
   | some x => rw [hi] at h; cases h
   | none =>
    rw [hi] at h
    by_cases hm : m = j
    ·subst hm; have := innerF_none l m l.length (m % 2) hi (i / 2) (by omega) (by omega); rw [show m % 2 + 2 * (i / 2) = i by omega] at this; exact this
    exact ih (j + 1) (by omega) h i m (by omega) h2 h3 h4
  omega
theorem crs_none {l : List Int} (h : (crs l).1 = []) (i m : Nat) (h2 : i < m) (h3 : (m - i) % 2 = 0) (h4 : m + 1 < l.length) : c4 l i m = false :=
 outF_none l l.length 0 (by omega) h i m (by omega) h2 h3 h4
theorem innerF_of (l : List Int) (j : Nat) (h : ∀ i, i < j → (j - i) % 2 = 0 → c4 l i j = false) (d : Nat) : ∀ i, (i ≤ j → (j - i) % 2 = 0) → innerF l j d i = none := by
 induction d with
 | zero => intro i _; rfl
 | succ d ih =>
  intro i hi; rw [innerF]
  by_cases c : i < j
  ·rw [if_pos c, h i c (hi (by omega)), if_neg (by simp)]; exact ih (i + 2) (fun h => by have := hi (by omega); omega)
  rw [if_neg c]
theorem outF_of (l : List Int) (h : ∀ i m, i < m → (m - i) % 2 = 0 → m + 1 < l.length → c4 l i m = false) (e : Nat) : ∀ j, (outF l e j).1 = [] := by
 induction e with
 | zero => intro j; rfl
 | succ e ih =>
  intro j; rw [outF]
  by_cases c : j + 1 < l.length
  ·rw [if_pos c, innerF_of l j (fun i h1 h2 => h i j h1 h2 c) l.length (j % 2) (fun _ => by omega)]; exact ih (j + 1)
  rw [if_neg c]
theorem crs_of {l : List Int} (h : ∀ i m, i < m → (m - i) % 2 = 0 → m + 1 < l.length → c4 l i m = false) : (crs l).1 = [] := outF_of l h _ _
theorem clF_iff (l : List Int) (d : Nat) : ∀ i, i % 2 = 1 → l.length ≤ i + 2 * d + 1 → (clF l d i = true ↔ ∀ m, i ≤ m → m % 2 = 1 → m + 1 < l.length → crB (l.getD m 0) (l.getD (m + 1) 0) (l.getD (l.length - 1) 0) 0 = false) := by
 induction d with
 | zero => intro i hi hl; rw [clF]; exact ⟨fun _ m h1 h2 h3 => by omega, fun _ => rfl⟩
 | succ d ih =>
  intro i hi hl; rw [clF]
  by_cases c : i + 1 < l.length
  ·rw [if_pos c]
   by_cases x : crB (l.getD i 0) (l.getD (i + 1) 0) (l.getD (l.length - 1) 0) 0 = true
   ·rw [if_pos x]; exact ⟨fun h => (by cases h), fun h => by rw [h i (Nat.le_refl _) hi c] at x; cases x⟩
   rw [if_neg x, ih (i + 2) (by omega) (by omega)]
   constructor
   ·intro h m h1 h2 h3
    by_cases e : m = i
    ·subst e; simpa using x
    exact h m (by omega) h2 h3
   intro h m h1 h2 h3; exact h m (by omega) h2 h3
  rw [if_neg c]; exact ⟨fun _ m h1 h2 h3 => by omega, fun _ => rfl⟩
/-- joins that do not cross, told by their ends' partners, are an arch system -/
theorem sys_of_joins {n : Nat} {w v σ P : Nat → Nat} (hw : ∀ i, i < n → w i < n) (hv : ∀ a, a < n → v a < n) (hvw : ∀ i, i < n → v (w i) = i) (hwv : ∀ a, a < n → w (v a) = a)
  (hσ : ∀ i, i < n → σ i < n) (hσσ : ∀ i, i < n → σ (σ i) = i) (hσne : ∀ i, i < n → σ i ≠ i) (hP : ∀ i, i < n → P (w i) = w (σ i))
  (hX : ∀ i j, i < n → j < n → j ≠ i → j ≠ σ i → NoX (w i) (w (σ i)) (w j) (w (σ j))) : Sys P n ∧ ∀ a, a < n → P a < n := by
 have hPa : ∀ a, a < n → P a = w (σ (v a)) := fun a ha => by
  have := hP (v a) (hv a ha); rw [hwv a ha] at this; exact this
 (have hPlt : ∀ a, a < n → P a < n := fun a ha => by rw [hPa a ha]; exact hw _ (hσ _ (hv a ha))); have inj : ∀ i j, i < n → j < n → w i = w j → i = j := fun i j hi hj h => by rw [← hvw i hi, h, hvw j hj]
 refine ⟨⟨fun a ha h => ?_, fun a ha => ?_, fun a ha b hab hbP => ?_⟩, hPlt⟩
 ·rw [hPa a ha] at h; have h2 := hvw (σ (v a)) (hσ _ (hv a ha)); rw [h] at h2; exact hσne (v a) (hv a ha) h2.symm
 ·rw [hPa a ha, hP _ (hσ _ (hv a ha)), hσσ _ (hv a ha), hwv a ha]
 have hb : b < n := Nat.lt_trans hbP (hPlt a ha)
 have h := hX (v a) (v b) (hv a ha) (hv b hb) (fun e => by
  have := congrArg w e; rw [hwv a ha, hwv b hb] at this; omega) (fun e => by
  have := congrArg w e; rw [hwv b hb, ← hPa a ha] at this; omega)
 rw [hwv a ha, hwv b hb, ← hPa a ha, ← hPa b hb] at h; unfold NoX at h; omega
/-- an arch system's joins do not cross -/
theorem noX_of {a A b B : Nat} (ha : a < A) (hb : b < B) (h1 : a < b → b < A → a ≤ B ∧ B ≤ A) (h2 : b < a → a < B → b ≤ A ∧ A ≤ B) : NoX (a : Int) (A : Int) (b : Int) (B : Int) := by
 unfold NoX
 rintro (⟨c1, c2, c3⟩ | ⟨c1, c2, c3⟩)
 ·have := h1 (by omega) (by omega); omega
 have := h2 (by omega) (by omega); omega
theorem sys_noX {n : Nat} {P : Nat → Nat} (h : Sys P n) (hr : ∀ a, a < n → P a < n) (x y : Nat) (hx : x < n) (hy : y < n) : NoX (x : Int) (P x : Int) (y : Int) (P y : Int) := by
 have up : ∀ x y, x < n → y < n → x < P x → y < P y → NoX (x : Int) (P x : Int) (y : Int) (P y : Int) := fun x y hx hy h1 h2 =>
  noX_of h1 h2 (fun h3 h4 => h.lam x hx y h3 h4) (fun h3 h4 => h.lam y hy x h3 h4)
 have ix := h.inv x hx; have iy := h.inv y hy; have nx := h.ne x hx; have ny := h.ne y hy; have rx := hr x hx; have ry := hr y hy
 by_cases cx : x < P x
 ·by_cases cy : y < P y
  ·exact up x y hx hy cx cy
  have := up x (P y) hx ry cx (by rw [iy]; omega); rw [iy] at this; exact this.right
 by_cases cy : y < P y
 ·have := up (P x) y rx hy (by rw [ix]; omega) cy; rw [ix] at this; exact this.left
 have := up (P x) (P y) rx ry (by rw [ix]; omega) (by rw [iy]; omega); rw [ix, iy] at this; exact this.left.right
/-- an arch joins an even point with an odd one -/
theorem sys_parity {n : Nat} {P : Nat → Nat} (h : Sys P n) (hr : ∀ a, a < n → P a < n) (a : Nat) (ha : a < n) : (P a + a) % 2 = 1 := by
 have key : ∀ d a, a < n → a < P a → P a - a ≤ d → (P a - a) % 2 = 1 := by
  intro d
  induction d with
  | zero => intro a _ h1 h2; omega
  | succ d ih =>
   intro a ha hlt hd
   -- from c on, what lies between is joined pair by pair
   have jump : ∀ e c, a < c → c ≤ P a → P a - c ≤ e → (∀ x, c ≤ x → x < P a → c ≤ P x) → (P a - c) % 2 = 0 := by
    intro e
    induction e with
    | zero => intro c _ h2 h3 _; omega
    | succ e ihe =>
     intro c h1 h2 h3 h4
     by_cases hc : c = P a
     ·omega
     (have hcn : c < n := by have := hr a ha; omega); have hPc := h.lam a ha c h1 (by omega); have hcc := h.ne c hcn; have hic := h.inv c hcn; have hia := h.inv a ha; (have n1 : P c ≠ a := fun e => by rw [e] at hic; omega); (have n2 : P c ≠ P a := fun e => by rw [e, hia] at hic; omega); have h5 := h4 c (Nat.le_refl _) (by omega); (have h6 : c < P c := by omega); have h7 := ih c hcn h6 (by omega)
     have h8 := ihe (P c + 1) (by omega) (by omega) (by omega) (fun x hx1 hx2 => by
      have h9 := h4 x (by omega) hx2
      have hxn : x < n := by have := hr a ha; omega
      have hix := h.inv x hxn
      have m1 : P x ≠ c := fun e => by rw [e] at hix; omega
      have m2 : P x ≠ P c := fun e => by rw [e, hic] at hix; omega
      by_cases hlt2 : P x < P c
      ·have := h.lam c hcn (P x) (by omega) hlt2
       rw [hix] at this; omega
      omega)
     omega
   have hz := jump (P a - (a + 1)) (a + 1) (by omega) (by omega) (Nat.le_refl _) (fun x hx1 hx2 => by
    have hxn : x < n := by have := hr a ha; omega
    have h1 := h.lam a ha x (by omega) hx2
    have hix := h.inv x hxn
    have : P x ≠ a := fun e => by rw [e] at hix; omega
    omega)
   omega
 have hi := h.inv a ha; have hne := h.ne a ha
 by_cases hlt : a < P a
 ·have := key _ a ha hlt (Nat.le_refl _); omega
 have := key _ (P a) (hr a ha) (by rw [hi]; omega) (Nat.le_refl _); rw [hi] at this; omega
theorem getD_set (l : List Int) (a : Nat) (v : Int) (x : Nat) (ha : a < l.length) : (l.set a v).getD x 0 = if x = a then v else l.getD x 0 := by
 rw [List.getD_eq_getElem?_getD, List.getD_eq_getElem?_getD, List.getElem?_set]
 by_cases h : a = x
 ·subst h; rw [if_pos rfl, if_pos ha, if_pos rfl]; rfl
 rw [if_neg h, if_neg (fun e => h e.symm)]
theorem getD_set2 (l : List Int) (a b : Nat) (u v : Int) (x : Nat) (ha : a < l.length) (hb : b < l.length) : ((l.set a u).set b v).getD x 0 = if x = b then v else if x = a then u else l.getD x 0 := by
 rw [getD_set _ _ _ _ (by rw [List.length_set]; exact hb), getD_set _ _ _ _ ha]
/-- the number at a place -/
def wv (l : List Int) (i : Nat) : Nat := (l.getD i 0).toNat
theorem wv_val {l : List Int} (hw : wordB l = true) (i : Nat) (hi : i < l.length) : l.getD i 0 = (wv l i : Int) ∧ wv l i < l.length := by
 have := wordB_in hw i hi; rw [rd_nat] at this; unfold wv; omega
theorem wv_inj {l : List Int} (hw : wordB l = true) (i j : Nat) (hi : i < l.length) (hj : j < l.length) (h : wv l i = wv l j) : i = j := by
 have h1 := (wv_val hw i hi).1; have h2 := (wv_val hw j hj).1; rw [h, ← h2] at h1; unfold wordB at hw; rw [Bool.and_eq_true, decide_eq_true_eq, List.pairwise_iff_getElem] at hw; rw [getD_get l i hi, getD_get l j hj] at h1
 rcases Nat.lt_trichotomy i j with c | c | c
 ·exact absurd h1 (hw.2 i j hi hj c)
 ·exact c
 exact absurd h1.symm (hw.2 j i hj hi c)
structure MeaIs (l p q : List Int) (i : Nat) : Prop where
 lp : p.length = l.length
 lq : q.length = l.length
 at_ : ∀ j, j < i → j % 2 = 0 → p.getD (wv l j) 0 = l.getD (j + 1) 0 ∧ p.getD (wv l (j + 1)) 0 = l.getD j 0 ∧ q.getD (wv l (j + 1)) 0 = l.getD ((j + 2) % l.length) 0 ∧ q.getD (wv l ((j + 2) % l.length)) 0 = l.getD (j + 1) 0
theorem meaV_l0 (l : List Int) (hl : l.length ≤ 12) (hw : wordB l = true) (d : Nat) : ∀ (i : Nat) (p q : List Int), i + 2 * d = l.length → l.length % 2 = 0 → MeaIs l p q i →
  ∃ r s : List Int, MeaIs l r s l.length ∧ ∀ k, d < k → spec_peMeander.l0 k l (l.length : Int) (i : Int) p q = some (r, s) ∧ impl_meanderOf.l0 k l (i : Int) p q = some (r, s) := by
 induction d with
 | zero =>
  intro i p q hi _ hM; refine ⟨p, q, by rw [show l.length = i by omega]; exact hM, fun k hk => ?_⟩; obtain ⟨k, rfl⟩ : ∃ m, k = m + 1 := ⟨k - 1, by omega⟩; rw [spec_peMeander.l0, impl_meanderOf.l0, if_neg (by omega), if_neg (by omega)]; exact ⟨rfl, rfl⟩
 | succ d ih =>
  intro i p q hi hev hM; have e1 : wrap64 ((i : Int) + 1) = ((i + 1 : Nat) : Int) := wrap_succ (by omega); (have e2 : wrap64 ((i : Int) + 2) = ((i + 2 : Nat) : Int) := by rw [wrap_id (by omega) (by omega)]; omega); (have hm : Int.tmod ((i + 2 : Nat) : Int) (l.length : Int) = (((i + 2) % l.length : Nat) : Int) := by rw [Int.tmod_eq_emod_of_nonneg (by omega)]; omega); have hml : (i + 2) % l.length < l.length := Nat.mod_lt _ (by omega)
  have hmm : (i + 2) % l.length = if i + 2 = l.length then 0 else i + 2 := by
   split
   ·rename_i h; rw [h, Nat.mod_self]
   rw [Nat.mod_eq_of_lt (by omega)]
  have ha := wordB_in hw i (by omega); have hb := wordB_in hw (i + 1) (by omega); have hc := wordB_in hw ((i + 2) % l.length) hml; obtain ⟨va, wa⟩ := wv_val hw i (by omega); obtain ⟨vb, wb⟩ := wv_val hw (i + 1) (by omega); obtain ⟨vc, wc⟩ := wv_val hw ((i + 2) % l.length) hml; (have ra : (rd l (i : Int)).toNat = wv l i := by rw [rd_nat]; rfl); (have rb : (rd l ((i + 1 : Nat) : Int)).toNat = wv l (i + 1) := by rw [rd_nat]; rfl); have rc : (rd l (((i + 2) % l.length : Nat) : Int)).toNat = wv l ((i + 2) % l.length) := by rw [rd_nat]; rfl
  obtain ⟨r, s, hr, h⟩ := ih (i + 2) ((p.set (rd l (i : Int)).toNat (rd l ((i + 1 : Nat) : Int))).set (rd l ((i + 1 : Nat) : Int)).toNat (rd l (i : Int))) ((q.set (rd l ((i + 1 : Nat) : Int)).toNat (rd l (((i + 2) % l.length : Nat) : Int))).set (rd l (((i + 2) % l.length : Nat) : Int)).toNat (rd l ((i + 1 : Nat) : Int))) (by omega) hev
   ⟨by simpa using hM.lp, by simpa using hM.lq, fun j hj hj2 => by
    have lp := hM.lp
    have lq := hM.lq
    rw [ra, rb, rc, rd_nat, rd_nat, rd_nat]
    have ne : ∀ x y, x < l.length → y < l.length → x ≠ y → ¬ wv l x = wv l y := fun x y hx hy hxy e => hxy (wv_inj hw x y hx hy e)
    have n1 := ne i (i + 1) (by omega) (by omega) (by omega)
    have n2 := ne ((i + 2) % l.length) (i + 1) hml (by omega) (by rw [hmm]; split <;> omega)
    by_cases hji : j = i
    ·subst hji
     refine ⟨?_, ?_, ?_, ?_⟩
     ·rw [getD_set2 _ _ _ _ _ _ (by omega) (by omega), if_neg n1, if_pos rfl]
     ·rw [getD_set2 _ _ _ _ _ _ (by omega) (by omega), if_pos rfl]
     ·rw [getD_set2 _ _ _ _ _ _ (by omega) (by omega), if_neg (fun e => n2 e.symm), if_pos rfl]
     rw [getD_set2 _ _ _ _ _ _ (by omega) (by omega), if_pos rfl]
    have hlt : j + 2 ≤ i := by omega
    obtain ⟨h1, h2, h3, h4⟩ := hM.at_ j (by omega) hj2
    have hj3 : (j + 2) % l.length = j + 2 := Nat.mod_eq_of_lt (by omega)
    rw [hj3] at h3 h4 ⊢
    have m1 := ne j i (by omega) (by omega) (by omega)
    have m2 := ne j (i + 1) (by omega) (by omega) (by omega)
    have m3 := ne (j + 1) i (by omega) (by omega) (by omega)
    have m4 := ne (j + 1) (i + 1) (by omega) (by omega) (by omega)
    have m5 := ne (j + 1) ((i + 2) % l.length) (by omega) hml (by rw [hmm]; split <;> omega)
    have m6 := ne (j + 2) (i + 1) (by omega) (by omega) (by omega)
    have m7 := ne (j + 2) ((i + 2) % l.length) (by omega) hml (by rw [hmm]; split <;> omega)
    rw [getD_set2 _ _ _ _ _ _ (by omega) (by omega), if_neg m2, if_neg m1, getD_set2 _ _ _ _ _ _ (by omega) (by omega), if_neg m4, if_neg m3,
     getD_set2 _ _ _ _ _ _ (by omega) (by omega), if_neg m5, if_neg m4, getD_set2 _ _ _ _ _ _ (by omega) (by omega), if_neg m7, if_neg m6]
    exact ⟨h1, h2, h3, h4⟩⟩
  refine ⟨r, s, hr, fun k hk => ?_⟩; obtain ⟨k, rfl⟩ : ∃ m, k = m + 1 := ⟨k - 1, by omega⟩; obtain ⟨h1, h2⟩ := h k (by omega); have hp := hM.lp; have hq := hM.lq; rw [spec_peMeander.l0, impl_meanderOf.l0, e1, e2, hm]; (have c0 : (i : Int) < (l.length : Int) := by omega); (have c1 : (0 : Int) ≤ (i : Int) := by omega); (have c2 : (0 : Int) ≤ ((i + 1 : Nat) : Int) := by omega); (have c3 : ((i + 1 : Nat) : Int) < (l.length : Int) := by omega); (have c4 : ¬ (l.length : Int) = 0 := by omega); (have c5 : (0 : Int) ≤ (((i + 2) % l.length : Nat) : Int) := by omega); (have c6 : (((i + 2) % l.length : Nat) : Int) < (l.length : Int) := by omega); simp only [if_pos c0, if_pos c1, if_pos c2, if_pos c3, if_neg c4, if_pos c5, if_pos c6, hp, hq, if_pos ha.1, if_pos ha.2, if_pos hb.1, if_pos hb.2, if_pos hc.1, if_pos hc.2]; exact ⟨h1, h2⟩
theorem meaV_ev (l : List Int) (hl : l.length ≤ 12) (hw : wordB l = true) (he : l.length % 2 = 0) :
  ∃ r s : List Int, MeaIs l r s l.length ∧ ∀ k, 100 ≤ k → spec_peMeander.f k l = some (r, s) ∧ impl_meanderOf.f k l = some (r, s) := by
 obtain ⟨r, s, hr, h⟩ := meaV_l0 l hl hw (l.length / 2) 0 (List.replicate l.length 0) (List.replicate l.length 0) (by omega) he ⟨by simp, by simp, fun j hj => by omega⟩; refine ⟨r, s, hr, fun k hk => ?_⟩; obtain ⟨h1, h2⟩ := h k (by omega); rw [Int.natCast_zero] at h1 h2; unfold spec_peMeander.f impl_meanderOf.f; rw [if_pos (by omega), if_pos (by omega), if_pos (by omega), if_pos (by omega), Int.toNat_natCast]; exact ⟨h1, h2⟩
/-- the partner of a place, above and below -/
def up (i : Nat) : Nat := if i % 2 = 0 then i + 1 else i - 1
def dn (n i : Nat) : Nat := if i % 2 = 1 then (if i + 1 = n then 0 else i + 1) else (if i = 0 then n - 1 else i - 1)
/-- what a closed word is -/
structure Closed (l : List Int) : Prop where
 len : 2 ≤ l.length ∧ l.length ≤ 12
 even : l.length % 2 = 0
 word : wordB l = true
 zero : l.getD 0 0 = 0
 noX : ∀ i m, i < m → (m - i) % 2 = 0 → m + 1 < l.length → c4 l i m = false
 last : ∀ m, m % 2 = 1 → m + 1 < l.length → crB (l.getD m 0) (l.getD (m + 1) 0) (l.getD (l.length - 1) 0) 0 = false
theorem closed_iff (l : List Int) : closedB l = true ↔ Closed l := by
 unfold closedB clB openB; simp only [Bool.and_eq_true, decide_eq_true_eq]
 constructor
 ·rintro ⟨⟨h1, h2⟩, ⟨h3, h4, h5⟩, h6⟩; have hp := ptsB_len h1; exact ⟨⟨h3, hp⟩, h4, ptsB_word h1, h5, fun i m a b c => crs_none h2 i m a b c, fun m a b => (clF_iff l l.length 1 rfl (by omega)).1 h6 m (by omega) a b⟩
 intro h; refine ⟨⟨?_, crs_of h.noX⟩, ⟨h.len.1, h.even, h.zero⟩, (clF_iff l l.length 1 rfl (by omega)).2 fun m _ a b => h.last m a b⟩; unfold ptsB; rw [h.word]; have := h.len.2; simp; omega
theorem up_facts {n i : Nat} (he : n % 2 = 0) (hi : i < n) : up i < n ∧ up (up i) = i ∧ up i ≠ i := by
 unfold up; refine ⟨?_, ?_, ?_⟩ <;> split <;> (try split) <;> omega
theorem dn_facts {n i : Nat} (h2 : 2 ≤ n) (he : n % 2 = 0) (hi : i < n) : dn n i < n ∧ dn n (dn n i) = i ∧ dn n i ≠ i := by
 (have h1 : dn n i < n := by unfold dn; (repeat' split) <;> omega); refine ⟨h1, ?_, by unfold dn; (repeat' split) <;> omega⟩; unfold dn; (repeat' split) <;> omega
/-- the place of a number -/
theorem place {l : List Int} (hl : l.length ≤ 12) (hw : wordB l = true) : ∃ v : Nat → Nat, (∀ a, a < l.length → v a < l.length ∧ wv l (v a) = a) ∧ ∀ i, i < l.length → v (wv l i) = i := by
 have h : ∀ a, ∃ i, a < l.length → i < l.length ∧ wv l i = a := by
  intro a
  by_cases ha : a < l.length
  ·refine Classical.byContradiction fun hc => ?_
   -- else l's numbers and a are one too many
   have hn : ((List.range l.length).map (wv l)).Nodup := by
    unfold List.Nodup; rw [List.pairwise_map]; refine List.Pairwise.imp_of_mem ?_ List.nodup_range; intro i j hi hj hne e; exact hne (wv_inj hw i j (List.mem_range.1 hi) (List.mem_range.1 hj) e)
   have hna : a ∉ (List.range l.length).map (wv l) := by
    intro hm; obtain ⟨i, hi, e⟩ := List.mem_map.1 hm; exact hc ⟨i, fun _ => ⟨List.mem_range.1 hi, e⟩⟩
   have hn2 : (a :: (List.range l.length).map (wv l)).Nodup := List.nodup_cons.2 ⟨hna, hn⟩
   have key : ∀ (m : Nat) (L : List Nat), L.Nodup → (∀ x ∈ L, x < m) → L.length ≤ m := by
    intro m
    induction m with
    | zero =>
     intro L _ h
     cases L with
     | nil => exact Nat.le_refl _
     | cons x t => have := h x (List.mem_cons_self ..); omega
    | succ m ih =>
     intro L hn h
     by_cases hm : m ∈ L
     ·have h1 := ih (L.erase m) (hn.erase _) (fun x hx => by
       have h2 := (hn.mem_erase_iff).1 hx
       have := h x h2.2; have := h2.1; omega)
      rw [List.length_erase_of_mem hm] at h1; omega
     have h1 := ih L hn (fun x hx => by
      have := h x hx
      have : x ≠ m := fun e => hm (e ▸ hx)
      omega)
     omega
   have := key l.length _ hn2 (fun x hx => by
    rcases List.mem_cons.1 hx with rfl | hx
    ·exact ha
    obtain ⟨i, hi, rfl⟩ := List.mem_map.1 hx
    exact (wv_val hw i (List.mem_range.1 hi)).2)
   simp only [List.length_cons, List.length_map, List.length_range] at this; omega
  exact ⟨0, fun h => absurd h ha⟩
 obtain ⟨v, hv⟩ := Classical.axiomOfChoice h
 exact ⟨v, hv, fun i hi => by
  obtain ⟨_, h2⟩ := wv_val hw i hi
  obtain ⟨h3, h4⟩ := hv _ h2
  exact wv_inj hw _ _ h3 hi h4⟩
theorem noX_at {l : List Int} (h : Closed l) (i m : Nat) (him : i ≠ m) (hp : (m + i) % 2 = 0) (hi : i + 1 < l.length) (hm : m + 1 < l.length) : NoX (wv l i : Int) (wv l (i + 1) : Int) (wv l m : Int) (wv l (m + 1) : Int) := by
 have ne : ∀ x y, x < l.length → y < l.length → x ≠ y → (wv l x : Int) ≠ (wv l y : Int) := fun x y hx hy hxy e => hxy (wv_inj h.word x y hx hy (by omega))
 have base : ∀ i m, i < m → (m - i) % 2 = 0 → i + 1 < l.length → m + 1 < l.length → NoX (wv l i : Int) (wv l (i + 1) : Int) (wv l m : Int) (wv l (m + 1) : Int) := by
  intro i m h1 h2 h3 h4; have := h.noX i m h1 h2 h4; unfold c4 at this; rw [(wv_val h.word i (by omega)).1, (wv_val h.word (i + 1) (by omega)).1, (wv_val h.word m (by omega)).1, (wv_val h.word (m + 1) (by omega)).1] at this; exact (crB_no _ _ _ _ (ne _ _ (by omega) (by omega) (by omega)) (ne _ _ (by omega) (by omega) (by omega)) (ne _ _ (by omega) (by omega) (by omega)) (ne _ _ (by omega) (by omega) (by omega))).1 this
 rcases Nat.lt_or_ge i m with c | c
 ·exact base i m c (by omega) hi hm
 exact (base m i (by omega) (by omega) hm hi).swap
theorem last_at {l : List Int} (h : Closed l) (m : Nat) (hp : m % 2 = 1) (hm : m + 1 < l.length) : NoX (wv l m : Int) (wv l (m + 1) : Int) (wv l (l.length - 1) : Int) (wv l 0 : Int) := by
 have hl := h.len; have ne : ∀ x y, x < l.length → y < l.length → x ≠ y → (wv l x : Int) ≠ (wv l y : Int) := fun x y hx hy hxy e => hxy (wv_inj h.word x y hx hy (by omega)); (have h0 : (wv l 0 : Int) = 0 := by have := h.zero; rw [(wv_val h.word 0 (by omega)).1] at this; exact this); have hev := h.even; have := h.last m hp hm; rw [(wv_val h.word m (by omega)).1, (wv_val h.word (m + 1) (by omega)).1, (wv_val h.word (l.length - 1) (by omega)).1, ← h0] at this; exact (crB_no _ _ _ _ (ne _ _ (by omega) (by omega) (by omega)) (ne _ _ (by omega) (by omega) (by omega)) (ne _ _ (by omega) (by omega) (by omega)) (ne _ _ (by omega) (by omega) (by omega))).1 this
theorem closed_two {l r s : List Int} (h : Closed l) (hM : MeaIs l r s l.length) : (Sys (qof r) l.length ∧ ∀ a, a < l.length → qof r a < l.length) ∧ (Sys (qof s) l.length ∧ ∀ a, a < l.length → qof s a < l.length) ∧
  (∀ i, i < l.length → qof r (wv l i) = wv l (up i)) ∧ ∀ i, i < l.length → qof s (wv l i) = wv l (dn l.length i) := by
 have hl := h.len; have hev := h.even; obtain ⟨v, hv1, hv2⟩ := place hl.2 h.word
 have hP : ∀ i, i < l.length → qof r (wv l i) = wv l (up i) := by
  intro i hi; unfold up
  by_cases c : i % 2 = 0
  ·rw [if_pos c]; show (r.getD (wv l i) 0).toNat = _; rw [(hM.at_ i hi c).1]; rfl
  rw [if_neg c]; have := (hM.at_ (i - 1) (by omega) (by omega)).2.1; rw [show i - 1 + 1 = i by omega] at this; show (r.getD (wv l i) 0).toNat = _; rw [this]; rfl
 have hQ : ∀ i, i < l.length → qof s (wv l i) = wv l (dn l.length i) := by
  intro i hi; unfold dn
  by_cases c : i % 2 = 1
  ·rw [if_pos c]; have := (hM.at_ (i - 1) (by omega) (by omega)).2.2.1; rw [show i - 1 + 1 = i by omega, show i - 1 + 2 = i + 1 by omega] at this; show (s.getD (wv l i) 0).toNat = _; rw [this]
   by_cases e : i + 1 = l.length
   ·rw [if_pos e, e, Nat.mod_self]; rfl
   rw [if_neg e, Nat.mod_eq_of_lt (by omega)]; rfl
  rw [if_neg c]
  by_cases e : i = 0
  ·rw [if_pos e, e]; have := (hM.at_ (l.length - 2) (by omega) (by omega)).2.2.2; rw [show l.length - 2 + 2 = l.length by omega, Nat.mod_self, show l.length - 2 + 1 = l.length - 1 by omega] at this; show (s.getD (wv l 0) 0).toNat = _; rw [this]; rfl
  rw [if_neg e]; have := (hM.at_ (i - 2) (by omega) (by omega)).2.2.2; rw [show i - 2 + 2 = i by omega, Nat.mod_eq_of_lt hi, show i - 2 + 1 = i - 1 by omega] at this; show (s.getD (wv l i) 0).toNat = _; rw [this]; rfl
 refine ⟨?_, ?_, hP, hQ⟩
 ·refine sys_of_joins (v := v) (fun i hi => (wv_val h.word i hi).2) (fun a ha => (hv1 a ha).1) hv2 (fun a ha => (hv1 a ha).2) (fun i hi => (up_facts hev hi).1) (fun i hi => (up_facts hev hi).2.1) (fun i hi => (up_facts hev hi).2.2) hP ?_; intro i j hi hj h1 h2; unfold up at h2 ⊢
  by_cases ci : i % 2 = 0 <;> by_cases cj : j % 2 = 0 <;> simp only [ci, cj, if_true, if_false] at h2 ⊢
  ·exact noX_at h i j (by omega) (by omega) (by omega) (by omega)
  ·have := noX_at h i (j - 1) (by omega) (by omega) (by omega) (by omega); rw [show j - 1 + 1 = j by omega] at this; exact this.right
  ·have := noX_at h (i - 1) j (by omega) (by omega) (by omega) (by omega); rw [show i - 1 + 1 = i by omega] at this; exact this.left
  have := noX_at h (i - 1) (j - 1) (by omega) (by omega) (by omega) (by omega); rw [show i - 1 + 1 = i by omega, show j - 1 + 1 = j by omega] at this; exact this.left.right
 refine sys_of_joins (v := v) (fun i hi => (wv_val h.word i hi).2) (fun a ha => (hv1 a ha).1) hv2 (fun a ha => (hv1 a ha).2) (fun i hi => (dn_facts hl.1 hev hi).1) (fun i hi => (dn_facts hl.1 hev hi).2.1) (fun i hi => (dn_facts hl.1 hev hi).2.2) hQ ?_
 -- joins below, each told from its odd end
 have odd : ∀ i j, i < l.length → j < l.length → i % 2 = 1 → j % 2 = 1 → i ≠ j → NoX (wv l i) (wv l (dn l.length i)) (wv l j) (wv l (dn l.length j)) := by
  intro i j hi hj ci cj hne; (have di : dn l.length i = if i + 1 = l.length then 0 else i + 1 := by unfold dn; rw [if_pos ci]); (have dj : dn l.length j = if j + 1 = l.length then 0 else j + 1 := by unfold dn; rw [if_pos cj]); rw [di, dj]
  by_cases ei : i + 1 = l.length
  ·rw [if_pos ei, if_neg (by omega)]; have := last_at h j cj (by omega); rw [show l.length - 1 = i by omega] at this; exact this.swap
  by_cases ej : j + 1 = l.length
  ·rw [if_neg ei, if_pos ej]; have := last_at h i ci (by omega); rw [show l.length - 1 = j by omega] at this; exact this
  rw [if_neg ei, if_neg ej]; exact noX_at h i j hne (by omega) (by omega) (by omega)
 intro i j hi hj h1 h2; have fi := dn_facts hl.1 hev hi; have fj := dn_facts hl.1 hev hj; (have pi : (dn l.length i + i) % 2 = 1 := by unfold dn; (repeat' split) <;> omega); have pj : (dn l.length j + j) % 2 = 1 := by unfold dn; (repeat' split) <;> omega
 by_cases ci : i % 2 = 1
 ·by_cases cj : j % 2 = 1
  ·exact odd i j hi hj ci cj (by omega)
  have := odd i (dn l.length j) hi fj.1 ci (by omega) (fun e => h2 (by rw [e, fj.2.1])); rw [fj.2.1] at this; exact this.right
 by_cases cj : j % 2 = 1
 ·have := odd (dn l.length i) j fi.1 hj (by omega) cj (fun e => h2 e.symm); rw [fi.2.1] at this; exact this.left
 have := odd (dn l.length i) (dn l.length j) fi.1 fj.1 (by omega) (by omega) (fun e => h1 (by
  have := congrArg (dn l.length) e
  rw [fi.2.1, fj.2.1] at this; exact this.symm))
 rw [fi.2.1, fj.2.1] at this; exact this.left.right
theorem range2 (i n : Nat) : List.range' i (n + 2) = i :: (i + 1) :: List.range' (i + 2) n := by rw [List.range'_succ, List.range'_succ]
theorem closed_wayN {l r s : List Int} (h : Closed l) (hM : MeaIs l r s l.length) (d : Nat) : ∀ (i m : Nat), i % 2 = 0 → i + 2 * d + 2 = l.length → d + 1 ≤ m → wayN (qof r) (qof s) 0 m (wv l i) = (List.range' i (2 * d + 2)).map (wv l) := by
 obtain ⟨_, _, hP, hQ⟩ := closed_two h hM; have hl := h.len; have hev := h.even; have h0 : wv l 0 = 0 := by unfold wv; rw [h.zero]; rfl
 induction d with
 | zero =>
  intro i m hi hn hm; obtain ⟨m, rfl⟩ : ∃ k, m = k + 1 := ⟨m - 1, by omega⟩; (have e1 : qof r (wv l i) = wv l (i + 1) := by rw [hP i (by omega)]; unfold up; rw [if_pos hi]); (have e2 : qof s (wv l (i + 1)) = 0 := by rw [hQ (i + 1) (by omega)]; unfold dn; rw [if_pos (by omega), if_pos (by omega), h0]); rw [wayN, e1, e2, if_pos rfl, range2]; rfl
 | succ d ih =>
  intro i m hi hn hm; obtain ⟨m, rfl⟩ : ∃ k, m = k + 1 := ⟨m - 1, by omega⟩; (have e1 : qof r (wv l i) = wv l (i + 1) := by rw [hP i (by omega)]; unfold up; rw [if_pos hi]); have e2 : qof s (wv l (i + 1)) = wv l (i + 2) := by rw [hQ (i + 1) (by omega)]; unfold dn; rw [if_pos (by omega), if_neg (by omega)]
  have hne : wv l (i + 2) ≠ 0 := fun e => by
   have := wv_inj h.word (i + 2) 0 (by omega) (by omega) (by rw [e, h0]); omega
  rw [wayN, e1, e2, if_neg hne, ih (i + 2) m (by omega) (by omega) (by omega), show 2 * (d + 1) + 2 = 2 * d + 2 + 2 by omega, range2]; rfl
theorem closed_way {l r s : List Int} (h : Closed l) (hM : MeaIs l r s l.length) : wayOf (qof r) (qof s) l.length 0 = (List.range' 0 l.length).map (wv l) := by
 have hl := h.len; have hev := h.even; (have h0 : wv l 0 = 0 := by unfold wv; rw [h.zero]; rfl); have := closed_wayN h hM (l.length / 2 - 1) 0 l.length rfl (by omega) (by omega); rw [h0, show 2 * (l.length / 2 - 1) + 2 = l.length by omega] at this; exact this
theorem outer_done (P Q : Nat → Nat) (n : Nat) (x : List Int) (c : Nat) (hx : ∀ j, j < n → 0 ≤ x.getD j 0) (d : Nat) : ∀ i, i + d ≤ n → outer P Q n d i x c = (x, c) := by
 induction d with
 | zero => intro i _; rfl
 | succ d ih => intro i hi; rw [outer, if_pos (hx i (by omega))]; exact ih (i + 1) (by omega)
theorem one_of_all {P Q : Nat → Nat} {n : Nat} (hn : 0 < n) (h : ∀ j, j < n → j ∈ wayOf P Q n 0) : (colours P Q n).2 = 1 := by
 obtain ⟨m, rfl⟩ : ∃ m, n = m + 1 := ⟨n - 1, by omega⟩; unfold colours
 rw [outer, if_neg (by rw [getD_get _ _ (by simp), List.getElem_replicate]; omega), outer_done]
 ·intro j hj; rw [paint_get _ _ _ _ (by simpa using hj), if_pos (h j hj)]; simp
 omega
theorem good_of_sys {q : List Int} (hl : q.length ≤ 12) (hv : ∀ x, x < q.length → q.getD x 0 = (qof q x : Int)) (hs : Sys (qof q) q.length) (hr : ∀ x, x < q.length → qof q x < q.length) : good q = true := by
 have h2 := (sys_iff_scan hr).1 hs
 have hi : inr q = true := by
  unfold inr; rw [List.all_eq_true]; intro x hx; obtain ⟨n, hn, rfl⟩ := List.getElem_of_mem hx; have h3 := hv n hn; have h4 := hr n hn; rw [getD_get q n hn] at h3; rw [h3]; exact decide_eq_true (by omega)
 unfold good; rw [decide_eq_true h2.1, decide_eq_true hl, hi, h2.2]; rfl
theorem ints_words {l : List Int} (hw : wordB l = true) : ints ((List.range' 0 l.length).map (wv l)) = l := by
 unfold ints; refine List.ext_getElem (by simp) fun i h1 h2 => ?_; rw [List.getElem_map, List.getElem_map, List.getElem_range', ← getD_get l i h2, (wv_val hw i h2).1]; simp
theorem closed_meander {l r s : List Int} (h : Closed l) (hM : MeaIs l r s l.length) : meander r s = true ∧ word r s = l := by
 obtain ⟨⟨s1, r1⟩, ⟨s2, r2⟩, hP, hQ⟩ := closed_two h hM; have hl := h.len; have hev := h.even; obtain ⟨v, hv1, _⟩ := place hl.2 h.word
 have val1 : ∀ x, x < r.length → r.getD x 0 = (qof r x : Int) := by
  intro x hx; rw [hM.lp] at hx; obtain ⟨h1, h2⟩ := hv1 x hx
  have : 0 ≤ r.getD x 0 := by
   by_cases c : v x % 2 = 0
   ·have := (hM.at_ (v x) h1 c).1; rw [h2] at this; rw [this, (wv_val h.word (v x + 1) (by omega)).1]; omega
   have := (hM.at_ (v x - 1) (by omega) (by omega)).2.1; rw [show v x - 1 + 1 = v x by omega, h2] at this; rw [this, (wv_val h.word (v x - 1) (by omega)).1]; omega
  show r.getD x 0 = (((r.getD x 0).toNat : Nat) : Int); omega
 have val2 : ∀ x, x < s.length → s.getD x 0 = (qof s x : Int) := by
  intro x hx; rw [hM.lq] at hx; obtain ⟨h1, h2⟩ := hv1 x hx
  have : 0 ≤ s.getD x 0 := by
   by_cases c : v x % 2 = 1
   ·have := (hM.at_ (v x - 1) (by omega) (by omega)).2.2.1; rw [show v x - 1 + 1 = v x by omega, h2] at this; rw [this, (wv_val h.word ((v x - 1 + 2) % l.length) (Nat.mod_lt _ (by omega))).1]; omega
   by_cases e : v x = 0
   ·have := (hM.at_ (l.length - 2) (by omega) (by omega)).2.2.2; rw [show l.length - 2 + 2 = l.length by omega, Nat.mod_self, ← e, h2] at this; rw [this, (wv_val h.word (l.length - 2 + 1) (by omega)).1]; omega
   have := (hM.at_ (v x - 2) (by omega) (by omega)).2.2.2; rw [show v x - 2 + 2 = v x by omega, Nat.mod_eq_of_lt h1, h2] at this; rw [this, (wv_val h.word (v x - 2 + 1) (by omega)).1]; omega
  show s.getD x 0 = (((s.getD x 0).toNat : Nat) : Int); omega
 have g1 := good_of_sys (by rw [hM.lp]; omega) val1 (by rw [hM.lp]; exact s1) (by rw [hM.lp]; exact r1); have g2 := good_of_sys (by rw [hM.lq]; omega) val2 (by rw [hM.lq]; exact s2) (by rw [hM.lq]; exact r2); have hway := closed_way h hM; have hpair : pairB r s = true := by unfold pairB; rw [g1, g2, decide_eq_true (by rw [hM.lp, hM.lq])]; rfl
 have hone : (colours (qof r) (qof s) r.length).2 = 1 := by
  rw [hM.lp]; refine one_of_all (by omega) fun j hj => ?_; rw [hway]; obtain ⟨h1, h2⟩ := hv1 j hj; exact List.mem_map.2 ⟨v j, by rw [List.mem_range'_1]; omega, h2⟩
 refine ⟨?_, ?_⟩
 ·unfold meander single; rw [hpair, decide_eq_true hone]; rfl
 unfold word; rw [hM.lp, hway, ints_words h.word]
theorem flat_get (P Q : Nat → Nat) (m : Nat) : ∀ (c e : Nat), e < m → (flat P Q m c).getD (2 * e) 0 = iter (fun x => Q (P x)) e c ∧ (flat P Q m c).getD (2 * e + 1) 0 = P (iter (fun x => Q (P x)) e c) := by
 induction m with
 | zero => intro c e he; omega
 | succ m ih =>
  intro c e he
  cases e with
  | zero => exact ⟨rfl, rfl⟩
  | succ e =>
   obtain ⟨h1, h2⟩ := ih (Q (P c)) e (by omega); rw [flat, show 2 * (e + 1) = 2 * e + 1 + 1 by omega, List.getD_cons_succ, List.getD_cons_succ, List.getD_cons_succ, List.getD_cons_succ, h1, h2]; exact ⟨rfl, rfl⟩
theorem pigeonL {α : Type} [DecidableEq α] (R : List α) : ∀ L : List α, L.Nodup → (∀ v ∈ L, v ∈ R) → L.length ≤ R.length := by
 induction R with
 | nil =>
  intro L _ h
  cases L with
  | nil => exact Nat.le_refl _
  | cons v L => cases h v (List.mem_cons_self ..)
 | cons r R ih =>
  intro L hn h
  by_cases hm : r ∈ L
  ·have h1 := ih (L.erase r) (hn.erase _) (fun x hx => by
    have h2 := (hn.mem_erase_iff).1 hx
    rcases List.mem_cons.1 (h x h2.2) with e | h3
    ·exact absurd e h2.1
    exact h3)
   rw [List.length_erase_of_mem hm] at h1; rw [List.length_cons]; omega
  have h1 := ih L hn (fun x hx => by
   rcases List.mem_cons.1 (h x hx) with e | h3
   ·exact absurd (e ▸ hx) hm
   exact h3)
  rw [List.length_cons]; omega
/-- the way round a meander, from point 0 -/
structure Way (P Q : Nat → Nat) (n : Nat) (g : Nat → Nat) : Prop where
 lt : ∀ i, i < n → g i < n
 inj : ∀ i j, i < n → j < n → g i = g j → i = j
 zero : g 0 = 0
 even : n % 2 = 0
 up : ∀ i, i < n → i % 2 = 0 → g (i + 1) = P (g i)
 dn : ∀ i, i < n → i % 2 = 1 → Q (g i) = if i + 1 = n then 0 else g (i + 1)
 par : ∀ i, i < n → g i % 2 = i % 2
theorem one_way {P Q : Nat → Nat} {n : Nat} (t : Two P Q n) (hn : 0 < n) (hall : ∀ j, j < n → j ∈ wayOf P Q n 0) : (wayOf P Q n 0).length = n ∧ Way P Q n (fun i => (wayOf P Q n 0).getD i 0) := by
 obtain ⟨m, h1, h2, h3, h4, hflat⟩ := t.period 0 hn; obtain ⟨f, hf⟩ : ∃ f : Nat → Nat, f = fun x => Q (P x) := ⟨_, rfl⟩; (have flt : ∀ x, x < n → f x < n := fun x hx => by rw [hf]; exact t.qr _ (t.pr x hx)); have ilt : ∀ e, iter f e 0 < n := fun e => iter_lt flt e 0 hn
 have ipar : ∀ e, iter f e 0 % 2 = 0 := by
  intro e
  induction e with
  | zero => rfl
  | succ e ih =>
   rw [iter_succ, hf]; have a := sys_parity t.p t.pr (iter f e 0) (ilt e); have b := sys_parity t.q t.qr (P (iter f e 0)) (t.pr _ (ilt e)); rw [hf] at a b ih; dsimp only at a b ih ⊢; omega
 have back : ∀ a d, iter f (a + d) 0 = iter f a 0 → iter f d 0 = 0 := by
  intro a
  induction a with
  | zero => intro d h; rw [Nat.zero_add] at h; exact h
  | succ a ih =>
   intro d h; rw [show a + 1 + d = a + d + 1 by omega, iter_succ, iter_succ, hf] at h; refine ih d ?_; rw [hf]; have := t.inj (iter f (a + d) 0) (iter f a 0) (ilt _) (ilt _); rw [hf] at this; exact this h
 have idis : ∀ a b, a < m → b < m → iter f a 0 = iter f b 0 → a = b := by
  have low : ∀ a b, a < b → b < m → iter f a 0 = iter f b 0 → False := by
   intro a b hab hb h; have := back a (b - a) (by rw [show a + (b - a) = b by omega]; exact h.symm); rw [hf] at this; exact h4 (b - a) (by omega) (by omega) this
  intro a b ha hb h
  rcases Nat.lt_trichotomy a b with c | c | c
  ·exact (low a b c hb h).elim
  ·exact c
  exact (low b a c ha h.symm).elim
 have hget : ∀ e, e < m → (wayOf P Q n 0).getD (2 * e) 0 = iter f e 0 ∧ (wayOf P Q n 0).getD (2 * e + 1) 0 = P (iter f e 0) := by
  intro e he; rw [hflat, hf]; exact flat_get P Q m 0 e he
 have hlen : (wayOf P Q n 0).length = 2 * m := by rw [hflat, flat_length]
 have gE : ∀ i, i < 2 * m → i % 2 = 0 → (wayOf P Q n 0).getD i 0 = iter f (i / 2) 0 := fun i hi hp => by
  have := (hget (i / 2) (by omega)).1; rw [show 2 * (i / 2) = i by omega] at this; exact this
 have gO : ∀ i, i < 2 * m → i % 2 = 1 → (wayOf P Q n 0).getD i 0 = P (iter f (i / 2) 0) := fun i hi hp => by
  have := (hget (i / 2) (by omega)).2; rw [show 2 * (i / 2) + 1 = i by omega] at this; exact this
 have glt : ∀ i, i < 2 * m → (wayOf P Q n 0).getD i 0 < n := fun i hi => by
  by_cases c : i % 2 = 0
  ·rw [gE i hi c]; exact ilt _
  rw [gO i hi (by omega)]; exact t.pr _ (ilt _)
 have gpar : ∀ i, i < 2 * m → (wayOf P Q n 0).getD i 0 % 2 = i % 2 := fun i hi => by
  by_cases c : i % 2 = 0
  ·rw [gE i hi c, ipar, c]
  rw [gO i hi (by omega)]; have := sys_parity t.p t.pr (iter f (i / 2) 0) (ilt _); have := ipar (i / 2); omega
 have ginj : ∀ i j, i < 2 * m → j < 2 * m → (wayOf P Q n 0).getD i 0 = (wayOf P Q n 0).getD j 0 → i = j := by
  intro i j hi hj h; have p1 := gpar i hi; have p2 := gpar j hj; rw [h] at p1
  by_cases c : i % 2 = 0
  ·rw [gE i hi c, gE j hj (by omega)] at h; have := idis _ _ (by omega) (by omega) h; omega
  rw [gO i hi (by omega), gO j hj (by omega)] at h; have e := congrArg P h; rw [t.p.inv _ (ilt _), t.p.inv _ (ilt _)] at e; have := idis _ _ (by omega) (by omega) e; omega
 have hnod : (wayOf P Q n 0).Nodup := by
  refine List.pairwise_iff_getElem.2 fun i j hi hj hij e => ?_; rw [hlen] at hi hj
  have := ginj i j hi hj (by
   rw [List.getD_eq_getElem?_getD, List.getD_eq_getElem?_getD, List.getElem?_eq_getElem (by omega), List.getElem?_eq_getElem (by omega)]
   exact e)
  omega
 have hn1 : n ≤ 2 * m := by
  have := pigeonL (wayOf P Q n 0) (List.range n) List.nodup_range (fun j hj => hall j (List.mem_range.1 hj)); rw [List.length_range, hlen] at this; exact this
 have hn2 : 2 * m ≤ n := by
  have := pigeonL (List.range n) (wayOf P Q n 0) hnod (fun j hj => List.mem_range.2 (t.way_lt 0 hn j hj)); rw [List.length_range, hlen] at this; exact this
 have hnm : n = 2 * m := by omega
 refine ⟨by rw [hlen]; exact hnm.symm, ⟨fun i hi => glt i (by omega), fun i j hi hj => ginj i j (by omega) (by omega), ?_, by omega, fun i hi hp => ?_, fun i hi hp => ?_, fun i hi => gpar i (by omega)⟩⟩
 ·have := (hget 0 (by omega)).1; exact this
 ·show (wayOf P Q n 0).getD (i + 1) 0 = P ((wayOf P Q n 0).getD i 0); rw [gE i (by omega) hp, gO (i + 1) (by omega) (by omega), show (i + 1) / 2 = i / 2 by omega]
 show Q ((wayOf P Q n 0).getD i 0) = if i + 1 = n then 0 else (wayOf P Q n 0).getD (i + 1) 0; rw [gO i (by omega) hp]; (have e : Q (P (iter f (i / 2) 0)) = iter f (i / 2 + 1) 0 := by rw [iter_succ, hf]); rw [e]
 by_cases c : i + 1 = n
 ·rw [if_pos c, show i / 2 + 1 = m by omega, hf]; exact h3
 rw [if_neg c, gE (i + 1) (by omega) (by omega), show (i + 1) / 2 = i / 2 + 1 by omega]
theorem good_val {p : List Int} (hg : good p = true) (x : Nat) (hx : x < p.length) : p.getD x 0 = (qof p x : Int) := by
 have := (inr_get (good_len hg).2 x hx).1; rw [rd_nat] at this; exact this
theorem meander_closed {p q : List Int} (h : meander p q = true) : (word p q).length = p.length ∧ Closed (word p q) ∧ MeaIs (word p q) p q (word p q).length ∧ ∀ i, i < p.length → wv (word p q) i % 2 = i % 2 := by
 obtain ⟨hP, hn, hall⟩ := meander_one h; have t := hP.two; obtain ⟨hlen, W⟩ := one_way t hn hall; have h12 := (good_len hP.gp).1; have hwl : (word p q).length = p.length := by unfold word; rw [ints_length, hlen]
 have hval : ∀ i, i < p.length → (word p q).getD i 0 = (((wayOf (qof p) (qof q) p.length 0).getD i 0 : Nat) : Int) := by
  intro i hi; rw [getD_get _ _ (by omega), List.getD_eq_getElem?_getD, List.getElem?_eq_getElem (by omega)]; unfold word ints; rw [List.getElem_map]; rfl
 obtain ⟨g, hg⟩ : ∃ g : Nat → Nat, g = fun i => (wayOf (qof p) (qof q) p.length 0).getD i 0 := ⟨_, rfl⟩; rw [← hg] at W; (have hv : ∀ i, i < p.length → (word p q).getD i 0 = (g i : Int) := fun i hi => by rw [hval i hi, hg]); (have hwv : ∀ i, i < p.length → wv (word p q) i = g i := fun i hi => by unfold wv; rw [hv i hi]; rfl); generalize word p q = l at *; clear hval hg hall hlen
 have hw : wordB l = true := by
  unfold wordB inR; rw [Bool.and_eq_true, List.all_eq_true, decide_eq_true_eq, List.pairwise_iff_getElem]
  refine ⟨fun x hx => ?_, fun i j hi hj hij e => ?_⟩
  ·obtain ⟨i, hi, rfl⟩ := List.getElem_of_mem hx; have := W.lt i (by omega); have e := hv i (by omega); rw [getD_get l i hi] at e; exact decide_eq_true (by omega)
  have e1 := hv i (by omega); have e2 := hv j (by omega); rw [getD_get l i hi] at e1; rw [getD_get l j hj] at e2; have := W.inj i j (by omega) (by omega) (by omega); omega
 have hev := W.even; have ne : ∀ i j, i < p.length → j < p.length → i ≠ j → (g i : Int) ≠ (g j : Int) := fun i j hi hj hij e => hij (W.inj i j hi hj (by omega))
 refine ⟨hwl, ⟨by omega, by omega, hw, by rw [hv 0 hn, W.zero]; rfl, fun i m h1 h2 h3 => ?_, fun m h1 h2 => ?_⟩, ⟨by omega, by rw [← hP.len]; omega, fun j hj hj2 => ?_⟩, fun i hi => by rw [hwv i hi]; exact W.par i hi⟩
 ·rw [hwl] at h3; unfold c4; rw [hv i (by omega), hv (i + 1) (by omega), hv m (by omega), hv (m + 1) (by omega)]; refine (crB_no _ _ _ _ (ne _ _ (by omega) (by omega) (by omega)) (ne _ _ (by omega) (by omega) (by omega)) (ne _ _ (by omega) (by omega) (by omega)) (ne _ _ (by omega) (by omega) (by omega))).2 ?_
  by_cases c : i % 2 = 0
  ·rw [W.up i (by omega) c, W.up m (by omega) (by omega)]; exact sys_noX t.p t.pr _ _ (W.lt i (by omega)) (W.lt m (by omega))
  have e1 := W.dn i (by omega) (by omega); have e2 := W.dn m (by omega) (by omega); rw [if_neg (by omega)] at e1 e2; rw [← e1, ← e2]; exact sys_noX t.q t.qr _ _ (W.lt i (by omega)) (W.lt m (by omega))
 ·rw [hwl] at h2 ⊢; rw [hv m (by omega), hv (m + 1) (by omega), hv (p.length - 1) (by omega)]; (have z : (0 : Int) = (g 0 : Int) := by rw [W.zero]; rfl); rw [z]; refine (crB_no _ _ _ _ (ne _ _ (by omega) (by omega) (by omega)) (ne _ _ (by omega) (by omega) (by omega)) (ne _ _ (by omega) (by omega) (by omega)) (ne _ _ (by omega) (by omega) (by omega))).2 ?_; have e1 := W.dn m (by omega) h1; have e2 := W.dn (p.length - 1) (by omega) (by omega); rw [if_neg (by omega)] at e1; rw [if_pos (by omega), ← W.zero] at e2; rw [← e1, ← e2]; exact sys_noX t.q t.qr _ _ (W.lt m (by omega)) (W.lt (p.length - 1) (by omega))
 rw [hwl] at hj ⊢; (have hj1 : j + 1 < p.length := by omega); have hml : (j + 2) % p.length < p.length := Nat.mod_lt _ (by omega); rw [hwv j hj, hwv (j + 1) hj1, hwv _ hml, hv j hj, hv (j + 1) hj1, hv _ hml]; have gj := W.lt j hj; have gj1 := W.lt (j + 1) hj1; have gm := W.lt _ hml; rw [good_val hP.gp (g j) gj, good_val hP.gp (g (j + 1)) gj1, good_val hP.gq (g (j + 1)) (by rw [← hP.len]; exact gj1), good_val hP.gq (g ((j + 2) % p.length)) (by rw [← hP.len]; exact gm)]; have e1 := W.up j hj hj2; have e2 := W.dn (j + 1) hj1 (by omega)
 have e3 : (if j + 1 + 1 = p.length then 0 else g (j + 1 + 1)) = g ((j + 2) % p.length) := by
  by_cases c : j + 2 = p.length
  ·rw [if_pos (by omega), c, Nat.mod_self, W.zero]
  rw [if_neg (by omega), Nat.mod_eq_of_lt (by omega)]
 rw [e3] at e2
 refine ⟨by rw [e1], ?_, by rw [e2], ?_⟩
 ·rw [e1, t.p.inv _ gj]
 rw [← e2, t.q.inv _ gj1]
/-- the meander with a word is one alone -/
theorem mea_one {l p q r s : List Int} (h : Closed l) (h1 : MeaIs l p q l.length) (h2 : MeaIs l r s l.length) : p = r ∧ q = s := by
 have hl := h.len; have hev := h.even; obtain ⟨v, hv, _⟩ := place hl.2 h.word
 refine ⟨List.ext_getElem (by rw [h1.lp, h2.lp]) fun a ha hb => ?_, List.ext_getElem (by rw [h1.lq, h2.lq]) fun a ha hb => ?_⟩
 ·rw [h1.lp] at ha; obtain ⟨g1, g2⟩ := hv a ha; rw [← getD_get p a (by rw [h1.lp]; exact ha), ← getD_get r a hb]
  by_cases c : v a % 2 = 0
  ·have e1 := (h1.at_ (v a) g1 c).1; have e2 := (h2.at_ (v a) g1 c).1; rw [g2] at e1 e2; rw [e1, e2]
  have e1 := (h1.at_ (v a - 1) (by omega) (by omega)).2.1; have e2 := (h2.at_ (v a - 1) (by omega) (by omega)).2.1; rw [show v a - 1 + 1 = v a by omega, g2] at e1 e2; rw [e1, e2]
 rw [h1.lq] at ha; obtain ⟨g1, g2⟩ := hv a ha; rw [← getD_get q a (by rw [h1.lq]; exact ha), ← getD_get s a hb]
 by_cases c : v a % 2 = 1
 ·have e1 := (h1.at_ (v a - 1) (by omega) (by omega)).2.2.1; have e2 := (h2.at_ (v a - 1) (by omega) (by omega)).2.2.1; rw [show v a - 1 + 1 = v a by omega, g2] at e1 e2; rw [e1, e2]
 by_cases e : v a = 0
 ·have e1 := (h1.at_ (l.length - 2) (by omega) (by omega)).2.2.2; have e2 := (h2.at_ (l.length - 2) (by omega) (by omega)).2.2.2; rw [show l.length - 2 + 2 = l.length by omega, Nat.mod_self, ← e, g2] at e1 e2; rw [e1, e2]
 have e1 := (h1.at_ (v a - 2) (by omega) (by omega)).2.2.2; have e2 := (h2.at_ (v a - 2) (by omega) (by omega)).2.2.2; rw [show v a - 2 + 2 = v a by omega, Nat.mod_eq_of_lt g1, g2] at e1 e2; rw [e1, e2]

end Go.Proofs.Ytldbkkfkgfacdaa.Pure
