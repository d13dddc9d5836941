/- Arch systems in plain Lean: 'each point is joined with another one and no two arches cross' says the same as the stack's scan. -/
import Derived.Test.YtjgkcknopnollaaGreatPNum
set_option linter.unusedVariables false
set_option linter.unusedSimpArgs false
namespace Go.Proofs.YtjgkcknopnollaaGreat.Pure
open Go.RowKit Go.Proofs.YtjgkcknopnollaaGreat.D Go.Proofs.YtjgkcknopnollaaGreatW.PrintWords Go.Proofs.YtjgkcknopnollaaGreatW.PrintLast Go.Proofs.YtjgkcknopnollaaGreatW.PrintMore

def scan (q : Nat → Nat) : Nat → Nat → List Nat → Bool
  | 0, _, _ => true
  | d + 1, i, o => if i < q i ∧ q (q i) = i then scan q d (i + 1) (i :: o) else
      if q i < i then (match o with | a :: t => if a = q i then scan q d (i + 1) t else false | [] => false) else false

structure Sys (q : Nat → Nat) (n : Nat) : Prop where
  ne : ∀ i, i < n → q i ≠ i
  inv : ∀ i, i < n → q (q i) = i
  lam : ∀ a, a < n → ∀ b, a < b → b < q a → a ≤ q b ∧ q b ≤ q a

structure Inv (q : Nat → Nat) (i : Nat) (o : List Nat) : Prop where
  desc : o.Pairwise (· > ·)
  mem : ∀ a, a ∈ o ↔ a < i ∧ i ≤ q a

theorem scan_of_sys {q : Nat → Nat} {n : Nat} (hr : ∀ i, i < n → q i < n) (h : Sys q n) (d : Nat) : ∀ i o, i + d = n → Inv q i o → scan q d i o = true ∧ (d + o.length) % 2 = 0 := by
  induction d with
  | zero =>
    intro i o hi ho
    refine ⟨rfl, ?_⟩
    cases o with
    | nil => rfl
    | cons a t =>
      have h1 := (ho.mem a).1 (by simp)
      have := hr a (by omega)
      omega
  | succ d ih =>
    intro i o hi ho
    have hin : i < n := by omega
    have hne := h.ne i hin
    have hinv := h.inv i hin
    have uniq : ∀ a, a < n → q a = i → a = q i := fun a ha e => by have := h.inv a ha; rw [e] at this; exact this.symm
    by_cases hlt : i < q i
    · have : Inv q (i + 1) (i :: o) := by
        refine ⟨List.pairwise_cons.2 ⟨fun a ha => ((ho.mem a).1 ha).1, ho.desc⟩, fun a => ?_⟩
        rw [List.mem_cons, ho.mem]
        constructor
        · rintro (rfl | ⟨h1, h2⟩)
          · omega
          · have : q a ≠ i := fun e => by have := uniq a (by omega) e; omega
            omega
        · rintro ⟨h1, h2⟩
          by_cases e : a = i
          · exact .inl e
          · exact .inr ⟨by omega, by omega⟩
      obtain ⟨h1, h2⟩ := ih (i + 1) (i :: o) (by omega) this
      simp only [scan]
      rw [if_pos ⟨hlt, hinv⟩]
      exact ⟨h1, by simp at h2; omega⟩
    · have hlt2 : q i < i := by omega
      simp only [scan]
      rw [if_neg (by omega), if_pos hlt2]
      have hj : q i ∈ o := (ho.mem _).2 ⟨hlt2, by omega⟩
      cases o with
      | nil => simp at hj
      | cons c t =>
        have hc := (ho.mem c).1 (by simp)
        obtain ⟨hp1, hp2⟩ := List.pairwise_cons.1 ho.desc
        have e : c = q i := by
          rcases List.mem_cons.1 hj with e | hjt
          · exact e.symm
          · have hgt := hp1 _ hjt
            have := h.lam (q i) (hr i hin) c hgt (by omega)
            exact uniq c (by omega) (by omega)
        subst e
        have : Inv q (i + 1) t := by
          refine ⟨hp2, fun a => ?_⟩
          constructor
          · intro ha
            have h1 := (ho.mem a).1 (by simp [ha])
            have h2 := hp1 a ha
            have : q a ≠ i := fun e => by have := uniq a (by omega) e; omega
            omega
          · rintro ⟨h1, h2⟩
            have e : a ≠ i := fun e => by subst e; omega
            have := (ho.mem a).2 ⟨by omega, by omega⟩
            rcases List.mem_cons.1 this with e2 | h3
            · subst e2; omega
            · exact h3
        obtain ⟨h1, h2⟩ := ih (i + 1) t (by omega) this
        simp only [if_true]
        exact ⟨h1, by simp; omega⟩

theorem scan_mem {q : Nat → Nat} {n : Nat} (d : Nat) : ∀ i o, i + d = n → scan q d i o = true → ∀ m, i ≤ m → m < n → q m < i → q m ∈ o := by
  induction d with
  | zero => intro i o hi _ m h1 h2; omega
  | succ d ih =>
    intro i o hi hs m h1 h2 h3
    simp only [scan] at hs
    by_cases hc : i < q i ∧ q (q i) = i
    · rw [if_pos hc] at hs
      have e : m ≠ i := fun e => by subst e; omega
      have := ih (i + 1) _ (by omega) hs m (by omega) h2 (by omega)
      rcases List.mem_cons.1 this with e2 | h4
      · omega
      · exact h4
    · rw [if_neg hc] at hs
      by_cases hlt : q i < i
      · rw [if_pos hlt] at hs
        cases o with
        | nil => simp at hs
        | cons a t =>
          simp only at hs
          by_cases e : a = q i
          · rw [if_pos e] at hs
            by_cases em : m = i
            · subst em; simp [e]
            · have := ih (i + 1) t (by omega) hs m (by omega) h2 (by omega)
              simp [this]
          · rw [if_neg e] at hs; simp at hs
      · rw [if_neg hlt] at hs; simp at hs

theorem sys_of_scan_aux {q : Nat → Nat} {n : Nat} (hr : ∀ i, i < n → q i < n) (d : Nat) : ∀ i o, i + d = n → Inv q i o → (∀ a ∈ o, q (q a) = a) → scan q d i o = true →
    (∀ m, i ≤ m → m < n → q m ≠ m ∧ q (q m) = m) ∧ (∀ m, i ≤ m → m < n → q m < m → ∀ b, q m < b → b < m → q b < m) := by
  induction d with
  | zero => intro i o hi _ _ _; exact ⟨fun m h1 h2 => by omega, fun m h1 h2 => by omega⟩
  | succ d ih =>
    intro i o hi ho hoo hs
    have hin : i < n := by omega
    simp only [scan] at hs
    by_cases hc : i < q i ∧ q (q i) = i
    · rw [if_pos hc] at hs
      have : Inv q (i + 1) (i :: o) := by
        refine ⟨List.pairwise_cons.2 ⟨fun a ha => ((ho.mem a).1 ha).1, ho.desc⟩, fun a => ?_⟩
        rw [List.mem_cons]
        constructor
        · rintro (rfl | ha)
          · omega
          · have h1 := (ho.mem a).1 ha
            have : q a ≠ i := fun e => by have := hoo a ha; rw [e] at this; omega
            omega
        · rintro ⟨h1, h2⟩
          by_cases e : a = i
          · exact .inl e
          · exact .inr ((ho.mem a).2 ⟨by omega, by omega⟩)
      obtain ⟨g1, g2⟩ := ih (i + 1) _ (by omega) this (fun a ha => by rcases List.mem_cons.1 ha with e | ha; (· subst e; exact hc.2); (· exact hoo a ha)) hs
      refine ⟨fun m h1 h2 => ?_, fun m h1 h2 h3 => ?_⟩
      · by_cases e : m = i
        · subst e; exact ⟨by omega, hc.2⟩
        · exact g1 m (by omega) h2
      · by_cases e : m = i
        · subst e; omega
        · exact g2 m (by omega) h2 h3
    · rw [if_neg hc] at hs
      by_cases hlt : q i < i
      · rw [if_pos hlt] at hs
        cases o with
        | nil => simp at hs
        | cons c t =>
          simp only at hs
          by_cases e : c = q i
          · rw [if_pos e] at hs
            obtain ⟨hp1, hp2⟩ := List.pairwise_cons.1 ho.desc
            have hcm := (ho.mem c).1 (by simp)
            have hcc := hoo c (by simp)
            have hqc : q c = i := by
              by_cases e2 : q c = i
              · exact e2
              · have := scan_mem d (i + 1) t (by omega) hs (q c) (by omega) (hr c (by omega)) (by omega)
                rw [hcc] at this
                have := hp1 c this
                omega
            have hI : Inv q (i + 1) t := by
              refine ⟨hp2, fun a => ?_⟩
              constructor
              · intro ha
                have h1 := (ho.mem a).1 (by simp [ha])
                have h2 := hp1 a ha
                have : q a ≠ i := fun e3 => by have := hoo a (by simp [ha]); rw [e3] at this; omega
                omega
              · rintro ⟨h1, h2⟩
                have e3 : a ≠ i := fun e3 => by subst e3; omega
                have := (ho.mem a).2 ⟨by omega, by omega⟩
                rcases List.mem_cons.1 this with e4 | h3
                · subst e4; omega
                · exact h3
            obtain ⟨g1, g2⟩ := ih (i + 1) t (by omega) hI (fun a ha => hoo a (by simp [ha])) hs
            refine ⟨fun m h1 h2 => ?_, fun m h1 h2 h3 b hb1 hb2 => ?_⟩
            · by_cases em : m = i
              · subst em; exact ⟨by omega, by rw [← e]; exact hqc⟩
              · exact g1 m (by omega) h2
            · by_cases em : m = i
              · subst em
                by_cases hb : m ≤ q b
                · have := (ho.mem b).2 ⟨hb2, hb⟩
                  rcases List.mem_cons.1 this with e4 | h4
                  · omega
                  · have := hp1 b h4; omega
                · omega
              · exact g2 m (by omega) h2 h3 b hb1 hb2
          · rw [if_neg e] at hs; simp at hs
      · rw [if_neg hlt] at hs; simp at hs

theorem sys_iff_scan {q : Nat → Nat} {n : Nat} (hr : ∀ i, i < n → q i < n) : Sys q n ↔ (n % 2 = 0 ∧ scan q n 0 [] = true) := by
  have h0 : Inv q 0 [] := ⟨List.Pairwise.nil, fun a => by simp⟩
  constructor
  · intro h
    obtain ⟨h1, h2⟩ := scan_of_sys hr h n 0 [] (by omega) h0
    exact ⟨by simpa using h2, h1⟩
  · rintro ⟨_, hs⟩
    obtain ⟨g1, g2⟩ := sys_of_scan_aux hr n 0 [] (by omega) h0 (by simp) hs
    refine ⟨fun i hi => (g1 i (by omega) hi).1, fun i hi => (g1 i (by omega) hi).2, fun a ha b hab hb => ?_⟩
    have hbn : b < n := Nat.lt_trans hb (hr a ha)
    have hqa := (g1 a (by omega) ha).2
    constructor
    · by_cases h : a ≤ q b
      · exact h
      · have := g2 b (by omega) hbn (by omega) a (by omega) hab
        omega
    · have := g2 (q a) (by omega) (hr a ha) (by omega) b (by omega) hb
      omega

end Go.Proofs.YtjgkcknopnollaaGreat.Pure
