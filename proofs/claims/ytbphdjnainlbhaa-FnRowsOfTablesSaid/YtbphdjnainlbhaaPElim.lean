/- Elimination modulo a prime: what stays true from column to column, and what it tells at the end: the rank and the determinant. -/
import Derived.Test.YtbphdjnainlbhaaPEch
set_option linter.unusedVariables false
set_option linter.unusedSimpArgs false
namespace Go.Proofs.Ytbphdjnainlbhaa.Pure
open Go.RowKit Go.Proofs.Ytbphdjnainlbhaa.R Go.Proofs.YtbphdjnainlbhaaW.PrintWords Go.Proofs.YtbphdjnainlbhaaW.PrintLast Go.Proofs.YtbphdjnainlbhaaW.PrintMore

def IsRank (p : Int) (n : Nat) (R : List (Nat → Int)) (r : Nat) : Prop := Rk p n R r ∧ ¬ Rk p n R (r + 1)
structure St (p : Int) (n : Nat) (R : List (Nat → Int)) (j : Nat) (top rest : List (Nat → Int)) (d : Int) : Prop where
  piv : Piv p j 0 top
  low : ∀ v ∈ rest, ∀ i, i < j → p ∣ v i
  len : top.length + rest.length = R.length
  sp1 : ∀ v ∈ top ++ rest, Span p n R v
  sp2 : ∀ r ∈ R, Span p n (top ++ rest) r
  sgn : ∃ s : Int, (∀ t, t.length = n → p ∣ wedges R one t - s * wedges (top ++ rest) one t) ∧ (top.length = j → p ∣ d - s * dtop 0 top)
  dz : top.length < j → d = 0
/-- rows that are the same modulo p -/
def Same (p : Int) (n : Nat) (a b : Nat → Int) : Prop := ∀ i, i < n → p ∣ a i - b i
theorem same_wedges {p : Int} {n : Nat} {A B : List (Nat → Int)} (h : All2 (Same p n) A B) : ∀ t, t.length = n → p ∣ wedges A one t - wedges B one t := by
  induction h with
  | nil => intro t _; exact ⟨0, by omega⟩
  | cons h _ ih => intro t ht; exact wedge_congr p t _ _ _ _ (fun i hi => h i (by omega)) (fun s hs => ih s (by omega))
theorem same_span {p : Int} {n : Nat} {A B : List (Nat → Int)} (h : All2 (Same p n) A B) : (∀ v ∈ A, Span p n B v) ∧ (∀ v ∈ B, Span p n A v) := by
  induction h with
  | nil => exact ⟨fun v hv => (by cases hv), fun v hv => (by cases hv)⟩
  | @cons a b A B h _ ih =>
    refine ⟨fun v hv => ?_, fun v hv => ?_⟩
    · rcases List.mem_cons.1 hv with rfl | hv
      · exact .add v b (fun _ => 0) 1 (List.mem_cons_self ..) (.zero _ fun i _ => ⟨0, by simp⟩) fun i hi => by
          have := h i hi; simpa using this
      · exact span_trans (fun r hr => span_mem (List.mem_cons_of_mem _ hr)) (ih.1 v hv)
    · rcases List.mem_cons.1 hv with rfl | hv
      · exact .add v a (fun _ => 0) 1 (List.mem_cons_self ..) (.zero _ fun i _ => ⟨0, by simp⟩) fun i hi => by
          obtain ⟨k, hk⟩ := h i hi
          exact ⟨-k, by grind⟩
      · exact span_trans (fun r hr => span_mem (List.mem_cons_of_mem _ hr)) (ih.2 v hv)
theorem st_start {p : Int} {n : Nat} {R E : List (Nat → Int)} (h : All2 (Same p n) E R) : St p n R 0 [] E 1 where
  piv := trivial
  low := fun v _ i hi => by omega
  len := by simpa using h.length
  sp1 := fun v hv => (same_span h).1 v (by simpa using hv)
  sp2 := fun r hr => (same_span h).2 r hr
  sgn := ⟨1, fun t ht => by
    obtain ⟨k, hk⟩ := same_wedges h t ht
    exact ⟨-k, by rw [List.nil_append]; grind⟩, fun _ => ⟨0, by simp [dtop]⟩⟩
  dz := fun h => by cases h
theorem st_none {p : Int} {n : Nat} {R : List (Nat → Int)} {j : Nat} {top rest : List (Nat → Int)} {d : Int} (h : St p n R j top rest d) (h0 : ∀ v ∈ rest, p ∣ v j) : St p n R (j + 1) top rest 0 where
  piv := piv_hi (by omega) _ _ h.piv
  low := fun v hv i hi => by
    by_cases e : i = j
    · subst e; exact h0 v hv
    · exact h.low v hv i (by omega)
  len := h.len
  sp1 := h.sp1
  sp2 := h.sp2
  sgn := by
    obtain ⟨s, h1, _⟩ := h.sgn
    have := piv_length _ _ (by omega) h.piv
    exact ⟨s, h1, fun e => by omega⟩
  dz := fun _ => rfl
theorem st_swap {p : Int} {n : Nat} {R : List (Nat → Int)} {j : Nat} {top : List (Nat → Int)} {a v : Nat → Int} {A B : List (Nat → Int)} {d d' : Int} (h : St p n R j top (a :: (A ++ v :: B)) d) (hd : p ∣ d' + d) (h0 : d = 0 → d' = 0) :
    St p n R j top (v :: (A ++ a :: B)) d' where
  piv := h.piv
  low := fun u hu => h.low u (by
    rcases List.mem_cons.1 hu with rfl | hu
    · simp
    · rcases List.mem_append.1 hu with hu | hu
      · simp [hu]
      · rcases List.mem_cons.1 hu with rfl | hu
        · simp
        · simp [hu])
  len := by have := h.len; simp only [List.length_cons, List.length_append] at this ⊢; exact this
  sp1 := fun u hu => h.sp1 u (by
    simp only [List.mem_append, List.mem_cons] at hu ⊢
    rcases hu with h | h | h | h | h <;> simp [h])
  sp2 := fun r hr => span_trans (fun u hu => span_mem (by
    simp only [List.mem_append, List.mem_cons] at hu ⊢
    rcases hu with h | h | h | h | h <;> simp [h])) (h.sp2 r hr)
  sgn := by
    obtain ⟨s, h1, h2⟩ := h.sgn
    refine ⟨-s, fun t ht => ?_, fun e => ?_⟩
    · have := h1 t ht
      rw [wedges_swap top A B a v one] at this
      obtain ⟨k, hk⟩ := this
      exact ⟨k, by grind⟩
    · obtain ⟨k, hk⟩ := h2 e
      obtain ⟨l, hl⟩ := hd
      exact ⟨l - k, by grind⟩
  dz := fun e => h0 (h.dz e)
theorem st_pivot {p : Int} {n : Nat} {R : List (Nat → Int)} {j : Nat} {top : List (Nat → Int)} {v : Nat → Int} {rest rest' : List (Nat → Int)} {d d' : Int} (h : St p n R j top (v :: rest) d) (hjn : j < n) (hv : ¬ p ∣ v j)
    (hs : All2 (fun a b => Stepped p n v a b ∧ p ∣ a j) rest' rest) (hd : p ∣ d' - d * v j) (h0 : d = 0 → d' = 0) : St p n R (j + 1) (top ++ [v]) rest' d' where
  piv := piv_snoc v hv (h.low v (List.mem_cons_self ..)) _ _ (by omega) h.piv
  low := by
    have hl : ∀ u ∈ rest, ∀ i, i < j → p ∣ u i := fun u hu => h.low u (List.mem_cons_of_mem _ hu)
    have hlv := h.low v (List.mem_cons_self ..)
    clear h
    induction hs with
    | nil => intro u hu; cases hu
    | @cons a b A B h _ ih =>
      obtain ⟨⟨c, hc⟩, hj⟩ := h
      intro u hu i hi
      rcases List.mem_cons.1 hu with rfl | hu
      · by_cases e : i = j
        · subst e; exact hj
        · obtain ⟨k, hk⟩ := hc i (by omega)
          obtain ⟨l, hl'⟩ := hl b (List.mem_cons_self ..) i (by omega)
          obtain ⟨m, hm⟩ := hlv i (by omega)
          exact ⟨k + l + c * m, by grind⟩
      · exact ih (fun w hw => hl w (List.mem_cons_of_mem _ hw)) u hu i hi
  len := by have := h.len; have h2 := hs.length; simp only [List.length_cons, List.length_append, List.length_nil] at this ⊢; omega
  sp1 := by
    have hv' : Span p n R v := h.sp1 v (by simp)
    have hr : ∀ u ∈ rest, Span p n R u := fun u hu => h.sp1 u (by simp [hu])
    have ht : ∀ u ∈ top, Span p n R u := fun u hu => h.sp1 u (by simp [hu])
    have hr' : ∀ u ∈ rest', Span p n R u := by
      clear h
      induction hs with
      | nil => intro u hu; cases hu
      | @cons a b A B h _ ih =>
        intro u hu
        rcases List.mem_cons.1 hu with rfl | hu
        · obtain ⟨⟨c, hc⟩, _⟩ := h
          exact span_add c (hr b (List.mem_cons_self ..)) hv' hc
        · exact ih (fun w hw => hr w (List.mem_cons_of_mem _ hw)) u hu
    intro u hu
    simp only [List.mem_append, List.mem_singleton] at hu
    rcases hu with (hu | rfl) | hu
    · exact ht u hu
    · exact hv'
    · exact hr' u hu
  sp2 := by
    have hr : ∀ u ∈ rest, Span p n (top ++ [v] ++ rest') u := by
      have hv' : Span p n (top ++ [v] ++ rest') v := span_mem (by simp)
      have hm : ∀ u ∈ rest', Span p n (top ++ [v] ++ rest') u := fun u hu => span_mem (by simp [hu])
      generalize top ++ [v] ++ rest' = E at hv' hm
      clear h
      induction hs with
      | nil => intro u hu; cases hu
      | @cons a b A B h _ ih =>
        intro u hu
        rcases List.mem_cons.1 hu with rfl | hu
        · obtain ⟨⟨c, hc⟩, _⟩ := h
          exact span_add (-c) (hm a (List.mem_cons_self ..)) hv' fun i hi => by
            obtain ⟨k, hk⟩ := hc i hi
            exact ⟨-k, by grind⟩
        · exact ih (fun w hw => hm w (List.mem_cons_of_mem _ hw)) u hu
    intro r hrr
    refine span_trans (fun u hu => ?_) (h.sp2 r hrr)
    simp only [List.mem_append, List.mem_cons] at hu
    rcases hu with hu | rfl | hu
    · exact span_mem (by simp [hu])
    · exact span_mem (by simp)
    · exact hr u hu
  sgn := by
    obtain ⟨s, h1, h2⟩ := h.sgn
    refine ⟨s, fun t ht => ?_, fun e => ?_⟩
    · have hs' : All2 (Stepped p n v) rest' rest := by
        clear h hd h1
        induction hs with
        | nil => exact .nil
        | cons h _ ih => exact .cons h.1 ih
      have g := steps_wedges v hs' (top ++ [v]) (by simp) t ht
      rw [List.append_assoc top [v] rest, List.singleton_append] at g
      obtain ⟨k, hk⟩ := g
      obtain ⟨l, hl⟩ := h1 t ht
      exact ⟨l - s * k, by grind⟩
    · rw [List.length_append, List.length_singleton] at e
      obtain ⟨k, hk⟩ := h2 (by omega)
      obtain ⟨l, hl⟩ := hd
      rw [dtop_snoc, Nat.zero_add, show top.length = j by omega]
      exact ⟨l + k * v j, by grind⟩
  dz := fun e => by
    rw [List.length_append, List.length_singleton] at e
    exact h0 (h.dz (by omega))
/-- what the elimination tells at its end -/
theorem st_rank {p : Int} (hp : ∀ a b : Int, p ∣ a * b → p ∣ a ∨ p ∣ b) (h1 : ¬ p ∣ 1) {n : Nat} {R : List (Nat → Int)} {j : Nat} {top rest : List (Nat → Int)} {d : Int} (h : St p n R j top rest d) (hj : j ≤ n) (he : j = n ∨ rest = []) : IsRank p n R top.length := by
  have hz : ∀ v ∈ rest, ∀ i, i < n → p ∣ v i := by
    rcases he with rfl | rfl
    · exact h.low
    · intro v hv; cases hv
  obtain ⟨t, ht, hn⟩ := piv_nz hp h1 n top (piv_hi hj _ _ h.piv)
  refine ⟨rk_span (fun v hv => h.sp1 v (List.mem_append.2 (.inl hv))) (E := top) ⟨top, rfl, fun _ hv => hv, fun hc => hn (hc t ht)⟩, fun hc => ?_⟩
  have h2 : Rk p n top (top.length + 1) := rk_span (fun r hr => span_trans (fun u hu => by
    rcases List.mem_append.1 hu with hu | hu
    · exact span_mem hu
    · exact .zero _ (hz u hu)) (h.sp2 r hr)) hc
  have := rk_pigeon h2
  omega
theorem st_det {p : Int} {n : Nat} {R : List (Nat → Int)} {j : Nat} {top rest : List (Nat → Int)} {d : Int} (h : St p n R j top rest d) (hj : j ≤ n) (he : j = n ∨ rest = []) (hR : R.length = n) : p ∣ d - det n R := by
  have hl := piv_length _ _ (by omega) h.piv
  have hlen := h.len
  obtain ⟨s, h1, h2⟩ := h.sgn
  by_cases e : top.length = n
  · have hr : rest = [] := List.eq_nil_of_length_eq_zero (by omega)
    subst hr
    obtain ⟨a, ha⟩ := h1 (List.replicate n true) (by simp)
    obtain ⟨b, hb⟩ := h2 (by omega)
    obtain ⟨c, hc⟩ := det_tri n top e (piv_hi hj _ _ h.piv)
    rw [List.append_nil] at ha
    unfold det at hc ⊢
    exact ⟨b - a - s * c, by grind⟩
  · have hjn : j = n := by
      rcases he with h | h
      · exact h
      · rw [h, List.length_nil] at hlen; omega
    subst hjn
    rw [h.dz (by omega)]
    cases rest with
    | nil => rw [List.length_nil] at hlen; omega
    | cons v rest =>
      obtain ⟨a, ha⟩ := h1 (List.replicate j true) (by simp)
      have hz : p ∣ wedges (top ++ v :: rest) one (List.replicate j true) := by
        rw [wedges_append, wedges_cons]
        have := span_zp (p := p) (n := j) (R := []) (.zero v (h.low v (List.mem_cons_self ..))) top (wedges rest one) (fun r hr => by cases hr)
        exact this _ (by simp)
      obtain ⟨b, hb⟩ := hz
      unfold det
      exact ⟨-a - s * b, by grind⟩

end Go.Proofs.Ytbphdjnainlbhaa.Pure
