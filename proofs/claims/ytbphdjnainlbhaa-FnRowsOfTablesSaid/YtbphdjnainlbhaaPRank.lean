/- Ranks of rows modulo a number (modulo 0: over the whole numbers), by the exterior algebra: spans, repeated rows, rows in steps. -/
import Derived.Test.YtbphdjnainlbhaaPExt
set_option linter.unusedVariables false
set_option linter.unusedSimpArgs false
namespace Go.Proofs.Ytbphdjnainlbhaa.Pure
open Go.RowKit Go.Proofs.Ytbphdjnainlbhaa.R Go.Proofs.YtbphdjnainlbhaaW.PrintWords Go.Proofs.YtbphdjnainlbhaaW.PrintLast Go.Proofs.YtbphdjnainlbhaaW.PrintMore

def Zp (p : Int) (n : Nat) (w : List Bool → Int) : Prop := ∀ t, t.length = n → p ∣ w t
theorem wedge_congr (p : Int) (t : List Bool) : ∀ (u v : Nat → Int) (w x : List Bool → Int), (∀ i, i < t.length → p ∣ u i - v i) → (∀ s, s.length = t.length → p ∣ w s - x s) → p ∣ wedge u w t - wedge v x t := by
  induction t with
  | nil => intro u v w x _ _; exact ⟨0, by simp [wedge]⟩
  | cons b t ih =>
    intro u v w x h1 h2
    have g1 : ∀ i, i < t.length → p ∣ u (i + 1) - v (i + 1) := fun i hi => h1 (i + 1) (by simpa using hi)
    cases b with
    | false => exact ih _ _ _ _ g1 (fun s hs => h2 (false :: s) (by simpa using hs))
    | true =>
      obtain ⟨a, ha⟩ := ih (fun i => u (i + 1)) (fun i => v (i + 1)) (fun t => w (true :: t)) (fun t => x (true :: t)) g1 (fun s hs => h2 (true :: s) (by simpa using hs))
      obtain ⟨b, hb⟩ := h1 0 (by simp)
      obtain ⟨c, hc⟩ := h2 (false :: t) (by simp)
      simp only [wedge]
      exact ⟨b * w (false :: t) + v 0 * c - a, by grind⟩
theorem wedge_zero (t : List Bool) (v : Nat → Int) : wedge v (fun _ => 0) t = 0 := by
  have h := wedge_smulw t 0 v (fun _ => 0)
  simp only [Int.zero_mul] at h
  exact h
theorem wedges_nil (w : List Bool → Int) : wedges [] w = w := rfl
theorem wedges_cons (v : Nat → Int) (L : List (Nat → Int)) (w : List Bool → Int) : wedges (v :: L) w = wedge v (wedges L w) := rfl
theorem wedges_append (A B : List (Nat → Int)) (w : List Bool → Int) : wedges (A ++ B) w = wedges A (wedges B w) := by
  unfold wedges; rw [List.foldr_append]
theorem wedges_lin (A : List (Nat → Int)) (c : Int) (w x : List Bool → Int) : wedges A (fun t => w t + c * x t) = fun t => wedges A w t + c * wedges A x t := by
  induction A with
  | nil => rfl
  | cons v A ih =>
    rw [wedges_cons, ih]
    funext t
    rw [wedge_addw, wedge_smulw]; rfl
theorem wedges_congr (p : Int) (n : Nat) (A : List (Nat → Int)) (w x : List Bool → Int) (h : ∀ s, s.length = n → p ∣ w s - x s) : ∀ s, s.length = n → p ∣ wedges A w s - wedges A x s := by
  induction A with
  | nil => exact h
  | cons v A ih => intro s hs; exact wedge_congr p s v v _ _ (fun i _ => ⟨0, by omega⟩) (fun r hr => ih r (by omega))
/-- a row changed by a multiple of another -/
theorem wedge_lin (c : Int) (r v : Nat → Int) (w : List Bool → Int) : wedge (fun i => v i + c * r i) w = fun t => wedge v w t + c * wedge r w t := by
  funext t
  rw [wedge_add t v (fun i => c * r i) w, wedge_smul]
inductive Span (p : Int) (n : Nat) (R : List (Nat → Int)) : (Nat → Int) → Prop
  | zero (u : Nat → Int) : (∀ i, i < n → p ∣ u i) → Span p n R u
  | add (u r v : Nat → Int) (c : Int) : r ∈ R → Span p n R v → (∀ i, i < n → p ∣ u i - (v i + c * r i)) → Span p n R u
theorem span_zp {p : Int} {n : Nat} {R : List (Nat → Int)} {v : Nat → Int} (h : Span p n R v) (A : List (Nat → Int)) (W : List Bool → Int) (hR : ∀ r ∈ R, Zp p n (wedges A (wedge r W))) : Zp p n (wedges A (wedge v W)) := by
  induction h with
  | zero u hu =>
    intro t ht
    have h1 := wedges_congr p n A (wedge u W) (fun _ => 0) (fun s hs => by
      have := wedge_congr p s u (fun _ => 0) W W (fun i hi => by have := hu i (by omega); simpa using this) (fun r _ => ⟨0, by omega⟩)
      have e : wedge (fun _ => 0) W s = 0 := by
        have := wedge_smul s 0 (fun _ => 0) W
        simpa using this
      rw [e] at this; exact this) t ht
    have e : wedges A (fun _ => 0) t = 0 := by
      have := wedges_lin A (-1) (fun _ => 0) (fun _ => 0)
      have := congrFun this t
      simp only [Int.mul_zero, Int.add_zero] at this
      omega
    rw [e] at h1; simpa using h1
  | add u r v c hr _ hu ih =>
    intro t ht
    have h1 := wedges_congr p n A (wedge u W) (wedge (fun i => v i + c * r i) W) (fun s hs => wedge_congr p s _ _ W W (fun i hi => hu i (by omega)) (fun q _ => ⟨0, by omega⟩)) t ht
    rw [wedge_lin, wedges_lin] at h1
    obtain ⟨a, ha⟩ := h1
    obtain ⟨b, hb⟩ := ih t ht
    obtain ⟨d, hd⟩ := hR r hr t ht
    exact ⟨a + b + c * d, by grind⟩
/-- k rows of R (the same one more than once, too) have a wedge that is not 0 -/
def Rk (p : Int) (n : Nat) (R : List (Nat → Int)) (k : Nat) : Prop := ∃ L : List (Nat → Int), L.length = k ∧ (∀ v ∈ L, v ∈ R) ∧ ¬ Zp p n (wedges L one)
theorem rk_span_aux {p : Int} {n : Nat} {R : List (Nat → Int)} (L : List (Nat → Int)) : ∀ A : List (Nat → Int), (∀ v ∈ A, v ∈ R) → (∀ v ∈ L, Span p n R v) → ¬ Zp p n (wedges A (wedges L one)) → Rk p n R (A.length + L.length) := by
  induction L with
  | nil => intro A hA _ h; exact ⟨A, rfl, hA, h⟩
  | cons v L ih =>
    intro A hA hL h
    have : ∃ r, r ∈ R ∧ ¬ Zp p n (wedges A (wedge r (wedges L one))) := by
      refine Classical.byContradiction fun hc => h ?_
      rw [wedges_cons]
      exact span_zp (hL v (List.mem_cons_self ..)) A _ (fun r hr => Classical.byContradiction fun h2 => hc ⟨r, hr, h2⟩)
    obtain ⟨r, hr, h2⟩ := this
    have h3 := ih (A ++ [r]) (fun v hv => by
      rcases List.mem_append.1 hv with h | h
      · exact hA v h
      · rw [List.mem_singleton.1 h]; exact hr) (fun v hv => hL v (List.mem_cons_of_mem _ hv)) (by rw [wedges_append]; exact h2)
    have e : (A ++ [r]).length + L.length = A.length + (v :: L).length := by simp; omega
    rw [e] at h3; exact h3
theorem rk_span {p : Int} {n : Nat} {E R : List (Nat → Int)} (h : ∀ v ∈ E, Span p n R v) {k : Nat} (hk : Rk p n E k) : Rk p n R k := by
  obtain ⟨L, h1, h2, h3⟩ := hk
  have := rk_span_aux L [] (fun v hv => by cases hv) (fun v hv => h v (h2 v hv)) h3
  rw [List.length_nil, Nat.zero_add, h1] at this
  exact this
theorem rk_mono {p : Int} {n : Nat} {E R : List (Nat → Int)} (h : ∀ v ∈ E, v ∈ R) {k : Nat} (hk : Rk p n E k) : Rk p n R k := by
  obtain ⟨L, h1, h2, h3⟩ := hk
  exact ⟨L, h1, fun v hv => h v (h2 v hv), h3⟩
theorem zp_wedge {p : Int} {n : Nat} (v : Nat → Int) {w : List Bool → Int} (h : Zp p n w) : Zp p n (wedge v w) := by
  intro t ht
  have := wedge_congr p t v v w (fun _ => 0) (fun i _ => ⟨0, by omega⟩) (fun s hs => by have := h s (by omega); simpa using this)
  rw [wedge_zero] at this; simpa using this
theorem rk_less {p : Int} {n : Nat} {R : List (Nat → Int)} {k : Nat} (hk : Rk p n R (k + 1)) : Rk p n R k := by
  obtain ⟨L, h1, h2, h3⟩ := hk
  cases L with
  | nil => cases h1
  | cons v L => exact ⟨L, by simpa using h1, fun u hu => h2 u (List.mem_cons_of_mem _ hu), fun h => h3 (zp_wedge v h)⟩
theorem rk_le {p : Int} {n : Nat} {R : List (Nat → Int)} {k m : Nat} (hk : Rk p n R k) (h : m ≤ k) : Rk p n R m := by
  obtain ⟨d, rfl⟩ : ∃ d, k = m + d := ⟨k - m, by omega⟩
  induction d with
  | zero => exact hk
  | succ d ih => exact ih (rk_less hk) (by omega)
theorem wedge_mem (v : Nat → Int) (L : List (Nat → Int)) (w : List Bool → Int) : v ∈ L → wedge v (wedges L w) = fun _ => 0 := by
  induction L with
  | nil => intro h; cases h
  | cons u L ih =>
    intro h
    funext t
    rw [wedges_cons]
    rcases List.mem_cons.1 h with rfl | h
    · exact wedge_twice t v _
    · rw [wedge_swap, ih h, wedge_zero]; rfl
theorem wedges_zero (A : List (Nat → Int)) : wedges A (fun _ => 0) = fun _ => 0 := by
  induction A with
  | nil => rfl
  | cons v A ih => rw [wedges_cons, ih]; funext t; exact wedge_zero t v
theorem nodup_of {p : Int} {n : Nat} (w : List Bool → Int) (L : List (Nat → Int)) : ¬ Zp p n (wedges L w) → L.Nodup := by
  induction L with
  | nil => intro _; exact List.nodup_nil
  | cons v L ih =>
    intro h
    rw [wedges_cons] at h
    refine List.nodup_cons.2 ⟨fun hm => h ?_, ih fun h2 => h (zp_wedge v h2)⟩
    rw [wedge_mem v L w hm]
    intro t _; exact ⟨0, by simp⟩
theorem pigeon {α : Type} (R : List α) : ∀ L : List α, L.Nodup → (∀ v ∈ L, v ∈ R) → L.length ≤ R.length := by
  induction R with
  | nil =>
    intro L _ h
    cases L with
    | nil => exact Nat.le_refl _
    | cons v L => cases h v (List.mem_cons_self ..)
  | cons r R ih =>
    intro L hn h
    by_cases hm : r ∈ L
    · obtain ⟨A, B, rfl⟩ := List.append_of_mem hm
      have hn2 : (r :: (A ++ B)).Nodup := (List.perm_middle.nodup_iff).1 hn
      obtain ⟨h1, h2⟩ := List.nodup_cons.1 hn2
      have := ih (A ++ B) h2 (fun v hv => by
        have h3 : v ∈ A ++ r :: B := by
          rcases List.mem_append.1 hv with h | h
          · exact List.mem_append.2 (.inl h)
          · exact List.mem_append.2 (.inr (List.mem_cons_of_mem _ h))
        rcases List.mem_cons.1 (h v h3) with rfl | h4
        · exact absurd hv h1
        · exact h4)
      simp only [List.length_append, List.length_cons] at this ⊢
      omega
    · have := ih L hn (fun v hv => by
        rcases List.mem_cons.1 (h v hv) with rfl | h4
        · exact absurd hv hm
        · exact h4)
      simp only [List.length_cons]; omega
theorem rk_pigeon {p : Int} {n : Nat} {R : List (Nat → Int)} {k : Nat} (hk : Rk p n R k) : k ≤ R.length := by
  obtain ⟨L, h1, h2, h3⟩ := hk
  rw [← h1]; exact pigeon R L (nodup_of one L h3) h2
/-- rows that repeat or change places -/
theorem wedges_dup (A B : List (Nat → Int)) (v : Nat → Int) (w : List Bool → Int) (h : v ∈ A ∨ v ∈ B) : wedges (A ++ v :: B) w = fun _ => 0 := by
  rw [wedges_append, wedges_cons]
  rcases h with h | h
  · induction A with
    | nil => cases h
    | cons u A ih =>
      rw [wedges_cons]
      rcases List.mem_cons.1 h with rfl | h
      · have : v ∈ A ++ [v] := by simp
        have h2 := wedge_mem v (A ++ [v]) (wedges B w) this
        rw [wedges_append] at h2; exact h2
      · rw [ih h]; funext t; exact wedge_zero t u
  · rw [wedge_mem v B w h, wedges_zero]
theorem wedges_step (A B : List (Nat → Int)) (u v : Nat → Int) (c : Int) (w : List Bool → Int) (h : u ∈ A ∨ u ∈ B) : wedges (A ++ (fun i => v i + c * u i) :: B) w = wedges (A ++ v :: B) w := by
  have h1 := wedges_dup A B u w h
  rw [wedges_append, wedges_cons] at h1 ⊢
  rw [wedge_lin, wedges_lin, h1, wedges_append, wedges_cons]
  funext t; dsimp only; omega
theorem wedges_swap (A B C : List (Nat → Int)) (u v : Nat → Int) (w : List Bool → Int) : wedges (A ++ u :: (B ++ v :: C)) w = fun t => - wedges (A ++ v :: (B ++ u :: C)) w t := by
  have e : ∀ c : Int, c = 1 → wedges (A ++ (fun i => u i + c * v i) :: (B ++ (fun i => u i + c * v i) :: C)) w = fun _ => 0 := fun c _ => wedges_dup A _ _ w (.inr (by simp))
  have h := e 1 rfl
  rw [wedges_append, wedges_cons, wedge_lin, wedges_lin] at h
  have g : ∀ x : Nat → Int, wedges A (wedge x (wedges (B ++ (fun i => u i + 1 * v i) :: C) w)) = fun t => wedges (A ++ x :: (B ++ u :: C)) w t + 1 * wedges (A ++ x :: (B ++ v :: C)) w t := by
    intro x
    have e1 : wedge x (wedges (B ++ (fun i => u i + 1 * v i) :: C) w) = wedges (x :: B) (wedge (fun i => u i + 1 * v i) (wedges C w)) := by rw [wedges_append, wedges_cons, wedges_cons]
    rw [e1, ← wedges_append, wedge_lin, wedges_lin]
    funext t
    rw [show (A ++ x :: (B ++ u :: C)) = (A ++ x :: B) ++ u :: C by simp, show (A ++ x :: (B ++ v :: C)) = (A ++ x :: B) ++ v :: C by simp, wedges_append (A ++ x :: B), wedges_append (A ++ x :: B), wedges_cons, wedges_cons]
  funext t
  have ht := congrFun h t
  simp only [g] at ht
  rw [wedges_dup A (B ++ u :: C) u w (.inr (by simp)), wedges_dup A (B ++ v :: C) v w (.inr (by simp))] at ht
  dsimp only at ht
  omega

end Go.Proofs.Ytbphdjnainlbhaa.Pure
