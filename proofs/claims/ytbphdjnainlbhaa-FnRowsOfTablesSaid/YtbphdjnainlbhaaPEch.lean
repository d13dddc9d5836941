/- Rows in steps modulo a prime: their rank is their number, and their determinant the product of their pivots; one step of the elimination keeps spans and determinants. -/
import Derived.Test.YtbphdjnainlbhaaPRank
set_option linter.unusedVariables false
set_option linter.unusedSimpArgs false
namespace Go.Proofs.Ytbphdjnainlbhaa.Pure
open Go.RowKit Go.Proofs.Ytbphdjnainlbhaa.R Go.Proofs.YtbphdjnainlbhaaW.PrintWords Go.Proofs.YtbphdjnainlbhaaW.PrintLast Go.Proofs.YtbphdjnainlbhaaW.PrintMore

def tl (v : Nat → Int) : Nat → Int := fun i => v (i + 1)
/-- rows with pivots at columns that grow -/
def Piv (p : Int) (n : Nat) : Nat → List (Nat → Int) → Prop
  | _, [] => True
  | lo, e :: L => ∃ c, lo ≤ c ∧ c < n ∧ ¬ p ∣ e c ∧ (∀ j, j < c → p ∣ e j) ∧ Piv p n (c + 1) L
theorem piv_lo {p : Int} {n : Nat} {lo lo' : Nat} (L : List (Nat → Int)) (h : lo' ≤ lo) (hp : Piv p n lo L) : Piv p n lo' L := by
  cases L with
  | nil => trivial
  | cons e L => obtain ⟨c, h1, h2⟩ := hp; exact ⟨c, by omega, h2⟩
theorem piv_hi {p : Int} {n n' : Nat} (h : n ≤ n') (L : List (Nat → Int)) : ∀ lo, Piv p n lo L → Piv p n' lo L := by
  induction L with
  | nil => intro lo _; trivial
  | cons e L ih => intro lo hp; obtain ⟨c, h1, h2, h3, h4, h5⟩ := hp; exact ⟨c, h1, by omega, h3, h4, ih _ h5⟩
theorem piv_shift {p : Int} {n : Nat} (L : List (Nat → Int)) : ∀ lo, Piv p (n + 1) (lo + 1) L → Piv p n lo (L.map tl) := by
  induction L with
  | nil => intro lo _; trivial
  | cons e L ih =>
    intro lo hp
    obtain ⟨c, h1, h2, h3, h4, h5⟩ := hp
    obtain ⟨c, rfl⟩ : ∃ d, c = d + 1 := ⟨c - 1, by omega⟩
    exact ⟨c, by omega, by omega, h3, fun j hj => h4 (j + 1) (by omega), ih _ h5⟩
theorem piv_before {p : Int} {n : Nat} (L : List (Nat → Int)) : ∀ lo, Piv p n lo L → ∀ v ∈ L, ∀ j, j < lo → p ∣ v j := by
  induction L with
  | nil => intro lo _ v hv; cases hv
  | cons e L ih =>
    intro lo hp v hv j hj
    obtain ⟨c, h1, h2, h3, h4, h5⟩ := hp
    rcases List.mem_cons.1 hv with rfl | hv
    · exact h4 j (by omega)
    · exact ih _ h5 v hv j (by omega)
theorem piv_snoc {p : Int} {j : Nat} (v : Nat → Int) (hv : ¬ p ∣ v j) (h0 : ∀ i, i < j → p ∣ v i) (L : List (Nat → Int)) : ∀ lo, lo ≤ j → Piv p j lo L → Piv p (j + 1) lo (L ++ [v]) := by
  induction L with
  | nil => intro lo hl _; exact ⟨j, hl, by omega, hv, h0, trivial⟩
  | cons e L ih =>
    intro lo hl hp
    obtain ⟨c, h1, h2, h3, h4, h5⟩ := hp
    exact ⟨c, h1, by omega, h3, h4, ih _ (by omega) h5⟩
theorem piv_length {p : Int} {n : Nat} (L : List (Nat → Int)) : ∀ lo, lo ≤ n → Piv p n lo L → L.length + lo ≤ n := by
  induction L with
  | nil => intro lo h _; simpa using h
  | cons e L ih =>
    intro lo h hp
    obtain ⟨c, h1, h2, h3, h4, h5⟩ := hp
    have := ih (c + 1) (by omega) h5
    simp only [List.length_cons]; omega
theorem wedges_false (L : List (Nat → Int)) (w : List Bool → Int) : (fun t => wedges L w (false :: t)) = wedges (L.map tl) (fun t => w (false :: t)) := by
  induction L with
  | nil => rfl
  | cons v L ih => rw [List.map_cons, wedges_cons, wedges_cons, ← ih]; rfl
theorem wedges_true {p : Int} {n : Nat} (L : List (Nat → Int)) (h : ∀ v ∈ L, p ∣ v 0) : Zp p n (fun t => wedges L one (true :: t)) := by
  induction L with
  | nil => intro t _; exact ⟨0, by simp [wedges, one]⟩
  | cons v L ih =>
    intro t ht
    obtain ⟨a, ha⟩ := h v (List.mem_cons_self ..)
    obtain ⟨b, hb⟩ := zp_wedge (tl v) (ih fun u hu => h u (List.mem_cons_of_mem _ hu)) t ht
    refine ⟨a * wedges L one (false :: t) - b, ?_⟩
    show v 0 * wedges L one (false :: t) - wedge (tl v) (fun t => wedges L one (true :: t)) t = _
    rw [ha, hb]; grind
theorem one_false (n : Nat) : one (List.replicate n false) = 1 := by
  induction n with
  | zero => rfl
  | succ n ih => exact ih
theorem piv_nz {p : Int} (hp : ∀ a b : Int, p ∣ a * b → p ∣ a ∨ p ∣ b) (h1 : ¬ p ∣ 1) (n : Nat) : ∀ L : List (Nat → Int), Piv p n 0 L → ∃ t, t.length = n ∧ ¬ p ∣ wedges L one t := by
  induction n with
  | zero =>
    intro L h
    cases L with
    | nil => exact ⟨[], rfl, h1⟩
    | cons e L => obtain ⟨c, _, h2, _⟩ := h; omega
  | succ n ih =>
    intro L h
    cases L with
    | nil => exact ⟨List.replicate (n + 1) false, by simp, by rw [wedges_nil, one_false]; exact h1⟩
    | cons e L =>
      obtain ⟨c, h2, h3, h4, h5, h6⟩ := h
      by_cases hc : c = 0
      · subst hc
        obtain ⟨t, ht, hn⟩ := ih (L.map tl) (piv_shift L 0 h6)
        refine ⟨true :: t, by simp [ht], fun hd => ?_⟩
        have hz := zp_wedge (tl e) (wedges_true (n := n) L fun v hv => piv_before L _ h6 v hv 0 (by omega)) t ht
        have hd2 : p ∣ e 0 * wedges L one (false :: t) - wedge (tl e) (fun t => wedges L one (true :: t)) t := hd
        have e1 : wedges L one (false :: t) = wedges (L.map tl) one t := congrFun (wedges_false L one) t
        rw [e1] at hd2
        have hd3 : p ∣ e 0 * wedges (L.map tl) one t := by
          obtain ⟨a, ha⟩ := hd2
          obtain ⟨b, hb⟩ := hz
          exact ⟨a + b, by grind⟩
        rcases hp _ _ hd3 with h | h
        · exact h4 h
        · exact hn h
      · obtain ⟨t, ht, hn⟩ := ih ((e :: L).map tl) (piv_shift (e :: L) 0 ⟨c, by omega, h3, h4, h5, h6⟩)
        refine ⟨false :: t, by simp [ht], ?_⟩
        have e1 : wedges (e :: L) one (false :: t) = wedges ((e :: L).map tl) one t := congrFun (wedges_false (e :: L) one) t
        rw [e1]; exact hn
/-- the product of the pivots of a triangle -/
def dtop : Nat → List (Nat → Int) → Int
  | _, [] => 1
  | k, e :: L => e k * dtop (k + 1) L
theorem dtop_snoc (L : List (Nat → Int)) (v : Nat → Int) : ∀ k, dtop k (L ++ [v]) = dtop k L * v (k + L.length) := by
  induction L with
  | nil => intro k; simp [dtop]
  | cons e L ih =>
    intro k
    show e k * dtop (k + 1) (L ++ [v]) = e k * dtop (k + 1) L * v (k + (L.length + 1))
    rw [ih, show k + 1 + L.length = k + (L.length + 1) by omega, Int.mul_assoc]
theorem dtop_tl (L : List (Nat → Int)) : ∀ k, dtop k (L.map tl) = dtop (k + 1) L := by
  induction L with
  | nil => intro k; rfl
  | cons e L ih => intro k; show tl e k * dtop (k + 1) (L.map tl) = e (k + 1) * dtop (k + 2) L; rw [ih]; rfl
/-- the determinant of n rows -/
def det (n : Nat) (L : List (Nat → Int)) : Int := wedges L one (List.replicate n true)
theorem det_tri {p : Int} (n : Nat) : ∀ L : List (Nat → Int), L.length = n → Piv p n 0 L → p ∣ det n L - dtop 0 L := by
  induction n with
  | zero => intro L hL _; rw [List.eq_nil_of_length_eq_zero hL]; exact ⟨0, by simp [det, dtop, wedges, one]⟩
  | succ n ih =>
    intro L hL hp
    cases L with
    | nil => cases hL
    | cons e L =>
      obtain ⟨c, h2, h3, h4, h5, h6⟩ := hp
      have hz := zp_wedge (tl e) (wedges_true (n := n) L fun v hv => piv_before L _ h6 v hv 0 (by omega)) (List.replicate n true) (by simp)
      obtain ⟨a, ha⟩ := ih (L.map tl) (by simpa using hL) (piv_shift L 0 (piv_lo L (by omega) h6))
      obtain ⟨b, hb⟩ := hz
      have e1 : wedges L one (false :: List.replicate n true) = wedges (L.map tl) one (List.replicate n true) := congrFun (wedges_false L one) _
      rw [dtop_tl] at ha
      have e2 : det (n + 1) (e :: L) = e 0 * wedges L one (false :: List.replicate n true) - wedge (tl e) (fun t => wedges L one (true :: t)) (List.replicate n true) := rfl
      rw [e2, e1, hb]
      have ha' : wedges (L.map tl) one (List.replicate n true) - dtop 1 L = p * a := ha
      refine ⟨e 0 * a - b, ?_⟩
      show e 0 * wedges (L.map tl) one (List.replicate n true) - p * b - e 0 * dtop 1 L = _
      grind
/-- rows changed one by one -/
inductive All2 {α β : Type} (P : α → β → Prop) : List α → List β → Prop
  | nil : All2 P [] []
  | cons {a : α} {b : β} {A : List α} {B : List β} : P a b → All2 P A B → All2 P (a :: A) (b :: B)
theorem All2.length {α β : Type} {P : α → β → Prop} {A : List α} {B : List β} (h : All2 P A B) : A.length = B.length := by
  induction h with
  | nil => rfl
  | cons _ _ ih => simp [ih]
/-- a is b and a multiple of v -/
def Stepped (p : Int) (n : Nat) (v : Nat → Int) (a b : Nat → Int) : Prop := ∃ c, ∀ i, i < n → p ∣ a i - (b i + c * v i)
theorem steps_wedges {p : Int} {n : Nat} (v : Nat → Int) {A B : List (Nat → Int)} (h : All2 (Stepped p n v) A B) : ∀ T : List (Nat → Int), v ∈ T → ∀ t, t.length = n → p ∣ wedges (T ++ A) one t - wedges (T ++ B) one t := by
  induction h with
  | nil => intro T _ t _; exact ⟨0, by omega⟩
  | @cons a b A B h _ ih =>
    intro T hT t ht
    obtain ⟨c, hc⟩ := h
    obtain ⟨x, hx⟩ := ih (T ++ [a]) (List.mem_append.2 (.inl hT)) t ht
    have h1 : p ∣ wedges (T ++ a :: B) one t - wedges (T ++ (fun i => b i + c * v i) :: B) one t := by
      rw [wedges_append, wedges_append, wedges_cons, wedges_cons]
      exact wedges_congr p n T _ _ (fun s hs => wedge_congr p s _ _ _ _ (fun i hi => hc i (by omega)) (fun r _ => ⟨0, by omega⟩)) t ht
    rw [wedges_step T B v b c one (.inl hT)] at h1
    obtain ⟨y, hy⟩ := h1
    rw [List.append_assoc, List.append_assoc, List.singleton_append, List.singleton_append] at hx
    exact ⟨x + y, by grind⟩
theorem span_mem {p : Int} {n : Nat} {R : List (Nat → Int)} {v : Nat → Int} (h : v ∈ R) : Span p n R v :=
  .add v v (fun _ => 0) 1 h (.zero _ fun i _ => ⟨0, by simp⟩) (fun i _ => ⟨0, by simp⟩)
theorem span_add {p : Int} {n : Nat} {R : List (Nat → Int)} {a b v : Nat → Int} (c : Int) (ha : Span p n R a) (hb : Span p n R b) (h : ∀ i, i < n → p ∣ v i - (a i + c * b i)) : Span p n R v := by
  induction hb generalizing v with
  | zero u hu =>
    induction ha generalizing v with
    | zero x hx =>
      exact .zero _ fun i hi => by
        obtain ⟨k, hk⟩ := h i hi
        obtain ⟨l, hl⟩ := hu i hi
        obtain ⟨m, hm⟩ := hx i hi
        exact ⟨k + m + c * l, by grind⟩
    | add x r y d hr hy hx _ =>
      exact .add v r y d hr hy fun i hi => by
        obtain ⟨k, hk⟩ := h i hi
        obtain ⟨l, hl⟩ := hu i hi
        obtain ⟨m, hm⟩ := hx i hi
        exact ⟨k + m + c * l, by grind⟩
  | add u r y d hr hy hu ih =>
    have h2 : Span p n R (fun i => a i + c * y i) := ih fun i hi => ⟨0, by simp⟩
    exact .add v r _ (c * d) hr h2 fun i hi => by
      obtain ⟨k, hk⟩ := h i hi
      obtain ⟨l, hl⟩ := hu i hi
      exact ⟨k + c * l, by grind⟩
theorem span_trans {p : Int} {n : Nat} {R E : List (Nat → Int)} (h : ∀ r ∈ R, Span p n E r) {v : Nat → Int} (hv : Span p n R v) : Span p n E v := by
  induction hv with
  | zero u hu => exact .zero u hu
  | add u r y d hr _ hu ih => exact span_add d ih (h r hr) hu

end Go.Proofs.Ytbphdjnainlbhaa.Pure
