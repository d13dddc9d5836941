/- Winding: the program's step of a seaweed and the reference's are one, and each step makes a seaweed less. -/
import Derived.Test.YtoblagangofflaaPWeed2A
import Derived.Test.YtoblagangofflaaPConc
import Derived.Test.YtoblagangofflaaW2
import Derived.Test.YtoblagangofflaaW3
import Derived.Test.YtoblagangofflaaW4
import Derived.Test.YtoblagangofflaaW5
import Derived.Test.YtoblagangofflaaW6
set_option linter.unusedVariables false
set_option linter.unusedSimpArgs false
namespace Go.Proofs.Ytoblagangofflaa.Pure
open Go.RowKit Go.Proofs.Ytoblagangofflaa.W Go.Proofs.YtoblagangofflaaW.PrintWords Go.Proofs.YtoblagangofflaaW.PrintLast Go.Proofs.YtoblagangofflaaW.PrintMore

theorem own_val (l : List Int) (h : l.length ≤ 20) : spec_l1Own.f l = some l := by
  unfold spec_l1Own.f
  rw [Option.bind_some, if_pos (by simp; omega)]; rfl
theorem clone_val (l : List Int) (h : l.length ≤ 20) : slices_Clone_int_int.f l = some l := by
  unfold slices_Clone_int_int.f
  rw [if_pos (by omega)]
theorem put_val (x : Int) (l q : List Int) (h : l.length ≤ 20) (hq : q.length ≤ 20) : spec_swPut.f (x :: l) q = some (q ++ l) := by
  unfold spec_swPut.f
  rw [Option.bind_some, if_pos (by simp; omega), Option.bind_some, if_pos (by simp; omega), if_pos (by simp; omega)]
  simp
/-- the letter of a step, by the first parts -/
def wl (a b : Int) : UInt8 := if a < b then 70 else if a = b then 67 else if a = 2 * b then 66 else if a < 2 * b then 82 else 80
/-- the parts behind a step -/
def nx (a : Int) (t : List Int) (b : Int) (u : List Int) : List Int × List Int :=
  if a < b then (b :: u, a :: t) else if a = b then (t, u) else if a = 2 * b then (b :: t, u) else if a < 2 * b then (b :: t, (2 * b - a) :: u) else ((a - 2 * b) :: b :: t, u)
def Inv (t b : List Int) : Prop := (∀ x ∈ t, 1 ≤ x) ∧ (∀ x ∈ b, 1 ≤ x) ∧ t.sum = b.sum ∧ b.sum ≤ 20
theorem sum_len (l : List Int) (h : ∀ x ∈ l, 1 ≤ x) : (l.length : Int) ≤ l.sum := by
  induction l with
  | nil => simp
  | cons x l ih =>
    have h1 := h x (by simp)
    have h2 := ih (fun y hy => h y (by simp [hy]))
    simp only [List.length_cons, List.sum_cons]
    omega
theorem letter (a b : Int) (p q : List Int) : ∀ c : UInt8, c = wl a b → (p, q, (⟨#[c]⟩ : ByteArray)) = (p, q, (⟨#[wl a b]⟩ : ByteArray)) := fun c h => by rw [h]
theorem step_ev (a : Int) (t : List Int) (b : Int) (u : List Int) (h : Inv (a :: t) (b :: u)) (k : Nat) :
    spec_swStep.f (a :: t) (b :: u) = some ((nx a t b u).1, (nx a t b u).2, ⟨#[wl a b]⟩) ∧ impl_Seaweed_wound.f (k + 6) (a :: t) (b :: u) = some ((nx a t b u).1, (nx a t b u).2, ⟨#[wl a b]⟩) := by
  obtain ⟨h1, h2, h3, h4⟩ := h
  have ha := h1 a (by simp)
  have hb := h2 b (by simp)
  have lt_ := sum_len t (fun y hy => h1 y (by simp [hy]))
  have lu := sum_len u (fun y hy => h2 y (by simp [hy]))
  simp only [List.sum_cons] at h3 h4
  have r0 : rd (a :: t) 0 = a := rfl
  have r1 : rd (b :: u) 0 = b := rfl
  have d0 : (a :: t).drop 1 = t := rfl
  have d1 : (b :: u).drop 1 = u := rfl
  have w2 : wrap64 (2 * b) = 2 * b := wrap_id (by omega) (by omega)
  have w3 : wrap64 (2 * b - a) = 2 * b - a := wrap_id (by omega) (by omega)
  have w4 : wrap64 (a - 2 * b) = a - 2 * b := wrap_id (by omega) (by omega)
  have p0 : (0 : Int) < ((a :: t).length : Int) := by rw [List.length_cons]; omega
  have p1 : (0 : Int) < ((b :: u).length : Int) := by rw [List.length_cons]; omega
  have q0 : (1 : Int) ≤ ((a :: t).length : Int) := by rw [List.length_cons]; omega
  have q1 : (1 : Int) ≤ ((b :: u).length : Int) := by rw [List.length_cons]; omega
  unfold spec_swStep.f impl_Seaweed_wound.f nx wl
  simp only [if_pos p0, if_pos p1, if_pos q0, if_pos q1, r0, r1, d0, d1, w2, w3, w4, Option.bind_some]
  rw [own_val t (by omega), own_val u (by omega), own_val (a :: t) (by simp; omega), own_val (b :: u) (by simp; omega), clone_val t (by omega), clone_val u (by omega), clone_val (a :: t) (by simp; omega), clone_val (b :: u) (by simp; omega),
    put_val a t [b] (by omega) (by simp), put_val b u [2 * b - a] (by omega) (by simp), put_val a t [a - 2 * b, b] (by omega) (by simp), concat2_ev [b] t (by simp) (by omega) k, concat2_ev [2 * b - a] u (by simp) (by omega) k, concat2_ev [a - 2 * b, b] t (by simp) (by omega) k]
  simp only [Option.bind_some]
  by_cases c1 : a < b
  · simp only [if_pos c1, and_self]
  · by_cases c2 : a = b
    · simp only [if_neg c1, if_pos c2, and_self]
    · by_cases c3 : a = 2 * b
      · simp only [if_neg c1, if_neg c2, if_pos c3, List.singleton_append, and_self]
      · by_cases c4 : a < 2 * b
        · simp only [if_neg c1, if_neg c2, if_neg c3, if_pos c4, List.singleton_append, and_self]
        · simp only [if_neg c1, if_neg c2, if_neg c3, if_neg c4, List.cons_append, List.nil_append, and_self]
def bit (x y : Int) : Nat := if x < y then 1 else 0
theorem bit_le (x y : Int) : bit x y ≤ 1 := by unfold bit; split <;> omega
def meas (t b : List Int) : Nat := 2 * b.sum.toNat + bit (t.headD 0) (b.headD 0)
theorem meas_lo (t b : List Int) : 2 * b.sum.toNat ≤ meas t b := by unfold meas; omega
theorem meas_hi (t b : List Int) : meas t b ≤ 2 * b.sum.toNat + 1 := by unfold meas; have := bit_le (t.headD 0) (b.headD 0); omega
theorem sum_nonneg (l : List Int) (h : ∀ x ∈ l, 1 ≤ x) : 0 ≤ l.sum := by have := sum_len l h; omega
theorem inv_next (a : Int) (t : List Int) (b : Int) (u : List Int) (h : Inv (a :: t) (b :: u)) : Inv (nx a t b u).1 (nx a t b u).2 ∧ meas (nx a t b u).1 (nx a t b u).2 < meas (a :: t) (b :: u) := by
  obtain ⟨h1, h2, h3, h4⟩ := h
  have ha := h1 a (by simp)
  have hb := h2 b (by simp)
  have g1 : ∀ x ∈ t, 1 ≤ x := fun y hy => h1 y (by simp [hy])
  have g2 : ∀ x ∈ u, 1 ≤ x := fun y hy => h2 y (by simp [hy])
  have s1 := sum_nonneg t g1
  have s2 := sum_nonneg u g2
  simp only [List.sum_cons] at h3 h4
  unfold nx
  by_cases c1 : a < b
  · rw [if_pos c1]
    refine ⟨⟨h2, h1, by simp only [List.sum_cons]; omega, by simp only [List.sum_cons]; omega⟩, ?_⟩
    show 2 * (a :: t).sum.toNat + bit b a < 2 * (b :: u).sum.toNat + bit a b
    unfold bit
    rw [if_pos c1, if_neg (by omega)]
    simp only [List.sum_cons]
    omega
  rw [if_neg c1]
  by_cases c2 : a = b
  · rw [if_pos c2]
    refine ⟨⟨g1, g2, by show t.sum = u.sum; omega, by show u.sum ≤ 20; omega⟩, ?_⟩
    refine Nat.lt_of_le_of_lt (meas_hi _ _) (Nat.lt_of_lt_of_le ?_ (meas_lo _ _))
    simp only [List.sum_cons]
    omega
  rw [if_neg c2]
  by_cases c3 : a = 2 * b
  · rw [if_pos c3]
    refine ⟨⟨fun x hx => ?_, g2, by simp only [List.sum_cons]; omega, by show u.sum ≤ 20; omega⟩, ?_⟩
    · rcases List.mem_cons.1 hx with rfl | hx
      · exact hb
      · exact g1 x hx
    refine Nat.lt_of_le_of_lt (meas_hi _ _) (Nat.lt_of_lt_of_le ?_ (meas_lo _ _))
    simp only [List.sum_cons]
    omega
  rw [if_neg c3]
  by_cases c4 : a < 2 * b
  · rw [if_pos c4]
    refine ⟨⟨fun x hx => ?_, fun x hx => ?_, by simp only [List.sum_cons]; omega, by simp only [List.sum_cons]; omega⟩, ?_⟩
    · rcases List.mem_cons.1 hx with rfl | hx
      · exact hb
      · exact g1 x hx
    · rcases List.mem_cons.1 hx with rfl | hx
      · omega
      · exact g2 x hx
    refine Nat.lt_of_le_of_lt (meas_hi _ _) (Nat.lt_of_lt_of_le ?_ (meas_lo _ _))
    simp only [List.sum_cons]
    omega
  rw [if_neg c4]
  refine ⟨⟨fun x hx => ?_, g2, by simp only [List.sum_cons]; omega, by show u.sum ≤ 20; omega⟩, ?_⟩
  · rcases List.mem_cons.1 hx with rfl | hx
    · omega
    · rcases List.mem_cons.1 hx with rfl | hx
      · exact hb
      · exact g1 x hx
  refine Nat.lt_of_le_of_lt (meas_hi _ _) (Nat.lt_of_lt_of_le ?_ (meas_lo _ _))
  simp only [List.sum_cons]
  omega
/-- a seaweed that has parts above has some below -/
theorem inv_shape (t b : List Int) (h : Inv t b) : (t = [] ∧ b = []) ∨ ∃ a t' c u, t = a :: t' ∧ b = c :: u := by
  obtain ⟨h1, h2, h3, h4⟩ := h
  cases t with
  | nil =>
    cases b with
    | nil => exact .inl ⟨rfl, rfl⟩
    | cons c u =>
      have := sum_len (c :: u) h2
      simp only [List.sum_nil, List.length_cons] at h3 this
      omega
  | cons a t' =>
    cases b with
    | nil =>
      have := sum_len (a :: t') h1
      simp only [List.sum_nil, List.length_cons] at h3 this
      omega
    | cons c u => exact .inr ⟨a, t', c, u, rfl, rfl⟩
theorem sumw_aux (l : List Int) : ∀ (s : Int), 0 ≤ s → s + 20 * l.length ≤ 1000000 → (∀ x ∈ l, 1 ≤ x ∧ x ≤ 20) → l.foldl (fun s x => wrap64 (s + x)) s = s + l.sum := by
  induction l with
  | nil => intro s _ _ _; simp
  | cons x l ih =>
    intro s h0 h1 h2
    have hx := h2 x (by simp)
    simp only [List.length_cons] at h1
    rw [List.foldl_cons, wrap_id (by omega) (by omega), ih (s + x) (by omega) (by omega) (fun y hy => h2 y (by simp [hy])), List.sum_cons]
    omega
theorem inv_of_weed {a b : List Int} (h : weed a b = true) : Inv a b := by
  unfold weed at h
  simp only [Bool.and_eq_true, beq_iff_eq] at h
  obtain ⟨⟨ha, hb⟩, hs⟩ := h
  have e1 : sumw a = a.sum := by have := sumw_aux a 0 (by omega) (by have := parts_len ha; omega) (parts_in ha); unfold sumw; omega
  have e2 : sumw b = b.sum := by have := sumw_aux b 0 (by omega) (by have := parts_len hb; omega) (parts_in hb); unfold sumw; omega
  refine ⟨fun x hx => (parts_in ha x hx).1, fun x hx => (parts_in hb x hx).1, by omega, ?_⟩
  simp only [parts, Bool.and_eq_true, decide_eq_true_eq] at hb
  omega
/-- the letters told one by one -/
def lets (w : ByteArray) (l : List UInt8) : ByteArray := l.foldl (fun w c => w ++ ⟨#[c]⟩) w
/-- the seaweeds ahead of each step, and the letters -/
def tr : Nat → List Int → List Int → List (S26 × UInt8)
  | d + 1, a :: t, b :: u => (⟨a :: t, b :: u⟩, wl a b) :: tr d (nx a t b u).1 (nx a t b u).2
  | _, _, _ => []
theorem size_one (c : UInt8) : (⟨#[c]⟩ : ByteArray).size = 1 := rfl
theorem size_app (w : ByteArray) (c : UInt8) : (w ++ (⟨#[c]⟩ : ByteArray)).size = w.size + 1 := by
  rw [ByteArray.size_append, size_one]
theorem toList_one (c : UInt8) : (⟨#[c]⟩ : ByteArray).toList = [c] := by
  simp [ByteArray.toList, ByteArray.toList.loop, ByteArray.size, ByteArray.get!]
theorem word_l0 (d : Nat) : ∀ (t b : List Int) (w : ByteArray) (k : Nat), Inv t b → meas t b < d → d ≤ k → w.size + d ≤ 1000 →
    spec_WindWord.l0 k w t b = some (lets w ((tr d t b).map (·.2)), true) := by
  induction d with
  | zero => intro t b w k _ h; omega
  | succ d ih =>
    intro t b w k hI hm hk hw
    obtain ⟨k, rfl⟩ : ∃ m, k = m + 1 := ⟨k - 1, by omega⟩
    rcases inv_shape t b hI with ⟨rfl, rfl⟩ | ⟨a, t', c, u, rfl, rfl⟩
    · rw [spec_WindWord.l0, if_neg (by simp)]; rfl
    · rw [spec_WindWord.l0, if_pos (by simp), (step_ev a t' c u hI 0).1, Option.bind_some, if_pos (by rw [size_one]; omega)]
      obtain ⟨h1, h2⟩ := inv_next a t' c u hI
      rw [ih _ _ _ k h1 (by omega) (by omega) (by rw [size_app]; omega)]
      rfl
theorem run_l0 (d : Nat) : ∀ (t b : List Int) (w : ByteArray) (A : List S26) (k : Nat), Inv t b → meas t b < d → d + 6 ≤ k → w.size + d ≤ 1000 → A.length + d ≤ 1000 →
    ∃ fin, impl_Seaweed_run.l0 k (A ++ [⟨t, b⟩]) w t b = some (A ++ (tr d t b).map (·.1) ++ [fin], lets w ((tr d t b).map (·.2))) := by
  induction d with
  | zero => intro t b w A k _ h; omega
  | succ d ih =>
    intro t b w A k hI hm hk hw hA
    obtain ⟨k, rfl⟩ : ∃ m, k = m + 1 := ⟨k - 1, by omega⟩
    rcases inv_shape t b hI with ⟨rfl, rfl⟩ | ⟨a, t', c, u, rfl, rfl⟩
    · refine ⟨⟨[], []⟩, ?_⟩
      rw [impl_Seaweed_run.l0, if_neg (by simp)]
      simp [tr, lets]
    · obtain ⟨k2, hk2⟩ : ∃ m, k = m + 6 := ⟨k - 6, by omega⟩
      obtain ⟨h1, h2⟩ := inv_next a t' c u hI
      obtain ⟨fin, hf⟩ := ih _ _ (w ++ ⟨#[wl a c]⟩) (A ++ [⟨a :: t', c :: u⟩]) k h1 (by omega) (by omega) (by rw [size_app]; omega) (by simp; omega)
      refine ⟨fin, ?_⟩
      rw [impl_Seaweed_run.l0, if_pos (by simp), if_pos (by simp; omega)]
      rw [hk2, (step_ev a t' c u hI k2).2, Option.bind_some, if_pos (by rw [size_one]; omega), ← hk2]
      rw [hf]
      simp [tr, lets]
theorem meas_le (t b : List Int) (h : Inv t b) : meas t b < 50 := by
  obtain ⟨_, h2, _, h4⟩ := h
  have := meas_hi t b
  omega

end Go.Proofs.Ytoblagangofflaa.Pure
