/- The rank of n rows over the whole numbers: full exactly if the determinant is not 0, and that of the columns. -/
import Derived.Test.YtbphdjnainlbhaaPTransp
set_option linter.unusedVariables false
set_option linter.unusedSimpArgs false
namespace Go.Proofs.Ytbphdjnainlbhaa.Pure
open Go.RowKit Go.Proofs.Ytbphdjnainlbhaa.R Go.Proofs.YtbphdjnainlbhaaW.PrintWords Go.Proofs.YtbphdjnainlbhaaW.PrintLast Go.Proofs.YtbphdjnainlbhaaW.PrintMore

theorem wedges_deg (L : List (Nat → Int)) : ∀ t, t.count true ≠ L.length → wedges L one t = 0 := by
  have h1 : ∀ t : List Bool, t.count true ≠ 0 → one t = 0 := by
    intro t
    induction t with
    | nil => intro h; exact absurd rfl h
    | cons b t ih =>
      intro h
      cases b with
      | false => exact ih (by simpa using h)
      | true => rfl
  have h2 : ∀ (t : List Bool) (v : Nat → Int) (w : List Bool → Int) (k : Nat), (∀ s, s.count true ≠ k → w s = 0) → t.count true ≠ k + 1 → wedge v w t = 0 := by
    intro t
    induction t with
    | nil => intro v w k _ _; rfl
    | cons b t ih =>
      intro v w k hw h
      cases b with
      | false => exact ih _ _ k (fun s hs => hw (false :: s) (by simpa using hs)) (by simpa using h)
      | true =>
        have hc : t.count true ≠ k := by simpa using h
        show v 0 * w (false :: t) - wedge (fun i => v (i + 1)) (fun t => w (true :: t)) t = 0
        rw [hw (false :: t) (by simpa using hc)]
        cases k with
        | zero =>
          have e : (fun t => w (true :: t)) = fun _ => 0 := by funext t; exact hw _ (by simp)
          rw [e, wedge_zero]; omega
        | succ k =>
          rw [ih (fun i => v (i + 1)) (fun t => w (true :: t)) k (fun s hs => hw (true :: s) (by simpa using hs)) hc]; omega
  induction L with
  | nil => exact h1
  | cons v L ih => intro t ht; exact h2 t v _ L.length ih ht
theorem count_all (t : List Bool) (h : t.count true = t.length) : t = List.replicate t.length true := by
  induction t with
  | nil => rfl
  | cons b t ih =>
    cases b with
    | false =>
      have := List.count_le_length (a := true) (l := t)
      simp at h; omega
    | true => rw [List.length_cons, List.replicate_succ, ← ih (by simpa using h)]
theorem perm_sign {L R : List (Nat → Int)} (h : L.Perm R) : ∃ s : Int, (s = 1 ∨ s = -1) ∧ wedges L one = fun t => s * wedges R one t := by
  induction h with
  | nil => exact ⟨1, .inl rfl, by funext t; omega⟩
  | @cons x A B _ ih =>
    obtain ⟨s, h1, h2⟩ := ih
    refine ⟨s, h1, ?_⟩
    rw [wedges_cons, h2, wedges_cons]; funext t; rw [wedge_smulw]
  | swap x y A =>
    refine ⟨-1, .inr rfl, ?_⟩
    funext t
    rw [wedges_cons, wedges_cons, wedges_cons, wedges_cons, wedge_swap]; omega
  | trans _ _ ih1 ih2 =>
    obtain ⟨s, h1, h2⟩ := ih1
    obtain ⟨u, h3, h4⟩ := ih2
    refine ⟨s * u, ?_, ?_⟩
    · rcases h1 with rfl | rfl <;> rcases h3 with rfl | rfl <;> decide
    · rw [h2, h4]; funext t; rw [Int.mul_assoc]
theorem perm_full {α : Type} (R : List α) : ∀ L : List α, L.Nodup → (∀ v ∈ L, v ∈ R) → R.length ≤ L.length → L.Perm R := by
  induction R with
  | nil =>
    intro L _ h _
    cases L with
    | nil => exact .nil
    | cons v L => cases h v (List.mem_cons_self ..)
  | cons r R ih =>
    intro L hn h hl
    have hm : r ∈ L := by
      refine Classical.byContradiction fun hm => ?_
      have := pigeon R L hn (fun v hv => by
        rcases List.mem_cons.1 (h v hv) with rfl | h4
        · exact absurd hv hm
        · exact h4)
      simp only [List.length_cons] at hl; omega
    obtain ⟨A, B, rfl⟩ := List.append_of_mem hm
    have hp : (A ++ r :: B).Perm (r :: (A ++ B)) := List.perm_middle
    obtain ⟨h1, h2⟩ := List.nodup_cons.1 (hp.nodup_iff.1 hn)
    refine hp.trans (.cons r (ih (A ++ B) h2 (fun v hv => ?_) ?_))
    · rcases List.mem_cons.1 (h v (hp.mem_iff.2 (List.mem_cons_of_mem _ hv))) with rfl | h4
      · exact absurd hv h1
      · exact h4
    · simp only [List.length_append, List.length_cons] at hl ⊢; omega
theorem rank_full {n : Nat} {R : List (Nat → Int)} (hR : R.length = n) : Rk 0 n R n ↔ det n R ≠ 0 := by
  constructor
  · rintro ⟨L, h1, h2, h3⟩ h0
    have hp := perm_full R L (nodup_of one L h3) h2 (by omega)
    obtain ⟨s, _, hs⟩ := perm_sign hp
    refine h3 fun t ht => ?_
    by_cases hc : t.count true = L.length
    · have e := count_all t (by omega)
      rw [hs, e, ht]
      show (0 : Int) ∣ s * det n R
      rw [h0]; exact ⟨0, by simp⟩
    · rw [wedges_deg L t hc]; exact ⟨0, by simp⟩
  · intro h
    exact ⟨R, hR, fun _ hv => hv, fun hz => h (Int.zero_dvd.1 (hz (List.replicate n true) (by simp)))⟩
/-- a row more makes the rank greater by one at most -/
theorem rk_more {p : Int} {n : Nat} {R : List (Nat → Int)} {v : Nat → Int} {k : Nat} (h : Rk p n (R ++ [v]) (k + 1)) : Rk p n R k := by
  obtain ⟨L, h1, h2, h3⟩ := h
  have hn := nodup_of one L h3
  by_cases hm : v ∈ L
  · obtain ⟨A, B, rfl⟩ := List.append_of_mem hm
    have hp : (A ++ v :: B).Perm (v :: (A ++ B)) := List.perm_middle
    obtain ⟨g1, g2⟩ := List.nodup_cons.1 (hp.nodup_iff.1 hn)
    obtain ⟨s, _, hs⟩ := perm_sign hp
    refine ⟨A ++ B, by simp only [List.length_append, List.length_cons] at h1 ⊢; omega, fun u hu => ?_, fun hz => h3 ?_⟩
    · have := h2 u (hp.mem_iff.2 (List.mem_cons_of_mem _ hu))
      rcases List.mem_append.1 this with h | h
      · exact h
      · rw [List.mem_singleton.1 h] at hu; exact absurd hu g1
    · intro t ht
      rw [hs]
      obtain ⟨c, hc⟩ := zp_wedge v hz t ht
      rw [wedges_cons]
      dsimp only
      rw [hc]; exact ⟨s * c, by grind⟩
  · have : Rk p n R (k + 1) := ⟨L, h1, fun u hu => by
      rcases List.mem_append.1 (h2 u hu) with h | h
      · exact h
      · rw [List.mem_singleton.1 h] at hu; exact absurd hu hm, h3⟩
    exact rk_less this
/-- the elimination can always be done -/
theorem st_exists {p : Nat} (hp : Prime p) (n : Nat) (R : List (Nat → Int)) (j : Nat) (hj : j ≤ n) : ∃ top rest d, St (p : Int) n R j top rest d := by
  induction j with
  | zero =>
    have : All2 (Same (p : Int) n) R R := by
      induction R with
      | nil => exact .nil
      | cons v R ih => exact .cons (fun i _ => ⟨0, by omega⟩) ih
    exact ⟨_, _, _, st_start this⟩
  | succ j ih =>
    obtain ⟨top, rest, d, h⟩ := ih (by omega)
    by_cases hz : ∀ v ∈ rest, (p : Int) ∣ v j
    · exact ⟨_, _, _, st_none h hz⟩
    · have : ∃ v, v ∈ rest ∧ ¬ (p : Int) ∣ v j := Classical.byContradiction fun hc => hz fun v hv => Classical.byContradiction fun h2 => hc ⟨v, hv, h2⟩
      obtain ⟨v, hv, hnd⟩ := this
      have hrest : ∃ rest1 d1, St (p : Int) n R j top (v :: rest1) d1 := by
        obtain ⟨A, B, rfl⟩ := List.append_of_mem hv
        cases A with
        | nil => exact ⟨B, d, h⟩
        | cons a A => exact ⟨A ++ a :: B, -d, st_swap h ⟨0, by omega⟩ (by omega)⟩
      obtain ⟨rest1, d1, h1⟩ := hrest
      have hinv : ∃ b : Int, (p : Int) ∣ v j * b - 1 := by
        have e1 := hp.1
        have hnat : ¬ p ∣ (v j % (p : Int)).toNat := by
          intro hd
          have g1 := Int.emod_nonneg (v j) (by omega : (p : Int) ≠ 0)
          have g2 : (p : Int) ∣ (v j % (p : Int)) := by
            have := Int.natCast_dvd_natCast.2 hd
            rw [Int.toNat_of_nonneg g1] at this; exact this
          have g3 : (p : Int) ∣ v j - v j % (p : Int) := Int.dvd_self_sub_emod
          have := Int.dvd_add g3 g2
          rw [Int.sub_add_cancel] at this; exact hnd this
        have hf := fermat hp _ hnat
        refine ⟨(((v j % (p : Int)).toNat ^ (p - 2) : Nat) : Int), ?_⟩
        have g1 := Int.emod_nonneg (v j) (by omega : (p : Int) ≠ 0)
        have g3 : (p : Int) ∣ v j - v j % (p : Int) := Int.dvd_self_sub_emod
        have e2 : (v j % (p : Int)).toNat ^ (p - 1) = (v j % (p : Int)).toNat * (v j % (p : Int)).toNat ^ (p - 2) := by
          rw [show p - 1 = p - 2 + 1 by omega, Nat.pow_succ, Nat.mul_comm]
        rw [e2] at hf
        have g4 : p ∣ (v j % (p : Int)).toNat * (v j % (p : Int)).toNat ^ (p - 2) - 1 := mod_dvd (by rw [hf]; exact Nat.mod_eq_of_lt (by omega))
        have hpos : 1 ≤ (v j % (p : Int)).toNat * (v j % (p : Int)).toNat ^ (p - 2) := by
          refine Nat.pos_of_ne_zero fun h => ?_
          rw [h, Nat.zero_mod] at hf; omega
        obtain ⟨c, hc⟩ := g4
        obtain ⟨k, hk⟩ := g3
        have hc' : (((v j % (p : Int)).toNat : Nat) : Int) * (((v j % (p : Int)).toNat ^ (p - 2) : Nat) : Int) = (p : Int) * (c : Int) + 1 := by
          rw [← Int.natCast_mul, ← Int.natCast_mul]; omega
        rw [Int.toNat_of_nonneg g1] at hc'
        refine ⟨c + k * (((v j % (p : Int)).toNat ^ (p - 2) : Nat) : Int), ?_⟩
        generalize (((v j % (p : Int)).toNat ^ (p - 2) : Nat) : Int) = X at *
        generalize v j % (p : Int) = Y at *
        clear hf hpos hc e2
        grind
      obtain ⟨b, hb⟩ := hinv
      have hs : All2 (fun x y => Stepped (p : Int) n v x y ∧ (p : Int) ∣ x j) (rest1.map fun a i => a i + (- (a j * b)) * v i) rest1 := by
        clear h1
        induction rest1 with
        | nil => exact .nil
        | cons a A ih =>
          refine .cons ⟨⟨- (a j * b), fun i _ => ⟨0, by simp⟩⟩, ?_⟩ ih
          obtain ⟨k, hk⟩ := hb
          exact ⟨-(a j * k), by grind⟩
      exact ⟨_, _, _, st_pivot h1 (by omega) hnd hs ⟨0, by rw [Int.mul_zero]; exact Int.sub_self _⟩ (fun h => by rw [h, Int.zero_mul])⟩
/-- the rank of the columns is at most that of the rows -/
theorem span_coef {p : Int} {n : Nat} {T : List (Nat → Int)} {v : Nat → Int} (h : Span p n T v) : ∃ c : Nat → Int, ∀ i, i < n → p ∣ v i - ((List.range T.length).map fun k => c k * (T.getD k (fun _ => 0)) i).sum := by
  induction h with
  | zero u hu =>
    refine ⟨fun _ => 0, fun i hi => ?_⟩
    have : ((List.range T.length).map fun k => (0 : Int) * (T.getD k (fun _ => 0)) i).sum = 0 := by
      generalize List.range T.length = l
      induction l with
      | nil => rfl
      | cons x l ih => rw [List.map_cons, List.sum_cons, ih]; omega
    rw [this]; have := hu i hi; simpa using this
  | add u r v d hr _ hu ih =>
    obtain ⟨c, hc⟩ := ih
    obtain ⟨m, hm, rfl⟩ := List.getElem_of_mem hr
    refine ⟨fun k => c k + if k = m then d else 0, fun i hi => ?_⟩
    have hg : T.getD m (fun _ => 0) = T[m] := by simp [List.getD_eq_getElem?_getD, hm]
    have key : ((List.range T.length).map fun k => (c k + if k = m then d else 0) * (T.getD k (fun _ => 0)) i).sum = ((List.range T.length).map fun k => c k * (T.getD k (fun _ => 0)) i).sum + d * T[m] i := by
      have gen : ∀ N, ((List.range N).map fun k => (c k + if k = m then d else 0) * (T.getD k (fun _ => 0)) i).sum = ((List.range N).map fun k => c k * (T.getD k (fun _ => 0)) i).sum + if m < N then d * T[m] i else 0 := by
        intro N
        induction N with
        | zero => simp
        | succ N ih =>
          rw [List.range_succ, List.map_append, List.sum_append, ih, List.map_append, List.sum_append]
          simp only [List.map_cons, List.map_nil, List.sum_cons, List.sum_nil]
          by_cases e : N = m
          · subst e
            rw [if_pos rfl, if_neg (by omega), if_pos (by omega), hg]; grind
          · rw [if_neg e]
            by_cases e2 : m < N
            · rw [if_pos e2, if_pos (by omega)]; grind
            · rw [if_neg e2, if_neg (by omega)]; grind
      rw [gen, if_pos hm]
    rw [key]
    obtain ⟨x, hx⟩ := hc i hi
    obtain ⟨y, hy⟩ := hu i hi
    exact ⟨x + y, by grind⟩
theorem rank_turn_le {p : Nat} (hp : Prime p) (n : Nat) (a : Nat → Nat → Int) {r s : Nat} (hr : IsRank (p : Int) n (rowsOf n a) r) (hs : IsRank (p : Int) n (rowsOf n (turnT a)) s) : s ≤ r := by
  obtain ⟨top, rest, d, h⟩ := st_exists hp n (rowsOf n a) n (Nat.le_refl _)
  have hk := st_rank (prime_int hp) (prime_one hp) h (Nat.le_refl _) (.inl rfl)
  have e := rank_unique hr hk
  -- each row in the span of top
  have hsp : ∀ i, i < n → Span (p : Int) n top (a i) := fun i hi =>
    span_trans (fun u hu => by
      rcases List.mem_append.1 hu with hu | hu
      · exact span_mem hu
      · exact .zero _ (h.low u hu)) (h.sp2 _ (List.mem_map.2 ⟨i, List.mem_range.2 hi, rfl⟩))
  have hco : ∀ i, ∃ c : Nat → Int, i < n → ∀ j, j < n → (p : Int) ∣ a i j - ((List.range top.length).map fun k => c k * (top.getD k (fun _ => 0)) j).sum := by
    intro i
    by_cases hi : i < n
    · obtain ⟨c, hc⟩ := span_coef (hsp i hi); exact ⟨c, fun _ => hc⟩
    · exact ⟨fun _ => 0, fun h => absurd h hi⟩
  obtain ⟨C, hC⟩ := Classical.axiomOfChoice hco
  -- the columns in the span of C's columns
  have hcol : ∀ v ∈ rowsOf n (turnT a), Span (p : Int) n ((List.range top.length).map fun k i => C i k) v := by
    intro v hv
    obtain ⟨j, hj, rfl⟩ := List.mem_map.1 hv
    have hj := List.mem_range.1 hj
    have gen : ∀ N, N ≤ top.length → Span (p : Int) n ((List.range top.length).map fun k i => C i k) (fun i => ((List.range N).map fun k => C i k * (top.getD k (fun _ => 0)) j).sum) := by
      intro N
      induction N with
      | zero => intro _; exact .zero _ fun i _ => ⟨0, by simp⟩
      | succ N ih =>
        intro hN
        refine .add _ (fun i => C i N) _ ((top.getD N (fun _ => 0)) j) (List.mem_map.2 ⟨N, List.mem_range.2 (by omega), rfl⟩) (ih (by omega)) fun i _ => ⟨0, ?_⟩
        rw [List.range_succ, List.map_append, List.sum_append]
        simp only [List.map_cons, List.map_nil, List.sum_cons, List.sum_nil]
        grind
    exact span_add 0 (gen top.length (Nat.le_refl _)) (gen top.length (Nat.le_refl _)) fun i hi => by
      obtain ⟨x, hx⟩ := hC i hi j hj
      exact ⟨x, by show a i j - _ = _; rw [Int.zero_mul, Int.add_zero]; exact hx⟩
  have h1 := rk_pigeon (rk_span hcol hs.1)
  simp only [List.length_map, List.length_range] at h1
  omega
theorem rank_turn {p : Nat} (hp : Prime p) (n : Nat) (a : Nat → Nat → Int) {r s : Nat} (hr : IsRank (p : Int) n (rowsOf n a) r) (hs : IsRank (p : Int) n (rowsOf n (turnT a)) s) : s = r := by
  have h1 := rank_turn_le hp n a hr hs
  have h2 := rank_turn_le hp n (turnT a) hs hr
  omega

end Go.Proofs.Ytbphdjnainlbhaa.Pure
