/- The program's and the reference's eliminations modulo a prime tell the rank and the determinant. -/
import Derived.Test.YtbphdjnainlbhaaPInv
import Derived.Test.YtbphdjnainlbhaaPElim
import Derived.Test.YtbphdjnainlbhaaQA2
set_option linter.unusedVariables false
set_option linter.unusedSimpArgs false
namespace Go.Proofs.Ytbphdjnainlbhaa.Pure
open Go.RowKit Go.Proofs.Ytbphdjnainlbhaa.R Go.Proofs.YtbphdjnainlbhaaW.PrintWords Go.Proofs.YtbphdjnainlbhaaW.PrintLast Go.Proofs.YtbphdjnainlbhaaW.PrintMore

/-- a row as a function of its columns -/
def fn (row : List Int) : Nat → Int := fun i => row.getD i 0
def Small (p : Int) (n : Nat) (L : List (List Int)) : Prop := ∀ x ∈ L, x.length = n ∧ ∀ y ∈ x, 0 ≤ y ∧ y < p
theorem small_at {p : Int} {n : Nat} {L : List (List Int)} (h : Small p n L) {x : List Int} (hx : x ∈ L) (hp : 0 < p) (i : Nat) : 0 ≤ x.getD i 0 ∧ x.getD i 0 < p := by
  by_cases hi : i < x.length
  · rw [List.getD_eq_getElem?_getD, List.getElem?_eq_getElem hi]
    exact (h x hx).2 _ (List.getElem_mem hi)
  · rw [List.getD_eq_getElem?_getD, List.getElem?_eq_none (by omega)]
    exact ⟨Int.le_refl _, hp⟩
theorem dvd_zero_of {p x : Int} (hp : 0 < p) (h : p ∣ x) (h0 : 0 ≤ x ∧ x < p) : x = 0 := by
  obtain ⟨k, hk⟩ := h
  have h1 : 0 ≤ k := by
    rcases Int.lt_or_le k 0 with h | h
    · exfalso
      have := Int.mul_le_mul_of_nonneg_left (show k ≤ -1 by omega) (Int.le_of_lt hp)
      rw [Int.mul_neg, Int.mul_one] at this
      omega
    · exact h
  have h2 : k ≤ 0 := by
    rcases Int.lt_or_le 0 k with h | h
    · exfalso
      have := Int.mul_le_mul_of_nonneg_left (show 1 ≤ k by omega) (Int.le_of_lt hp)
      rw [Int.mul_one] at this
      omega
    · exact h
  rw [hk, show k = 0 by omega, Int.mul_zero]
theorem find_none (j : Nat) : ∀ l : List (List Int), impl_reduce.find j l = none → ∀ x ∈ l, x.getD j 0 = 0
  | [], _ => fun x hx => by cases hx
  | y :: t, h => by
    rw [impl_reduce.find] at h
    by_cases h0 : y.getD j 0 = 0
    · rw [if_pos h0] at h
      have ht : impl_reduce.find j t = none := by
        cases hf : impl_reduce.find j t with
        | none => rfl
        | some q => rw [hf] at h; cases h
      intro x hx
      rcases List.mem_cons.1 hx with rfl | hx
      · exact h0
      · exact find_none j t ht x hx
    · rw [if_neg h0] at h; cases h
theorem find_some (j : Nat) : ∀ (l : List (List Int)) (q : Nat), impl_reduce.find j l = some q → ∃ A v B, l = A ++ v :: B ∧ A.length = q ∧ v.getD j 0 ≠ 0
  | [], q, h => by cases h
  | y :: t, q, h => by
    rw [impl_reduce.find] at h
    by_cases h0 : y.getD j 0 = 0
    · rw [if_pos h0] at h
      obtain ⟨r, hr, rfl⟩ := Option.map_eq_some_iff.1 h
      obtain ⟨A, v, B, e, hl, hv⟩ := find_some j t r hr
      exact ⟨y :: A, v, B, by rw [e]; rfl, by simp [hl], hv⟩
    · rw [if_neg h0] at h
      obtain rfl := Option.some.inj h
      exact ⟨[], y, t, rfl, rfl, h0⟩
theorem exch_split (T A B : List (List Int)) (a v : List Int) : MatS.exch (T ++ a :: (A ++ v :: B)) T.length (T.length + (A.length + 1)) a v = T ++ v :: (A ++ a :: B) := by
  unfold MatS.exch
  rw [List.set_append_right _ _ (by omega), Nat.sub_self, List.set_cons_zero, List.set_append_right _ _ (by omega), show T.length + (A.length + 1) - T.length = A.length + 1 by omega, List.set_cons_succ, List.set_append_right _ _ (by omega), Nat.sub_self, List.set_cons_zero]
/-- the state of an elimination -/
structure Inv (p : Int) (n : Nat) (R : List (Nat → Int)) (j : Nat) (L : List (List Int)) (rank : Nat) (det : Int) : Prop where
  small : Small p n L
  le : rank ≤ L.length
  lo : 0 ≤ det
  hi : det < p
  st : St p n R j ((L.take rank).map fn) ((L.drop rank).map fn) det
theorem inv_none {p : Int} {n : Nat} {R : List (Nat → Int)} {j : Nat} {L : List (List Int)} {rank : Nat} {det : Int} (h : Inv p n R j L rank det) (hp : 0 < p) (hf : impl_reduce.find j (L.drop rank) = none) : Inv p n R (j + 1) L rank 0 where
  small := h.small
  le := h.le
  lo := Int.le_refl _
  hi := hp
  st := st_none h.st fun v hv => by
    obtain ⟨x, hx, rfl⟩ := List.mem_map.1 hv
    exact ⟨0, by show x.getD j 0 = _; rw [find_none j _ hf x hx]; simp⟩
def det1 (p : Int) (q : Nat) (det : Int) : Int := if q = 0 then det else Int.tmod (wrap64 (p - det)) p
/-- the pivot's row brought to its place -/
theorem inv_swap {p : Int} {n : Nat} {R : List (Nat → Int)} {j : Nat} {L : List (List Int)} {rank : Nat} {det : Int} (h : Inv p n R j L rank det) (hp : 0 < p) (hp2 : p ≤ 2147483648) {q : Nat} (hf : impl_reduce.find j (L.drop rank) = some q) :
    Inv p n R j (impl_reduce.swap L rank (rank + q)) rank (det1 p q det) ∧ ∃ own rest, (impl_reduce.swap L rank (rank + q)).drop rank = own :: rest ∧ own.getD j 0 ≠ 0 ∧ (impl_reduce.swap L rank (rank + q)).length = L.length := by
  obtain ⟨A, v, B, e, hl, hv⟩ := find_some j _ q hf
  have hlr : (L.take rank).length = rank := by rw [List.length_take]; have := h.le; omega
  have eL : L = L.take rank ++ (A ++ v :: B) := by rw [← e, List.take_append_drop]
  cases A with
  | nil =>
    obtain rfl : q = 0 := by simpa using hl.symm
    have hs : impl_reduce.swap L rank (rank + 0) = L := if_pos rfl
    have hd : det1 p 0 det = det := if_pos rfl
    rw [hs, hd]
    exact ⟨h, v, B, by simpa using e, hv, rfl⟩
  | cons a A =>
    have hq : q = A.length + 1 := by simpa using hl.symm
    have hg1 : L.getD rank [] = a := by
      rw [eL, List.getD_eq_getElem?_getD, List.getElem?_append_right (by omega), hlr, Nat.sub_self]; rfl
    have hg2 : L.getD (rank + q) [] = v := by
      rw [eL, List.getD_eq_getElem?_getD, List.getElem?_append_right (by omega), hlr, show rank + q - rank = A.length + 1 by omega, List.cons_append, List.getElem?_cons_succ, List.getElem?_append_right (by omega), Nat.sub_self]; rfl
    have hs : impl_reduce.swap L rank (rank + q) = L.take rank ++ v :: (A ++ a :: B) := by
      unfold impl_reduce.swap
      rw [if_neg (by omega), hg1, hg2]
      have := exch_split (L.take rank) A B a v
      rw [hlr, ← List.cons_append, ← eL, ← hq] at this
      exact this
    have hd : det1 p q det = (p - det) % p := by
      unfold det1
      have := h.lo; have := h.hi
      rw [if_neg (by omega), wrap_id (by omega) (by omega), Int.tmod_eq_emod_of_nonneg (by omega)]
    have hst := h.st
    rw [e, List.cons_append, List.map_cons, List.map_append, List.map_cons] at hst
    have h1 := emod_in (p - det) p hp
    rw [hs, hd]
    refine ⟨{ small := fun x hx => h.small x (by
        rw [eL]
        simp only [List.mem_append, List.mem_cons] at hx ⊢
        grind), le := by rw [List.length_append, hlr]; omega, lo := h1.1, hi := h1.2, st := ?_ }, v, A ++ a :: B, ?_, hv, ?_⟩
    · rw [List.take_append_of_le_length (by omega), List.take_of_length_le (by omega), List.drop_append_of_le_length (by omega), List.drop_of_length_le (by omega), List.nil_append, List.map_cons, List.map_append, List.map_cons]
      refine st_swap hst ?_ ?_
      · obtain ⟨k, hk⟩ := emod_dvd (p - det) p
        exact ⟨k + 1, by rw [Int.mul_add]; omega⟩
      · rintro rfl
        rw [Int.sub_zero, Int.emod_self]
    · rw [List.drop_append_of_le_length (by omega), List.drop_of_length_le (by omega), List.nil_append]
    · conv => rhs; rw [eL]
      simp
/-- rows below the pivot's row, changed -/
theorem all2_map {α : Type} {P : (Nat → Int) → (Nat → Int) → Prop} {f g : α → Nat → Int} : ∀ l : List α, (∀ x ∈ l, P (f x) (g x)) → All2 P (l.map f) (l.map g)
  | [], _ => .nil
  | x :: t, h => .cons (h x (List.mem_cons_self ..)) (all2_map t fun y hy => h y (List.mem_cons_of_mem _ hy))
structure Changed (p : Int) (n j : Nat) (own row new : List Int) : Prop where
  len : new.length = n
  inr : ∀ y ∈ new, 0 ≤ y ∧ y < p
  at_ : ∃ t : Int, (∀ i, i < n → p ∣ new.getD i 0 - (row.getD i 0 - t * own.getD i 0)) ∧ p ∣ new.getD j 0
/-- a pivot's step -/
theorem inv_step {p : Int} {n : Nat} {R : List (Nat → Int)} {j : Nat} {L : List (List Int)} {rank : Nat} {det d2 : Int} (h : Inv p n R j L rank det) (hp : 0 < p) (hjn : j < n) {own : List Int} {rest M : List (List Int)}
    (hd : L.drop rank = own :: rest) (hv : own.getD j 0 ≠ 0) (hd2 : d2 = (det * own.getD j 0) % p) (hM : M.length = rest.length) (hch : ∀ (i : Nat) (h1 : i < rest.length) (h2 : i < M.length), Changed p n j own rest[i] M[i]) :
    Inv p n R (j + 1) (L.take (rank + 1) ++ M) (rank + 1) d2 := by
  have hlr : (L.take rank).length = rank := by rw [List.length_take]; have := h.le; omega
  have eL : L = L.take rank ++ own :: rest := by rw [← hd, List.take_append_drop]
  have eT : L.take (rank + 1) = L.take rank ++ [own] := by
    conv => lhs; rw [eL]
    rw [List.take_append, hlr, List.take_of_length_le (by omega), show rank + 1 - rank = 1 by omega]; rfl
  have hlT : (L.take (rank + 1)).length = rank + 1 := by rw [eT, List.length_append, hlr]; rfl
  have hown : own ∈ L := by rw [eL]; simp
  have hov := small_at h.small hown hp j
  have hnd : ¬ p ∣ own.getD j 0 := fun hh => hv (dvd_zero_of hp hh hov)
  have hst := h.st
  rw [hd, List.map_cons] at hst
  have hdm := emod_in (det * own.getD j 0) p hp
  refine { small := fun x hx => ?_, le := by rw [List.length_append, hlT]; omega, lo := by rw [hd2]; exact hdm.1, hi := by rw [hd2]; exact hdm.2, st := ?_ }
  · rcases List.mem_append.1 hx with hx | hx
    · exact h.small x (List.mem_of_mem_take hx)
    · obtain ⟨i, hi, rfl⟩ := List.getElem_of_mem hx
      have hc := hch i (by omega) hi
      exact ⟨hc.len, hc.inr⟩
  · rw [List.take_append_of_le_length (by omega), List.take_of_length_le (by omega), List.drop_append_of_le_length (by omega), List.drop_of_length_le (by omega), List.nil_append, eT, List.map_append]
    refine st_pivot hst hjn hnd ?_ ?_ ?_
    · clear hst hd eL
      induction rest generalizing M with
      | nil =>
        cases M with
        | nil => exact .nil
        | cons _ _ => simp at hM
      | cons y t ih =>
        cases M with
        | nil => simp at hM
        | cons z M =>
          refine .cons ?_ (ih (by simpa using hM) fun i h1 h2 => ?_)
          · obtain ⟨t, ht, hj⟩ := (hch 0 (by simp) (by simp)).at_
            refine ⟨⟨-t, fun i hi => ?_⟩, hj⟩
            obtain ⟨k, hk⟩ := ht i hi
            exact ⟨k, by show z.getD i 0 - (y.getD i 0 + -t * own.getD i 0) = _; simp only [List.getElem_cons_zero] at hk; rw [Int.neg_mul]; omega⟩
          · exact hch (i + 1) (by simpa using h1) (by simpa using h2)
    · rw [hd2]; exact emod_dvd _ _
    · rintro rfl
      rw [hd2]; simp
/-- what an elimination tells -/
structure Ans (p : Int) (n : Nat) (l : List (List Int)) (r : Nat) (d : Int) : Prop where
  rank : IsRank p n (l.map fn) r
  det : l.length = n → p ∣ d - det n (l.map fn)
  lo : 0 ≤ d
  hi : d < p
theorem inv_end {p : Nat} (hp : Prime p) {n : Nat} {l L : List (List Int)} {j rank : Nat} {d : Int} (h : Inv (p : Int) n (l.map fn) j L rank d) (hj : j ≤ n) (he : j = n ∨ L.length = rank) : Ans (p : Int) n l rank d := by
  have he2 : j = n ∨ (L.drop rank).map fn = [] := by
    rcases he with he | he
    · exact .inl he
    · exact .inr (by rw [List.drop_of_length_le (by omega)]; rfl)
  have hl : ((L.take rank).map fn).length = rank := by rw [List.length_map, List.length_take]; have := h.le; omega
  refine { rank := ?_, det := fun e => st_det h.st hj he2 (by rw [List.length_map]; exact e), lo := h.lo, hi := h.hi }
  have := st_rank (prime_int hp) (prime_one hp) h.st hj he2
  rw [hl] at this
  exact this
/-- the row's multiple: own_j inv = 1 -/
theorem at_pivot {p b i o t : Int} (ht : p ∣ t - b * i) (hi : p ∣ o * i - 1) : p ∣ b - t * o := by
  obtain ⟨u, hu⟩ := ht
  obtain ⟨v, hv⟩ := hi
  exact ⟨-(u * o) - b * v, by grind⟩
theorem getD_app {l m : List Int} (i : Nat) (h : l.length ≤ i) : (l ++ m).getD i 0 = m.getD (i - l.length) 0 := by
  rw [List.getD_eq_getElem?_getD, List.getElem?_append_right h, List.getD_eq_getElem?_getD]
theorem getD_low {l m : List Int} (i : Nat) (h : i < l.length) : (l ++ m).getD i 0 = l.getD i 0 := by
  rw [List.getD_eq_getElem?_getD, List.getElem?_append_left h, List.getD_eq_getElem?_getD]
theorem red_ok {p b : Int} (hp : 0 < p) (hp2 : p ≤ 2147483648) (hb : 0 ≤ b ∧ b < p) : ∀ l o : List Int, (∀ y ∈ l, 0 ≤ y ∧ y < p) → (∀ y ∈ o, 0 ≤ y ∧ y < p) → l.length ≤ o.length →
    ∃ T, impl_reduce.red p b l o = some T ∧ T.length = l.length ∧ (∀ y ∈ T, 0 ≤ y ∧ y < p) ∧ ∀ i, i < l.length → T.getD i 0 = (l.getD i 0 - b * o.getD i 0) % p
  | [], o, _, _, _ => ⟨[], by rw [impl_reduce.red], rfl, fun y hy => (by cases hy), fun i hi => by simp at hi⟩
  | x :: t, [], _, _, h => by simp at h
  | x :: t, y :: o, hl, ho, h => by
    obtain ⟨T, h1, h2, h3, h4⟩ := red_ok hp hp2 hb t o (fun z hz => hl z (List.mem_cons_of_mem _ hz)) (fun z hz => ho z (List.mem_cons_of_mem _ hz)) (by simpa using h)
    have hx := hl x (List.mem_cons_self ..)
    have hy := ho y (List.mem_cons_self ..)
    refine ⟨(x - b * y) % p :: T, ?_, by simp [h2], fun z hz => ?_, fun i hi => ?_⟩
    · rw [impl_reduce.red, ired_ev hp hp2 hb hx hy, Option.bind_some, h1, Option.bind_some]
    · rcases List.mem_cons.1 hz with rfl | hz
      · exact emod_in _ _ hp
      · exact h3 z hz
    · cases i with
      | zero => simp
      | succ i =>
        have := h4 i (by simpa using hi)
        simpa using this
theorem getD_drop (l : List Int) (j i : Nat) : (l.drop j).getD i 0 = l.getD (j + i) 0 := by
  rw [List.getD_eq_getElem?_getD, List.getElem?_drop, List.getD_eq_getElem?_getD]
theorem getD_take (l : List Int) (j i : Nat) (h : i < j) : (l.take j).getD i 0 = l.getD i 0 := by
  rw [List.getD_eq_getElem?_getD, List.getElem?_take, if_pos h, List.getD_eq_getElem?_getD]
/-- a row as the program changes it -/
theorem irow_ok {p : Int} (hp : 0 < p) (hp2 : p ≤ 2147483648) {n j : Nat} (hjn : j < n) {inv : Int} (hinv : 0 ≤ inv ∧ inv < p) {own row : List Int} (ho : own.length = n ∧ ∀ y ∈ own, 0 ≤ y ∧ y < p) (hr : row.length = n ∧ ∀ y ∈ row, 0 ≤ y ∧ y < p)
    (hi : p ∣ own.getD j 0 * inv - 1) (hlow : ∀ i, i < j → p ∣ own.getD i 0) : ∃ new, impl_reduce.row p j inv own row = some new ∧ Changed p n j own row new := by
  have hrj : 0 ≤ row.getD j 0 ∧ row.getD j 0 < p := by
    rw [List.getD_eq_getElem?_getD, List.getElem?_eq_getElem (by omega)]
    exact hr.2 _ (List.getElem_mem _)
  have hb := emod_in (row.getD j 0 * inv) p hp
  obtain ⟨T, h1, h2, h3, h4⟩ := red_ok hp hp2 hb (row.drop j) (own.drop j) (fun y hy => hr.2 y (List.mem_of_mem_drop hy)) (fun y hy => ho.2 y (List.mem_of_mem_drop hy)) (by rw [List.length_drop, List.length_drop]; omega)
  rw [List.length_drop] at h2 h4
  have ht : (row.take j).length = j := by rw [List.length_take]; omega
  have hbd := emod_dvd (row.getD j 0 * inv) p
  obtain ⟨b, hbe⟩ : ∃ b, (row.getD j 0 * inv) % p = b := ⟨_, rfl⟩
  rw [hbe] at h1 hb h4 hbd
  refine ⟨row.take j ++ T, ?_, ?_⟩
  · unfold impl_reduce.row
    rw [prod_val hp hp2 (by omega) (by omega), hbe, h1]; rfl
  · refine { len := by rw [List.length_append, ht, h2]; omega, inr := fun y hy => ?_, at_ := ⟨b, fun i hi' => ?_, ?_⟩ }
    · rcases List.mem_append.1 hy with hy | hy
      · exact hr.2 y (List.mem_of_mem_take hy)
      · exact h3 y hy
    · by_cases hij : i < j
      · rw [getD_low i (by omega), getD_take _ _ _ hij]
        obtain ⟨u, hu⟩ := hlow i hij
        exact ⟨b * u, by rw [hu]; grind⟩
      · rw [getD_app i (by omega), ht, h4 (i - j) (by omega), getD_drop, getD_drop, show j + (i - j) = i by omega]
        exact emod_dvd _ _
    · rw [getD_app j (by omega), ht, Nat.sub_self, h4 0 (by omega), getD_drop, getD_drop, Nat.add_zero]
      obtain ⟨u, hu⟩ := emod_dvd (row.getD j 0 - b * own.getD j 0) p
      obtain ⟨v, hv⟩ := at_pivot hbd hi
      exact ⟨u + v, by rw [Int.mul_add, ← hu, ← hv]; omega⟩
/-- a row as the reference changes it -/
theorem srow_ok {p : Int} (hp : 0 < p) (hp2 : p ≤ 2147483648) {n j : Nat} (hjn : j < n) {inv : Int} (hinv : 0 ≤ inv ∧ inv < p) {own row : List Int} (ho : own.length = n ∧ ∀ y ∈ own, 0 ≤ y ∧ y < p) (hr : row.length = n ∧ ∀ y ∈ row, 0 ≤ y ∧ y < p)
    (hi : p ∣ own.getD j 0 * inv - 1) : Changed p n j own row (spec_taSteps.row p j inv own row) := by
  have at0 : ∀ (l : List Int) (i : Nat) (h : i < l.length), l.getD i 0 = l[i] := fun l i h => by rw [List.getD_eq_getElem?_getD, List.getElem?_eq_getElem h]; rfl
  have hrj : 0 ≤ row.getD j 0 ∧ row.getD j 0 < p := by
    rw [at0 row j (by omega)]
    exact hr.2 _ (List.getElem_mem _)
  have hb := emod_in (row.getD j 0 * inv) p hp
  have hbd := emod_dvd (row.getD j 0 * inv) p
  have hbe : Int.tmod (wrap64 (row.getD j 0 * inv)) p = (row.getD j 0 * inv) % p := prod_val hp hp2 (by omega) (by omega)
  have hlen : (spec_taSteps.row p j inv own row).length = n := by unfold spec_taSteps.row; rw [List.length_zipWith]; omega
  have hval : ∀ i (h : i < n), (spec_taSteps.row p j inv own row).getD i 0 = (row.getD i 0 - (row.getD j 0 * inv) % p * own.getD i 0) % p := by
    intro i h
    have hrw : spec_taSteps.row p j inv own row = List.zipWith (spec_taSteps.one p ((row.getD j 0 * inv) % p)) row own := by unfold spec_taSteps.row; rw [hbe]
    rw [hrw, at0 _ i (by rw [List.length_zipWith]; omega), List.getElem_zipWith, sone_ev hp hp2 hb (hr.2 _ (List.getElem_mem _)) (ho.2 _ (List.getElem_mem _)), at0 row i (by omega), at0 own i (by omega)]
  refine { len := hlen, inr := fun y hy => ?_, at_ := ⟨(row.getD j 0 * inv) % p, fun i hi' => ?_, ?_⟩ }
  · obtain ⟨i, hi', rfl⟩ := List.getElem_of_mem hy
    rw [← at0 _ i hi', hval i (by omega)]
    exact emod_in _ _ hp
  · rw [hval i hi']; exact emod_dvd _ _
  · rw [hval j hjn]
    obtain ⟨u, hu⟩ := emod_dvd (row.getD j 0 - (row.getD j 0 * inv) % p * own.getD j 0) p
    obtain ⟨v, hv⟩ := at_pivot hbd hi
    exact ⟨u + v, by rw [Int.mul_add, ← hu, ← hv]; omega⟩
theorem irows_ok {p : Int} {n j : Nat} {inv : Int} {own : List Int} : ∀ l : List (List Int), (∀ row ∈ l, ∃ new, impl_reduce.row p j inv own row = some new ∧ Changed p n j own row new) →
    ∃ M, impl_reduce.rowsF p j inv own l = some M ∧ M.length = l.length ∧ ∀ (i : Nat) (h1 : i < l.length) (h2 : i < M.length), Changed p n j own l[i] M[i]
  | [], _ => ⟨[], rfl, rfl, fun i h => absurd h (Nat.not_lt_zero _)⟩
  | x :: t, h => by
    obtain ⟨y, h1, h2⟩ := h x (List.mem_cons_self ..)
    obtain ⟨M, h3, h4, h5⟩ := irows_ok t fun r hr => h r (List.mem_cons_of_mem _ hr)
    refine ⟨y :: M, by rw [impl_reduce.rowsF, h1, Option.bind_some, h3, Option.bind_some], by simp [h4], fun i g1 g2 => ?_⟩
    cases i with
    | zero => exact h2
    | succ i => exact h5 i (by simpa using g1) (by simpa using g2)
theorem head_of {L : List (List Int)} {rank : Nat} {own : List Int} {rest : List (List Int)} (h : L.drop rank = own :: rest) : L.getD rank [] = own ∧ L.drop (rank + 1) = rest ∧ rank < L.length := by
  have h1 : rank < L.length := by
    rcases Nat.lt_or_ge rank L.length with h1 | h1
    · exact h1
    · rw [List.drop_of_length_le h1] at h; cases h
  rw [List.drop_eq_getElem_cons h1] at h
  injection h with e1 e2
  exact ⟨by rw [List.getD_eq_getElem?_getD, List.getElem?_eq_getElem h1]; exact e1, e2, h1⟩
theorem igo_ok {p : Nat} (hp : Prime p) (hp2 : p ≤ 2147483648) {n : Nat} {l : List (List Int)} (k : Nat) (hk : 40 ≤ k) (d : Nat) : ∀ (j : Nat) (L : List (List Int)) (rank : Nat) (det : Int), j + d = n → Inv (p : Int) n (l.map fn) j L rank det →
    ∃ (r : Nat) (e : Int), impl_reduce.go k p d j L rank det = some ((r : Int), e) ∧ Ans (p : Int) n l r e := by
  have h2 := hp.1
  have hp0 : (0 : Int) < (p : Int) := by omega
  have hp3 : (p : Int) ≤ 2147483648 := by omega
  induction d with
  | zero =>
    intro j L rank det hj h
    exact ⟨rank, det, by rw [impl_reduce.go], inv_end hp h (by omega) (.inl (by omega))⟩
  | succ d ih =>
    intro j L rank det hj h
    rw [impl_reduce.go]
    cases hf : impl_reduce.find j (L.drop rank) with
    | none => exact ih (j + 1) L rank 0 (by omega) (inv_none h hp0 hf)
    | some q =>
      obtain ⟨hI, own, rest, hd, hv, _⟩ := inv_swap h hp0 hp3 hf
      obtain ⟨hg, hdr, hlt⟩ := head_of hd
      have hown : own ∈ impl_reduce.swap L rank (rank + q) := by
        have := List.mem_of_mem_drop (show own ∈ (impl_reduce.swap L rank (rank + q)).drop rank by rw [hd]; simp)
        exact this
      have ho := hI.small own hown
      have hov := small_at hI.small hown hp0 j
      have hnd : ¬ (p : Int) ∣ own.getD j 0 := fun hh => hv (dvd_zero_of hp0 hh hov)
      obtain ⟨inv, e1, i0, i1, i2⟩ := iinv_ev hp hp2 _ hov hnd k hk
      have hlow : ∀ i, i < j → (p : Int) ∣ own.getD i 0 := fun i hi => hI.st.low (fn own) (by rw [hd]; simp) i hi
      obtain ⟨M, e2, hM, hch⟩ := irows_ok (p := (p : Int)) (n := n) (j := j) (inv := inv) (own := own) rest (fun row hr => irow_ok hp0 hp3 (by omega) ⟨i0, i1⟩ ho (hI.small row (List.mem_of_mem_drop (show row ∈ (impl_reduce.swap L rank (rank + q)).drop rank by rw [hd]; simp [hr]))) i2 hlow)
      have hd2 : Int.tmod (wrap64 (det1 p q det * own.getD j 0)) p = (det1 p q det * own.getD j 0) % p := prod_val hp0 hp3 (by have := hI.lo; have := hI.hi; omega) (by omega)
      have hN := inv_step hI hp0 (by omega) hd hv rfl hM hch
      show ∃ (r : Nat) (e : Int), impl_reduce.use k p j (impl_reduce.swap L rank (rank + q)) rank (det1 p q det) _ = some ((r : Int), e) ∧ Ans (p : Int) n l r e
      unfold impl_reduce.use
      rw [hg, e1, Option.bind_some, hdr, e2, Option.bind_some, hd2]
      by_cases he : rank + 1 = (impl_reduce.swap L rank (rank + q)).length
      · rw [if_pos he]
        refine ⟨rank + 1, _, rfl, inv_end hp hN (by omega) (.inr ?_)⟩
        have hrl : rest = [] := by
          rw [← hdr]; exact List.drop_of_length_le (by omega)
        rw [hrl] at hM
        rw [List.length_append, List.length_take, hM, List.length_nil]; omega
      · rw [if_neg he]
        exact ih (j + 1) _ (rank + 1) _ (by omega) hN
theorem sgo_ok {p : Nat} (hp : Prime p) (hp2 : p ≤ 2147483648) {n : Nat} {l : List (List Int)} (k : Nat) (hk : 40 ≤ k) (d : Nat) : ∀ (j : Nat) (L : List (List Int)) (rank : Nat) (det : Int), j + d = n → Inv (p : Int) n (l.map fn) j L rank det →
    ∃ (r : Nat) (e : Int), spec_taSteps.go k p d j L rank det = some (e, (r : Int)) ∧ Ans (p : Int) n l r e := by
  have h2 := hp.1
  have hp0 : (0 : Int) < (p : Int) := by omega
  have hp3 : (p : Int) ≤ 2147483648 := by omega
  induction d with
  | zero =>
    intro j L rank det hj h
    exact ⟨rank, det, by rw [spec_taSteps.go], inv_end hp h (by omega) (.inl (by omega))⟩
  | succ d ih =>
    intro j L rank det hj h
    rw [spec_taSteps.go]
    cases hf : impl_reduce.find j (L.drop rank) with
    | none => exact ih (j + 1) L rank 0 (by omega) (inv_none h hp0 hf)
    | some q =>
      obtain ⟨hI, own, rest, hd, hv, _⟩ := inv_swap h hp0 hp3 hf
      obtain ⟨hg, hdr, hlt⟩ := head_of hd
      have hown : own ∈ impl_reduce.swap L rank (rank + q) := List.mem_of_mem_drop (show own ∈ (impl_reduce.swap L rank (rank + q)).drop rank by rw [hd]; simp)
      have ho := hI.small own hown
      have hov := small_at hI.small hown hp0 j
      have hnd : ¬ (p : Int) ∣ own.getD j 0 := fun hh => hv (dvd_zero_of hp0 hh hov)
      obtain ⟨inv, e1, i0, i1, i2⟩ := sinv_ev hp hp2 _ hov hnd k hk
      have hd2 : Int.tmod (wrap64 (det1 p q det * own.getD j 0)) p = (det1 p q det * own.getD j 0) % p := prod_val hp0 hp3 (by have := hI.lo; have := hI.hi; omega) (by omega)
      have hN := inv_step (M := rest.map (spec_taSteps.row p j inv own)) hI hp0 (by omega) hd hv rfl (by rw [List.length_map]) (fun i h1 h2 => by
        rw [List.getElem_map]
        exact srow_ok hp0 hp3 (by omega) ⟨i0, i1⟩ ho (hI.small _ (List.mem_of_mem_drop (show rest[i] ∈ (impl_reduce.swap L rank (rank + q)).drop rank by rw [hd]; exact List.mem_cons_of_mem _ (List.getElem_mem h1)))) i2)
      show ∃ (r : Nat) (e : Int), ((spec_taInverse.f k (((impl_reduce.swap L rank (rank + q)).getD rank []).getD j 0) p).bind _) = some (e, (r : Int)) ∧ Ans (p : Int) n l r e
      rw [hg, e1, Option.bind_some, hdr]
      show ∃ (r : Nat) (e : Int), spec_taSteps.go k p d (j + 1) _ (rank + 1) (Int.tmod (wrap64 (det1 p q det * own.getD j 0)) p) = some (e, (r : Int)) ∧ Ans (p : Int) n l r e
      rw [hd2]
      exact ih (j + 1) _ (rank + 1) _ (by omega) hN
/-- how an elimination starts -/
theorem inv_start {p : Int} (hp : 1 < p) {n : Nat} {l : List (List Int)} (hl : ∀ x ∈ l, x.length = n) : Inv p n (l.map fn) 0 (l.map fun x => x.map (· % p)) 0 1 := by
  refine { small := fun x hx => ?_, le := Nat.zero_le _, lo := by omega, hi := hp, st := ?_ }
  · obtain ⟨y, hy, rfl⟩ := List.mem_map.1 hx
    refine ⟨by rw [List.length_map]; exact hl y hy, fun z hz => ?_⟩
    obtain ⟨u, _, rfl⟩ := List.mem_map.1 hz
    exact emod_in u p (by omega)
  · rw [List.take_zero, List.drop_zero, List.map_nil]
    refine st_start ?_
    rw [List.map_map]
    refine all2_map l fun x hx => fun i hi => ?_
    have h1 : i < x.length := by rw [hl x hx]; exact hi
    show p ∣ (x.map (· % p)).getD i 0 - x.getD i 0
    rw [List.getD_eq_getElem?_getD, List.getElem?_map, List.getElem?_eq_getElem h1, List.getD_eq_getElem?_getD, List.getElem?_eq_getElem h1]
    exact emod_dvd _ _
theorem mods_ev (p : Int) (hp : 0 < p) (hp2 : p ≤ 2147483648) : ∀ l : List Int, impl_reduce.mods p l = some (l.map (· % p))
  | [] => rfl
  | x :: t => by rw [impl_reduce.mods, irest_ev x p hp hp2, Option.bind_some, mods_ev p hp hp2 t]; rfl
theorem modsR_ev (p : Int) (hp : 0 < p) (hp2 : p ≤ 2147483648) : ∀ l : List (List Int), impl_reduce.modsR p l = some (l.map fun x => x.map (· % p))
  | [] => rfl
  | x :: t => by rw [impl_reduce.modsR, mods_ev p hp hp2 x, Option.bind_some, modsR_ev p hp hp2 t]; rfl
theorem good_ok {p : Int} (hp : 0 < p) {n : Nat} (hn : 1 ≤ n ∧ n ≤ 14) {l : List (List Int)} (h1 : 1 ≤ l.length ∧ l.length ≤ 14) (hl : ∀ x ∈ l, x.length = n) : impl_reduce.good l p = true ∧ (l.getD 0 []).length = n := by
  have hg : (l.getD 0 []).length = n := by
    rw [List.getD_eq_getElem?_getD, List.getElem?_eq_getElem (by omega)]
    exact hl _ (List.getElem_mem _)
  refine ⟨?_, hg⟩
  unfold impl_reduce.good
  rw [hg, Bool.and_eq_true, decide_eq_true_eq]
  exact ⟨by omega, List.all_eq_true.2 fun x hx => decide_eq_true (hl x hx)⟩
theorem reduce_ans {p : Nat} (hp : Prime p) (hp2 : p ≤ 2147483648) {n : Nat} (hn : 1 ≤ n ∧ n ≤ 14) {l : List (List Int)} (h1 : 1 ≤ l.length ∧ l.length ≤ 14) (hl : ∀ x ∈ l, x.length = n) (k : Nat) (hk : 40 ≤ k) :
    ∃ (r : Nat) (e : Int), impl_reduce.f k l p = some ((r : Int), e) ∧ Ans (p : Int) n l r e := by
  have h2 := hp.1
  obtain ⟨hg, hgn⟩ := good_ok (p := (p : Int)) (by omega) hn h1 hl
  unfold impl_reduce.f
  rw [if_pos hg, modsR_ev _ (by omega) (by omega), Option.bind_some, hgn]
  exact igo_ok hp hp2 k hk n 0 _ 0 1 (by omega) (inv_start (by omega) hl)
theorem steps_ans {p : Nat} (hp : Prime p) (hp2 : p ≤ 2147483648) {n : Nat} (hn : 1 ≤ n ∧ n ≤ 14) {l : List (List Int)} (h1 : 1 ≤ l.length ∧ l.length ≤ 14) (hl : ∀ x ∈ l, x.length = n) (k : Nat) (hk : 40 ≤ k) :
    ∃ (r : Nat) (e : Int), spec_taSteps.f k l p = some (e, (r : Int)) ∧ Ans (p : Int) n l r e := by
  have h2 := hp.1
  obtain ⟨hg, hgn⟩ := good_ok (p := (p : Int)) (by omega) hn h1 hl
  unfold spec_taSteps.f
  rw [if_neg (by rintro rfl; simp at h1), if_pos hg, hgn]
  have e : (l.map fun x => x.map (spec_taSteps.mod p)) = l.map fun x => x.map (· % (p : Int)) := by
    congr 1; funext x; congr 1; funext y; exact smod_ev y p (by omega) (by omega)
  rw [e]
  exact sgo_ok hp hp2 k hk n 0 _ 0 1 (by omega) (inv_start (by omega) hl)

end Go.Proofs.Ytbphdjnainlbhaa.Pure
