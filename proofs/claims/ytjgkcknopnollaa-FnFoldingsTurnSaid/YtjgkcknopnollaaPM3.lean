/- The reference's cursor over bytes: each draw has an answer, in its range. Foldings with a stamp more: the program sorts what it made, the reference puts each at its place; both come to one list. The reference's drawn stacks: the draw has an answer, a short row. A folding without its last stamp is a folding, and is got back by one stamp more. slices.Reverse over whole numbers, as plain lists tell it. What the functions over stacks answer, told outright. -/
import Derived.Laws.Bits64b
import Derived.Test.YtjgkcknopnollaaPM1
import Derived.Test.YtjgkcknopnollaaG8
import Derived.Test.YtjgkcknopnollaaG0
import Derived.Test.YtjgkcknopnollaaG2
import Derived.Test.YtjgkcknopnollaaG3
import Derived.Test.YtjgkcknopnollaaG7
import Derived.Test.YtjgkcknopnollaaPM2
import Derived.Test.YtjgkcknopnollaaG10
import Derived.Test.YtjgkcknopnollaaG6
import Derived.Test.YtjgkcknopnollaaG9
set_option linter.unusedVariables false
set_option linter.unusedSimpArgs false
namespace Go.Proofs.Ytjgkcknopnollaa.Pure
open Go.RowKit Go.Proofs.Ytjgkcknopnollaa.G Go.Proofs.YtjgkcknopnollaaW.PrintWords Go.Proofs.YtjgkcknopnollaaW.PrintLast Go.Proofs.YtjgkcknopnollaaW.PrintMore

def Bytes (l : List Int) : Prop := l.length ≤ 1048576 ∧ ∀ x ∈ l, 0 ≤ x ∧ x ≤ 255
theorem wf_u8' {x : Int} (h : (Lit.int .u8 x).wf = true) : 0 ≤ x ∧ x ≤ 255 := by
  simp [Lit.wf, IntKind.min, IntKind.max, IntKind.bits, IntKind.signed] at h
  omega
theorem bytes_rd {l : List Int} (h : Bytes l) (i : Int) (h0 : 0 ≤ i) (h1 : i < (l.length : Int)) : 0 ≤ rd l i ∧ rd l i ≤ 255 := by
  obtain ⟨n, rfl⟩ : ∃ n : Nat, i = (n : Int) := ⟨i.toNat, by omega⟩
  rw [rd_get (by omega)]
  exact h.2 _ (List.getElem_mem _)
theorem and255 (x : Int) (h0 : 0 ≤ x) (h1 : x < 18446744073709551616) : 0 ≤ bits .and .u64 x 255 ∧ bits .and .u64 x 255 ≤ 255 := by
  obtain ⟨n, rfl⟩ : ∃ n : Nat, x = (n : Int) := ⟨x.toNat, by omega⟩
  have h := bits_and_u64_nat n 255 (by omega) (by omega)
  rw [show ((255 : Nat) : Int) = 255 from rfl] at h
  rw [h]
  have := Nat.and_le_right (n := n) (m := 255)
  omega
theorem high8 (y : Int) : 0 ≤ wrap64 (bits .and .u64 (IntKind.u64.wrap y / 1099511627776) 255) ∧ wrap64 (bits .and .u64 (IntKind.u64.wrap y / 1099511627776) 255) ≤ 255 := by
  have h1 : 0 ≤ IntKind.u64.wrap y ∧ IntKind.u64.wrap y < 18446744073709551616 := by rw [IntKind.wrap_u64]; omega
  have h := and255 (IntKind.u64.wrap y / 1099511627776) (by omega) (by omega)
  rw [wrap_id (by omega) (by omega)]
  exact h
/-- a draw: its answer, and where the cursor stands -/
structure Drew {α : Type} (o : Option (α × Int × Int)) (i : Int) (m : Int) (R : α → Prop) : Prop where
  ok : ∃ v j s, o = some (v, j, s) ∧ R v ∧ i ≤ j ∧ j ≤ i + m
theorem next_ok {l : List Int} (h : Bytes l) (i s : Int) (h0 : 0 ≤ i) (h1 : i ≤ 1099511627776) : Drew (spec_l1Cur_next.f l i s) i 1 (fun v => 0 ≤ v ∧ v ≤ 255) := by
  have hw : wrap64 (i + 1) = i + 1 := wrap_id (by omega) (by omega)
  unfold spec_l1Cur_next.f
  rw [hw]
  by_cases c : i < (l.length : Int)
  · have hr := bytes_rd h i h0 c
    rw [if_pos c, if_pos h0, if_pos (by omega)]
    exact ⟨_, _, _, rfl, by rw [wrap_id (by omega) (by omega)]; exact hr, by omega, by omega⟩
  · rw [if_neg c, if_neg (by omega)]
    exact ⟨_, _, _, rfl, high8 _, by omega, by omega⟩
theorem pick_ok {l : List Int} (h : Bytes l) (i s n : Int) (h0 : 0 ≤ i) (h1 : i ≤ 1000000000) (hn : n ≤ 200) : Drew (spec_l1Cur_pick.f l i s n) i 1 (fun v => 0 ≤ v ∧ (v < n ∨ v = 0)) := by
  unfold spec_l1Cur_pick.f
  by_cases c : n ≤ 1
  · rw [if_pos c]
    exact ⟨_, _, _, rfl, ⟨by omega, .inr rfl⟩, by omega, by omega⟩
  · obtain ⟨v, j, s', e, hv, hj⟩ := (next_ok h i s h0 (by omega)).ok
    rw [if_neg c, e]
    simp only [Option.bind_some]
    rw [if_neg (by omega), if_neg (by omega)]
    exact ⟨_, _, _, rfl, ⟨Int.tmod_nonneg _ hv.1, .inl (Int.tmod_lt_of_pos _ (by omega))⟩, hj⟩
theorem one_ok {l : List Int} (h : Bytes l) (i s n : Int) (h0 : 0 ≤ i) (h1 : i ≤ 1000000000) (hn : n ≤ 200) : Drew (spec_l1Cur_one.f l i s n) i 1 (fun _ => True) := by
  unfold spec_l1Cur_one.f
  obtain ⟨v, j, s', e, hv, hj⟩ := (pick_ok h i s n h0 h1 hn).ok
  rw [e]
  exact ⟨_, _, _, rfl, trivial, hj⟩
theorem Drew.bind {α β : Type} {o : Option (α × Int × Int)} {f : α × Int × Int → Option (β × Int × Int)} {i m m' M : Int} {R : α → Prop} {R' : β → Prop} (h1 : Drew o i m R)
    (h2 : ∀ v j s, R v → i ≤ j → j ≤ i + m → Drew (f (v, j, s)) j m' R') (hm : m + m' ≤ M) : Drew (o.bind f) i M R' := by
  obtain ⟨v, j, s, e, hv, h3, h4⟩ := h1.ok
  obtain ⟨v', j', s', e', hv', h3', h4'⟩ := (h2 v j s hv h3 h4).ok
  exact ⟨v', j', s', by rw [e]; exact e', hv', by omega, by omega⟩
theorem Drew.done {β : Type} {o : Option (β × Int × Int)} {i M : Int} {R' : β → Prop} (v : β) (s : Int) (e : o = some (v, i, s)) (hv : R' v) (hM : 0 ≤ M) : Drew o i M R' := ⟨v, i, s, e, hv, by omega, by omega⟩
theorem Drew.ite {β : Type} {c : Prop} [Decidable c] {a b : Option (β × Int × Int)} {i M : Int} {R' : β → Prop} (h1 : c → Drew a i M R') (h2 : ¬ c → Drew b i M R') : Drew (if c then a else b) i M R' := by
  by_cases h : c
  · rw [if_pos h]; exact h1 h
  · rw [if_neg h]; exact h2 h
/-- the stamp more, at a place -/
def ins (l : List Int) (i : Nat) : List Int := l.take i ++ [(l.length : Int)] ++ l.drop i
theorem ins_perm (l : List Int) (i : Nat) : (ins l i).Perm ((l.length : Int) :: l) := by
  unfold ins
  have h : (l.take i ++ [(l.length : Int)] ++ l.drop i).Perm ([(l.length : Int)] ++ l.take i ++ l.drop i) := (List.perm_append_comm).append_right _
  rw [List.append_assoc, List.append_assoc, List.take_append_drop] at h
  rw [List.append_assoc]
  exact h
theorem ins_len (l : List Int) (i : Nat) : (ins l i).length = l.length + 1 := by
  rw [(ins_perm l i).length_eq]; rfl
theorem ins_word (l : List Int) (hw : wordB l = true) (i : Nat) : wordB (ins l i) = true := by
  unfold wordB inR at hw ⊢
  rw [Bool.and_eq_true] at hw ⊢
  obtain ⟨h1, h2⟩ := hw
  have h1' := List.all_eq_true.1 h1
  have h2' := of_decide_eq_true h2
  refine ⟨List.all_eq_true.2 fun x hx => decide_eq_true ?_, decide_eq_true ?_⟩
  · rw [ins_len]
    rcases List.mem_cons.1 ((ins_perm l i).mem_iff.1 hx) with rfl | hx
    · omega
    · have := of_decide_eq_true (h1' x hx); omega
  · refine (ins_perm l i).nodup_iff.2 (List.nodup_cons.2 ⟨fun hm => ?_, h2'⟩)
    have := of_decide_eq_true (h1' _ hm); omega
/-- those that are foldings, from a place on -/
def cand (l : List Int) : Nat → Nat → List (List Int)
  | 0, _ => []
  | d + 1, i => if foldB (ins l i) = true then ins l i :: cand l d (i + 1) else cand l d (i + 1)
theorem cand_len (l : List Int) (d : Nat) : ∀ i, (cand l d i).length ≤ d := by
  induction d with
  | zero => intro i; simp [cand]
  | succ d ih =>
    intro i
    rw [cand]
    split
    · rw [List.length_cons]; have := ih (i + 1); omega
    · have := ih (i + 1); omega
theorem cand_mem (l : List Int) (d : Nat) : ∀ i, ∀ x ∈ cand l d i, ∃ j, x = ins l j := by
  induction d with
  | zero => intro i x hx; simp [cand] at hx
  | succ d ih =>
    intro i x hx
    rw [cand] at hx
    split at hx
    · rcases List.mem_cons.1 hx with rfl | hx
      · exact ⟨i, rfl⟩
      · exact ih _ x hx
    · exact ih _ x hx
/-- put one by one -/
def insAll (acc : List (List Int)) : List (List Int) → List (List Int)
  | [] => acc
  | x :: t => insAll (SortL.insL x acc) t
theorem insAll_perm (xs : List (List Int)) : ∀ acc, (insAll acc xs).Perm (acc ++ xs) := by
  induction xs with
  | nil => intro acc; simp [insAll]
  | cons x t ih =>
    intro acc
    rw [insAll]
    refine (ih _).trans ?_
    refine ((SortL.insL_perm x acc).append_right t).trans ?_
    exact (List.perm_middle (l₁ := acc) (l₂ := t) (a := x)).symm
theorem insAll_sorted (xs : List (List Int)) : ∀ acc, SortL.Sorted acc → SortL.Sorted (insAll acc xs) := by
  induction xs with
  | nil => intro acc h; exact h
  | cons x t ih => intro acc h; exact ih _ (SortL.insL_sorted x acc h)
theorem insAll_sort (xs : List (List Int)) : insAll [] xs = SortL.sortL xs :=
  SortL.sortL_eq (by have := insAll_perm xs []; simpa using this) (insAll_sorted xs [] (by unfold SortL.Sorted; simp))
/-- numbers that are small -/
def small (l : List Int) : Prop := ∀ x ∈ l, 0 ≤ x ∧ x ≤ 1000
theorem less_l0 (a b : List Int) (ha : small a) (hb : small b) (hl : a.length ≤ 1000) (hlb : b.length ≤ 1000) (d : Nat) : ∀ (k i : Nat), i + d = a.length → i ≤ b.length → d < k →
    ∃ c : Int, spec_stListLess.l0 k a b a (a.length : Int) (i : Int) = some c ∧ (c < 0 ↔ SortL.cmpL (a.drop i) (b.drop i) < 0) := by
  induction d with
  | zero =>
    intro k i hi hib hk
    obtain ⟨k, rfl⟩ : ∃ m, k = m + 1 := ⟨k - 1, by omega⟩
    rw [spec_stListLess.l0, if_neg (by omega), List.drop_of_length_le (by omega)]
    refine ⟨_, rfl, ?_⟩
    rw [wrap_id (by omega) (by omega)]
    by_cases h : i < b.length
    · rw [List.drop_eq_getElem_cons h]
      unfold SortL.cmpL
      omega
    · rw [List.drop_of_length_le (by omega)]
      unfold SortL.cmpL
      omega
  | succ d ih =>
    intro k i hi hib hk
    obtain ⟨k, rfl⟩ : ∃ m, k = m + 1 := ⟨k - 1, by omega⟩
    have hlt : i < a.length := by omega
    rw [spec_stListLess.l0, if_pos (by omega), if_pos (by omega), if_pos (by omega)]
    by_cases h : i < b.length
    · rw [if_neg (by omega), if_pos (by omega), rd_get hlt, rd_get h, List.drop_eq_getElem_cons hlt, List.drop_eq_getElem_cons h]
      have h1 := ha _ (List.getElem_mem hlt)
      have h2 := hb _ (List.getElem_mem h)
      by_cases e : a[i] = b[i]
      · rw [if_pos e, wrap_succ (by omega)]
        obtain ⟨c, hc, hcl⟩ := ih k (i + 1) (by omega) (by omega) (by omega)
        refine ⟨c, hc, ?_⟩
        rw [hcl]
        have e2 : SortL.cmpL (a[i] :: a.drop (i + 1)) (b[i] :: b.drop (i + 1)) = SortL.cmpL (a.drop (i + 1)) (b.drop (i + 1)) := by
          conv => lhs; unfold SortL.cmpL
          rw [if_neg (by omega), if_neg (by omega)]
        rw [e2]
      · rw [if_neg e]
        refine ⟨_, rfl, ?_⟩
        rw [wrap_id (by omega) (by omega)]
        unfold SortL.cmpL
        by_cases h3 : a[i] < b[i]
        · rw [if_pos h3]; omega
        · rw [if_neg h3, if_pos (by omega)]; omega
    · have hb0 : b.drop i = [] := List.drop_of_length_le (by omega)
      rw [if_pos (by omega), hb0, List.drop_eq_getElem_cons hlt]
      exact ⟨1, rfl, by unfold SortL.cmpL; omega⟩
theorem less_ev (a b : List Int) (ha : small a) (hb : small b) (hl : a.length ≤ 1000) (hlb : b.length ≤ 1000) (k : Nat) (hk : a.length < k) :
    ∃ c : Int, spec_stListLess.f k a b = some c ∧ (c < 0 ↔ SortL.cmpL a b < 0) := by
  obtain ⟨c, h1, h2⟩ := less_l0 a b ha hb hl hlb a.length k 0 (by omega) (by omega) hk
  exact ⟨c, by unfold spec_stListLess.f; exact h1, by simpa using h2⟩
theorem put_l0 (acc : List (List Int)) (p : List Int) (hacc : ∀ x ∈ acc, small x ∧ x.length ≤ 1000) (hp : small p) (hpl : p.length ≤ 1000) (hl : acc.length ≤ 100000) (d : Nat) : ∀ (k i : Nat), i + d = acc.length → d + 1001 < k →
    spec_spPut.l0 k acc p (i : Int) = some (acc.take i ++ SortL.insL p (acc.drop i)) := by
  induction d with
  | zero =>
    intro k i hi hk
    obtain ⟨k, rfl⟩ : ∃ m, k = m + 1 := ⟨k - 1, by omega⟩
    rw [spec_spPut.l0, if_neg (by omega)]
    simp only [Option.bind_some]
    rw [if_pos (by omega), if_pos (by omega), Int.toNat_natCast, if_pos (by simp; omega), if_pos (by simp; omega), if_pos (by simp; omega)]
    rw [List.drop_of_length_le (by omega), List.nil_append, List.append_nil]; rfl
  | succ d ih =>
    intro k i hi hk
    obtain ⟨k, rfl⟩ : ∃ m, k = m + 1 := ⟨k - 1, by omega⟩
    have hlt : i < acc.length := by omega
    have hx := hacc _ (List.getElem_mem hlt)
    have hr : rd_L1 acc (i : Int) = acc[i] := by unfold rd_L1; simp [hlt]
    obtain ⟨c, hc, hcl⟩ := less_ev acc[i] p hx.1 hp hx.2 hpl k (by omega)
    rw [spec_spPut.l0, if_pos (by omega), if_pos (by omega), hr, hc, Option.bind_some, List.drop_eq_getElem_cons hlt]
    by_cases h : c < 0
    · rw [if_pos h, wrap_succ (by omega), ih k (i + 1) (by omega) (by omega)]
      conv => rhs; unfold SortL.insL
      rw [if_pos (hcl.1 h), List.take_succ_eq_append_getElem hlt, List.append_assoc]; rfl
    · rw [if_neg h]
      simp only [Option.bind_some]
      rw [if_pos (by omega), Int.toNat_natCast, if_pos (by simp; omega), if_pos (by simp; omega), if_pos (by simp; omega)]
      conv => rhs; unfold SortL.insL
      rw [if_neg (fun h2 => h (hcl.2 h2)), List.drop_eq_getElem_cons hlt]
      simp
theorem put_ev (acc : List (List Int)) (p : List Int) (hacc : ∀ x ∈ acc, small x ∧ x.length ≤ 1000) (hp : small p) (hpl : p.length ≤ 1000) (hl : acc.length ≤ 100000) (k : Nat) (hk : acc.length + 1001 < k) :
    spec_spPut.f k acc p = some (SortL.insL p acc) := by
  unfold spec_spPut.f
  have := put_l0 acc p hacc hp hpl hl acc.length k 0 (by omega) hk
  simpa using this
theorem ins_small (l : List Int) (hl : l.length ≤ 100) (hw : wordB l = true) (i : Nat) : small (ins l i) := by
  intro x hx
  have := ins_word l hw i
  unfold wordB inR at this
  rw [Bool.and_eq_true] at this
  have := of_decide_eq_true (List.all_eq_true.1 this.1 x hx)
  rw [ins_len] at this
  omega
theorem sadd_l0 (l : List Int) (hl : 1 ≤ l.length ∧ l.length ≤ 7) (hw : wordB l = true) (d : Nat) : ∀ (k i : Nat) (acc : List (List Int)), i + d = l.length + 1 → acc.length ≤ i → (∀ x ∈ acc, small x ∧ x.length ≤ 1000) → d + 1100 ≤ k →
    spec_spAdded.l0 k l acc (i : Int) = some (insAll acc (cand l d i)) := by
  induction d with
  | zero =>
    intro k i acc hi ha hx hk
    obtain ⟨k, rfl⟩ : ∃ m, k = m + 1 := ⟨k - 1, by omega⟩
    rw [spec_spAdded.l0, if_neg (by omega)]; rfl
  | succ d ih =>
    intro k i acc hi ha hx hk
    obtain ⟨k, rfl⟩ : ∃ m, k = m + 1 := ⟨k - 1, by omega⟩
    have ho : spec_l1Own.f (l.take i) = some (l.take i) := by
      have hq : (l.take i).length < 17592186044416 := by rw [List.length_take]; omega
      unfold spec_l1Own.f
      rw [Option.bind_some, List.length_nil, Nat.zero_add, if_pos hq, List.nil_append]
    have hfold := (fold_ev (ins l i) (by rw [ins_len]; omega) (ins_word l hw i) k (by omega)).1
    have hs := ins_small l (by omega) hw i
    rw [spec_spAdded.l0, if_pos (by omega), if_pos (by omega), Int.toNat_natCast, ho, Option.bind_some, if_pos (by simp; omega)]
    simp only [Option.bind_some]
    rw [if_pos (by simp; omega)]
    have e : l.take i ++ [(l.length : Int)] ++ l.drop i = ins l i := rfl
    simp only [Option.bind_some, e, hfold]
    rw [cand]
    by_cases h : foldB (ins l i) = true
    · rw [if_pos h, if_pos h, put_ev acc _ hx hs (by rw [ins_len]; omega) (by omega) k (by omega), Option.bind_some, wrap_succ (by omega)]
      rw [ih k (i + 1) _ (by omega) (by rw [(SortL.insL_perm _ _).length_eq, List.length_cons]; omega) (fun x hm => by
        rcases List.mem_cons.1 ((SortL.insL_perm _ _).mem_iff.1 hm) with rfl | hm
        · exact ⟨hs, by rw [ins_len]; omega⟩
        · exact hx x hm) (by omega)]
      rfl
    · rw [if_neg h, if_neg h, wrap_succ (by omega)]
      exact ih k (i + 1) acc (by omega) (by omega) hx (by omega)
theorem iadd_l0 (l : List Int) (hl : 1 ≤ l.length ∧ l.length ≤ 7) (hw : wordB l = true) (d : Nat) : ∀ (k i : Nat) (acc : List (List Int)), i + d = l.length + 1 → acc.length ≤ i → d + 1100 ≤ k →
    impl_added.l0 k l acc ((l.length + 1 : Nat) : Int) (i : Int) = some (SortL.sortL (acc ++ cand l d i)) := by
  induction d with
  | zero =>
    intro k i acc hi ha hk
    obtain ⟨k, rfl⟩ : ∃ m, k = m + 1 := ⟨k - 1, by omega⟩
    rw [impl_added.l0, if_neg (by omega)]
    unfold slices_SortFunc_int_int_at_slices_Compare_int_int.f
    rw [if_pos (by omega), cand, List.append_nil]; rfl
  | succ d ih =>
    intro k i acc hi ha hk
    obtain ⟨k, rfl⟩ : ∃ m, k = m + 1 := ⟨k - 1, by omega⟩
    have hc : slices_Clone_int_int.f l = some l := by unfold slices_Clone_int_int.f; rw [if_pos (by omega)]
    have hI : slices_Insert_int_int.f l (i : Int) [(l.length : Int)] = some (ins l i) := by
      unfold slices_Insert_int_int.f
      rw [if_pos (by omega), if_pos (by omega), if_pos (show [(l.length : Int)].length = 1 from rfl), if_pos (by omega), Int.toNat_natCast]; rfl
    have hfold := (fold_ev (ins l i) (by rw [ins_len]; omega) (ins_word l hw i) k (by omega)).2
    rw [impl_added.l0, if_pos (by omega), hc, Option.bind_some, hI, Option.bind_some, hfold, Option.bind_some, cand]
    by_cases h : foldB (ins l i) = true
    · rw [if_pos h, if_pos h, if_pos (by omega), wrap_succ (by omega), ih k (i + 1) _ (by omega) (by simp; omega) (by omega), List.append_assoc]; rfl
    · rw [if_neg h, if_neg h, wrap_succ (by omega)]
      exact ih k (i + 1) acc (by omega) (by omega) (by omega)
theorem added_ev (l : List Int) (hl : 1 ≤ l.length ∧ l.length ≤ 7) (hw : wordB l = true) (k : Nat) (hk : 1200 ≤ k) :
    spec_spAdded.f k l = some (SortL.sortL (cand l (l.length + 1) 0)) ∧ impl_added.f k l = some (SortL.sortL (cand l (l.length + 1) 0)) := by
  have h1 := sadd_l0 l hl hw (l.length + 1) k 0 [] (by omega) (by simp) (by simp) (by omega)
  have h2 := iadd_l0 l hl hw (l.length + 1) k 0 [] (by omega) (by simp) (by omega)
  rw [insAll_sort] at h1
  rw [List.nil_append] at h2
  unfold spec_spAdded.f impl_added.f
  rw [wrap_succ (by omega)]
  exact ⟨h1, h2⟩
theorem among_ok {l : List Int} (h : Bytes l) (i s : Int) (L : List Int) (hL : 0 < L.length) (hL2 : L.length ≤ 100) (h0 : 0 ≤ i) (h1 : i ≤ 1000000000) : Drew (spec_l1Cur_among.f l i s L) i 1 (fun v => v ∈ L) := by
  unfold spec_l1Cur_among.f
  refine Drew.bind (m := 1) (m' := 0) (pick_ok h i s (L.length : Int) h0 h1 (by omega)) (fun v j t hv a b => ?_) (by omega)
  have h2 : v < (L.length : Int) := by omega
  refine Drew.ite (fun _ => Drew.ite (fun _ => ?_) (fun n => absurd h2 n)) (fun n => absurd hv.1 n)
  refine Drew.done _ _ rfl ?_ (by omega)
  obtain ⟨n, hn⟩ : ∃ n : Nat, v = (n : Int) := ⟨v.toNat, by omega⟩
  show rd L v ∈ L
  rw [hn, rd_get (by omega)]
  exact List.getElem_mem _
theorem own_val' (l : List Int) (h : l.length ≤ 1000) : spec_l1Own.f l = some l := by
  unfold spec_l1Own.f
  rw [Option.bind_some, if_pos (by simp; omega)]; rfl
theorem rdL1_at {L : List (List Int)} {i : Nat} (h : i < L.length) : rd_L1 L (i : Int) = L[i] := by
  unfold rd_L1; simp [h]
theorem sort_mem (L : List (List Int)) (x : List Int) : x ∈ SortL.sortL L ↔ x ∈ L := by
  rw [← insAll_sort]
  have := insAll_perm L []
  rw [List.nil_append] at this
  exact this.mem_iff
theorem sort_len (L : List (List Int)) : (SortL.sortL L).length = L.length := by
  rw [← insAll_sort]
  have := insAll_perm L []
  rw [List.nil_append] at this
  exact this.length_eq
/-- how a stack is ended -/
theorem stack_fin {l : List Int} (h : Bytes l) (n : Int) (p : List Int) (hp : 1 ≤ p.length) (hp2 : p.length ≤ 9) (hn : ¬ (p.length : Int) < n) (k : Nat) (j s : Int) (hj : 0 ≤ j) (hj2 : j ≤ 1000000) :
    Drew (spec_l1Cur_stack.l0 (k + 1) n p l j s) j 10 (fun q => q.length ≤ 9) := by
  rw [spec_l1Cur_stack.l0, if_neg hn, own_val' p (by omega), Option.bind_some]
  refine Drew.bind (m := 1) (m' := 5) (pick_ok h j s 14 hj (by omega) (by omega)) (fun v1 j1 s1 hv1 a1 b1 => ?_) (by omega)
  refine Drew.ite (fun _ => ?_) (fun _ => Drew.ite (fun _ => ?_) (fun _ => Drew.ite (fun _ => ?_) (fun _ => ?_)))
  · refine Drew.bind (m := 1) (m' := 3) (pick_ok h j1 s1 (p.length : Int) (by omega) (by omega) (by omega)) (fun v2 j2 s2 hv2 a2 b2 => ?_) (by omega)
    refine Drew.bind (m := 1) (m' := 2) (among_ok h j2 s2 [(-1), 0, (p.length : Int), 4611686018427387904] (by show (0 : Nat) < 4; omega) (by show (4 : Nat) ≤ 100; omega) (by omega) (by omega)) (fun v3 j3 s3 hv3 a3 b3 => ?_) (by omega)
    have h1 : 0 ≤ v2 := hv2.1
    have h2 : v2 < (p.length : Int) := by omega
    refine Drew.ite (fun _ => Drew.ite (fun _ => ?_) (fun n => absurd h2 n)) (fun n => absurd h1 n)
    exact Drew.done _ _ rfl (by show (p.set _ _).length ≤ 9; rw [List.length_set]; omega) (by omega)
  · exact Drew.done _ _ rfl (by show ([] : List Int).length ≤ 9; decide) (by omega)
  · exact Drew.done _ _ rfl (by show ([8, 7, 6, 5, 4, 3, 2, 1, 0] : List Int).length ≤ 9; decide) (by omega)
  · exact Drew.done _ _ rfl hp2 (by omega)
theorem Drew.le {β : Type} {o : Option (β × Int × Int)} {i m M : Int} {R : β → Prop} (h : Drew o i m R) (hm : m ≤ M) : Drew o i M R := by
  obtain ⟨v, j, s, e, hv, h1, h2⟩ := h.ok
  exact ⟨v, j, s, e, hv, h1, by omega⟩
theorem stack_l0 {l : List Int} (h : Bytes l) (n : Int) (hn : n ≤ 8) (d : Nat) : ∀ (k : Nat) (p : List Int) (j s : Int), wordB p = true → 1 ≤ p.length → p.length ≤ 8 → n ≤ (p.length : Int) + d → 1300 + 2 * d ≤ k → 0 ≤ j → j + 4 * d ≤ 100000 →
    Drew (spec_l1Cur_stack.l0 k n p l j s) j (10 + 4 * d) (fun q => q.length ≤ 9) := by
  induction d with
  | zero =>
    intro k p j s hw hp hp2 hd hk hj hj2
    obtain ⟨k, rfl⟩ : ∃ m, k = m + 1 := ⟨k - 1, by omega⟩
    exact stack_fin h n p hp (by omega) (by omega) k j s hj (by omega)
  | succ d ih =>
    intro k p j s hw hp hp2 hd hk hj hj2
    obtain ⟨k, rfl⟩ : ∃ m, k = m + 1 := ⟨k - 1, by omega⟩
    by_cases c : (p.length : Int) < n
    · have hw1 : wrap64 ((p.length : Int) + 1) = (p.length : Int) + 1 := wrap_id (by omega) (by omega)
      have step : ∀ (i : Nat) (k' : Nat) (j' s' : Int), 1300 + 2 * d ≤ k' → j ≤ j' → j' ≤ j + 4 → Drew (spec_l1Cur_stack.l0 k' n (ins p i) l j' s') j' (10 + 4 * d) (fun q => q.length ≤ 9) :=
        fun i k' j' s' h1 h2 h3 => ih k' (ins p i) j' s' (ins_word p hw i) (by rw [ins_len]; omega) (by rw [ins_len]; omega) (by rw [ins_len]; omega) h1 (by omega) (by omega)
      rw [spec_l1Cur_stack.l0, if_pos c, hw1]
      refine Drew.bind (m := 1) (m' := 13 + 4 * d) (pick_ok h j s ((p.length : Int) + 1) hj (by omega) (by omega)) (fun v1 j1 s1 hv1 a1 b1 => ?_) (by omega)
      have ea := (added_ev p ⟨hp, by omega⟩ hw k (by omega)).1
      have tail : ∀ (b : Bool) (k' : Nat) (j2 s2 : Int), 1300 + 2 * d ≤ k' → (b = true → 0 < (SortL.sortL (cand p (p.length + 1) 0)).length) → j1 ≤ j2 → j2 ≤ j1 + 1 → Drew (spec_l1Cur_stack.j1 (k' + 1) n p v1 (SortL.sortL (cand p (p.length + 1) 0)) b l j2 s2) j2 (11 + 4 * d) (fun q => q.length ≤ 9) := by
        intro b k' j2 s2 hk' hb g1 g2
        have hlen : (SortL.sortL (cand p (p.length + 1) 0)).length ≤ 9 := by rw [sort_len]; have := cand_len p (p.length + 1) 0; omega
        rw [spec_l1Cur_stack.j1]
        refine Drew.ite (fun hbt => ?_) (fun _ => ?_)
        · have hpos := hb hbt
          refine Drew.bind (m := 1) (m' := 10 + 4 * d) (pick_ok h j2 s2 ((SortL.sortL (cand p (p.length + 1) 0)).length : Int) (by omega) (by omega) (by omega)) (fun v3 j3 s3 hv3 a3 b3 => ?_) (by omega)
          have h1 : 0 ≤ v3 := hv3.1
          have h2 : v3 < ((SortL.sortL (cand p (p.length + 1) 0)).length : Int) := by omega
          refine Drew.ite (fun _ => Drew.ite (fun _ => ?_) (fun n => absurd h2 n)) (fun n => absurd h1 n)
          obtain ⟨m, hm⟩ : ∃ m : Nat, v3 = (m : Int) := ⟨v3.toNat, by omega⟩
          have hmem := (sort_mem _ _).1 (List.getElem_mem (l := SortL.sortL (cand p (p.length + 1) 0)) (n := m) (by omega))
          obtain ⟨i, hi⟩ := cand_mem p _ 0 _ hmem
          show Drew (spec_l1Cur_stack.l0 k' n (rd_L1 (SortL.sortL (cand p (p.length + 1) 0)) v3) l j3 s3) j3 (10 + 4 * d) _
          rw [hm, rdL1_at (by omega), hi]
          exact step i k' j3 s3 hk' (by omega) (by omega)
        · have h1 : 0 ≤ v1 := hv1.1
          have h2 : v1 ≤ (p.length : Int) := by omega
          rw [if_pos h1, if_pos h2, own_val' _ (by simp; omega)]
          simp only [Option.bind_some]
          rw [if_pos (by simp; omega), if_pos (by simp; omega)]
          exact (step v1.toNat k' j2 s2 hk' (by omega) (by omega)).le (by omega)
      obtain ⟨k, rfl⟩ : ∃ m, k = m + 1 := ⟨k - 1, by omega⟩
      show Drew ((spec_spAdded.f (k + 1) p).bind _) j1 (13 + 4 * d) _
      rw [ea, Option.bind_some]
      refine Drew.ite (fun hpos => ?_) (fun _ => ?_)
      · have hpos' : ((SortL.sortL (cand p (p.length + 1) 0)).length : Int) > 0 := hpos
        refine Drew.bind (m := 1) (m' := 11 + 4 * d) (one_ok h j1 s1 8 (by omega) (by omega) (by omega)) (fun b j2 s2 _ a2 b2 => ?_) (by omega)
        exact tail (!b) k j2 s2 (by omega) (fun _ => by omega) a2 b2
      · exact (tail false k j1 s1 (by omega) (fun e => by cases e) (by omega) (by omega)).le (by omega)
    · exact (stack_fin h n p hp (by omega) c k j s hj (by omega)).le (by omega)
theorem stack_ok {l : List Int} (h : Bytes l) (most : Int) (hm : 1 ≤ most) (hm2 : most ≤ 8) (k : Nat) (hk : 1400 ≤ k) (j s : Int) (hj : 0 ≤ j) (hj2 : j ≤ 1000) : Drew (spec_l1Cur_stack.f k l j s most) j 100 (fun q => q.length ≤ 9) := by
  unfold spec_l1Cur_stack.f
  refine Drew.bind (m := 1) (m' := 90) (pick_ok h j s most hj (by omega) (by omega)) (fun v1 j1 s1 hv1 a1 b1 => ?_) (by omega)
  have h0 : 0 ≤ v1 := hv1.1
  have hw : wrap64 (1 + v1) = 1 + v1 := wrap_id (by omega) (by omega)
  show Drew (spec_l1Cur_stack.l0 k (wrap64 (1 + v1)) [0] l j1 s1) j1 90 _
  rw [hw]
  exact (stack_l0 h (1 + v1) (by omega) 10 k [0] j1 s1 (by decide) (by decide) (by decide) (by simp; omega) (by omega) (by omega) (by omega)).le (by omega)
theorem cand_has (l : List Int) (d : Nat) : ∀ i0 i, i0 ≤ i → i < i0 + d → foldB (ins l i) = true → ins l i ∈ cand l d i0 := by
  induction d with
  | zero => intro i0 i h1 h2; omega
  | succ d ih =>
    intro i0 i h1 h2 hf
    rw [cand]
    by_cases e : i = i0
    · subst e
      rw [if_pos hf]; exact List.mem_cons_self ..
    · have := ih (i0 + 1) i (by omega) (by omega) hf
      split
      · exact List.mem_cons_of_mem _ this
      · exact this
theorem cut_getD (p : List Int) (i j : Nat) : (p.eraseIdx i).getD j 0 = if j < i then p.getD j 0 else p.getD (j + 1) 0 := by
  rw [List.getD_eq_getElem?_getD, List.getElem?_eraseIdx]
  split <;> rw [List.getD_eq_getElem?_getD]
theorem cut_len (p : List Int) (i : Nat) (hi : i < p.length) : (p.eraseIdx i).length = p.length - 1 := List.length_eraseIdx_of_lt hi
theorem ins_cut (p : List Int) (i : Nat) (hi : i < p.length) (h : p.getD i 0 = (p.length : Int) - 1) : ins (p.eraseIdx i) i = p := by
  have e1 : (p.eraseIdx i).take i = p.take i := by
    rw [List.eraseIdx_eq_take_drop_succ, List.take_append_of_le_length (by simp; omega), List.take_take, Nat.min_self]
  have e2 : (p.eraseIdx i).drop i = p.drop (i + 1) := by
    rw [List.eraseIdx_eq_take_drop_succ, List.drop_append, List.drop_of_length_le (by simp; omega), List.nil_append, List.length_take, Nat.min_eq_left (by omega), Nat.sub_self, List.drop_zero]
  unfold ins
  rw [e1, e2, cut_len p i hi]
  have e3 : (((p.length - 1 : Nat)) : Int) = p[i] := by rw [getD_get p i hi] at h; omega
  rw [e3, List.append_assoc, List.singleton_append, ← List.drop_eq_getElem_cons hi, List.take_append_drop]
theorem cut_isword {p : List Int} (i : Nat) (hi : i < p.length) (h : p.getD i 0 = (p.length : Int) - 1) (hw : wordB p = true) : wordB (p.eraseIdx i) = true := by
  obtain ⟨h1, h2⟩ := (wordB_iff p).1 hw
  refine (wordB_iff _).2 ⟨fun j hj => ?_, fun j m hj hm hjm => ?_⟩
  · rw [cut_len p i hi] at hj ⊢
    rw [cut_getD]
    split
    · have g1 := h1 j (by omega); have g2 := h2 i j hi (by omega) (by omega); omega
    · have g1 := h1 (j + 1) (by omega); have g2 := h2 i (j + 1) hi (by omega) (by omega); omega
  · rw [cut_len p i hi] at hj hm
    rw [cut_getD, cut_getD]
    split <;> split <;> exact h2 _ _ (by omega) (by omega) (by omega)
/-- a place taken out leaves it whether two arcs cross -/
theorem crB_cut (i a b c d : Int) (ha : a ≠ i) (hb : b ≠ i) (hc : c ≠ i) (hd : d ≠ i) (h1 : a ≠ c) (h2 : a ≠ d) (h3 : b ≠ c) (h4 : b ≠ d) :
    crB (if a < i then a else a - 1) (if b < i then b else b - 1) (if c < i then c else c - 1) (if d < i then d else d - 1) = crB a b c d := by
  by_cases ga : a < i <;> by_cases gb : b < i <;> by_cases gc : c < i <;> by_cases gd : d < i <;> simp only [ga, gb, gc, gd, if_true, if_false] <;>
    (rw [crB_iff a b c d h1 h2 h3 h4, crB_iff _ _ _ _ (by omega) (by omega) (by omega) (by omega)]; congr 1; apply propext; omega)
theorem cut_fold {p : List Int} (i : Nat) (hl : 2 ≤ p.length ∧ p.length ≤ 8) (hi : i < p.length) (h : p.getD i 0 = (p.length : Int) - 1) (hw : wordB p = true) (hf : foldB p = true) : foldB (p.eraseIdx i) = true := by
  have hwr := cut_isword i hi h hw
  have hlen := cut_len p i hi
  obtain ⟨P, p1, p2⟩ := fold_iff p (by omega) hw
  obtain ⟨R, q1, q2⟩ := fold_iff (p.eraseIdx i) (by rw [hlen]; omega) hwr
  rw [q2]
  rw [p2] at hf
  have hPi : P.getD (p.length - 1) 0 = (i : Int) := by
    have := p1.at_ i hi
    rw [h, show ((p.length : Int) - 1).toNat = p.length - 1 by omega] at this
    exact this
  have hv : ∀ x, x + 1 < p.length → P.getD x 0 ≠ (i : Int) ∧ R.getD x 0 = if P.getD x 0 < (i : Int) then P.getD x 0 else P.getD x 0 - 1 := by
    intro x hx
    obtain ⟨j, hj, e⟩ := word_all p (by omega) hw x (by omega)
    have g1 := p1.at_ j hj
    rw [e, Int.toNat_natCast] at g1
    have hji : j ≠ i := fun c => by subst c; rw [h] at e; omega
    rw [g1]
    refine ⟨by omega, ?_⟩
    by_cases c : j < i
    · have g2 := q1.at_ j (by omega)
      rw [cut_getD, if_pos c, e, Int.toNat_natCast] at g2
      rw [if_pos (by omega), g2]
    · have g2 := q1.at_ (j - 1) (by omega)
      rw [cut_getD, if_neg (by omega), show j - 1 + 1 = j by omega, e, Int.toNat_natCast] at g2
      rw [if_neg (by omega), g2]; omega
  intro a b hab hb hp
  have ap := p1.apart
  have hlP := p1.len
  rw [hlen] at hb
  have key := hf a b hab (by omega) hp
  unfold xc at key ⊢
  obtain ⟨n1, v1⟩ := hv a (by omega)
  obtain ⟨n2, v2⟩ := hv (a + 1) (by omega)
  obtain ⟨n3, v3⟩ := hv b (by omega)
  obtain ⟨n4, v4⟩ := hv (b + 1) (by omega)
  have m1 := ap a b (by omega) (by omega) (by omega)
  have m2 := ap a (b + 1) (by omega) (by omega) (by omega)
  have m3 := ap (a + 1) b (by omega) (by omega) (by omega)
  have m4 := ap (a + 1) (b + 1) (by omega) (by omega) (by omega)
  rw [v1, v2, v3, v4, crB_cut _ _ _ _ _ n1 n2 n3 n4 m1 m2 m3 m4]
  exact key
/-- both ends of a list exchanged so many times -/
def swapped (l : List Int) (i : Nat) : List Int := (l.drop (l.length - i)).reverse ++ ((l.drop i).take (l.length - 2 * i) ++ (l.take i).reverse)
theorem swapped_len (l : List Int) (i : Nat) (h : 2 * i ≤ l.length) : (swapped l i).length = l.length := by
  simp [swapped]; omega
theorem swapped_get (l : List Int) (i j : Nat) (h : 2 * i ≤ l.length) (hj : j < l.length) : (swapped l i)[j]? = if j < i ∨ l.length - i ≤ j then l[l.length - 1 - j]? else l[j]? := by
  unfold swapped
  by_cases h1 : j < i
  · rw [List.getElem?_append_left (by simp; omega), List.getElem?_reverse (by simp; omega), List.getElem?_drop, if_pos (.inl h1)]
    simp only [List.length_drop]
    congr 1; omega
  · rw [List.getElem?_append_right (by simp; omega)]
    simp only [List.length_reverse, List.length_drop]
    by_cases h2 : j < l.length - i
    · rw [List.getElem?_append_left (by simp; omega), List.getElem?_take_of_lt (by omega), List.getElem?_drop, if_neg (by omega)]
      congr 1; omega
    · rw [List.getElem?_append_right (by simp; omega), List.getElem?_reverse (by simp; omega), if_pos (.inr (by omega)), List.getElem?_take_of_lt (by simp; omega)]
      simp only [List.length_take, List.length_drop]
      congr 1; omega
theorem swapped_step (l : List Int) (i : Nat) (h : 2 * i + 1 < l.length) : ((swapped l i).set i (l.getD (l.length - 1 - i) 0)).set (l.length - 1 - i) (l.getD i 0) = swapped l (i + 1) := by
  apply List.ext_getElem?
  intro j
  by_cases hj : j < l.length
  · rw [swapped_get l (i + 1) j (by omega) hj, List.getElem?_set, List.getElem?_set]
    simp only [List.length_set, swapped_len l i (by omega)]
    by_cases h1 : l.length - 1 - i = j
    · rw [if_pos h1, if_pos (by omega), if_pos (.inr (by omega)), ← h1]
      rw [show l.length - 1 - (l.length - 1 - i) = i by omega]
      simp [List.getElem?_eq_getElem (show i < l.length by omega)]
    · rw [if_neg h1]
      by_cases h2 : i = j
      · subst h2
        rw [if_pos rfl, if_pos (by omega), if_pos (.inl (by omega))]
        simp [List.getElem?_eq_getElem (show l.length - 1 - i < l.length by omega)]
      · rw [if_neg h2, swapped_get l i j (by omega) hj]
        by_cases h3 : j < i ∨ l.length - i ≤ j
        · rw [if_pos h3, if_pos (by omega)]
        · rw [if_neg h3, if_neg (by omega)]
  · rw [List.getElem?_eq_none (by simp [swapped_len l i (by omega)]; omega), List.getElem?_eq_none (by rw [swapped_len l (i + 1) (by omega)]; omega)]
theorem swapped_done (l : List Int) : swapped l (l.length / 2) = l.reverse := by
  apply List.ext_getElem?
  intro j
  by_cases hj : j < l.length
  · rw [swapped_get l _ j (by omega) hj, List.getElem?_reverse hj]
    by_cases h : j < l.length / 2 ∨ l.length - l.length / 2 ≤ j
    · rw [if_pos h]
    · rw [if_neg h]; congr 1; omega
  · rw [List.getElem?_eq_none (by rw [swapped_len l _ (by omega)]; omega), List.getElem?_eq_none (by simp; omega)]
theorem swapped_zero (l : List Int) : swapped l 0 = l := by simp [swapped]
theorem rd_swapped (l : List Int) (i j : Nat) (h : 2 * i ≤ l.length) (h1 : i ≤ j) (h2 : j < l.length - i) : rd (swapped l i) (j : Int) = l.getD j 0 := by
  rw [rd_nat, List.getD_eq_getElem?_getD, List.getD_eq_getElem?_getD, swapped_get l i j h (by omega), if_neg (by omega)]
theorem rev_l0 (l : List Int) (h : l.length ≤ 1048576) (d : Nat) : ∀ (k i : Nat), i + d = l.length / 2 → d < k →
    slices_Reverse_int_int.l0 k (swapped l i) (i : Int) ((l.length : Int) - 1 - i) = some l.reverse := by
  induction d with
  | zero =>
    intro k i hi hk
    obtain ⟨k, rfl⟩ : ∃ m, k = m + 1 := ⟨k - 1, by omega⟩
    rw [slices_Reverse_int_int.l0, if_neg (by omega)]
    have : i = l.length / 2 := by omega
    rw [this, swapped_done]
  | succ d ih =>
    intro k i hi hk
    obtain ⟨k, rfl⟩ : ∃ m, k = m + 1 := ⟨k - 1, by omega⟩
    have e : ((l.length : Int) - 1 - i) = ((l.length - 1 - i : Nat) : Int) := by omega
    have hlen := swapped_len l i (by omega)
    rw [e, slices_Reverse_int_int.l0, if_pos (by omega), if_pos (by omega), if_pos (by omega), if_pos (by omega), if_pos (by omega), rd_swapped l i _ (by omega) (by omega) (by omega), rd_swapped l i i (by omega) (by omega) (by omega), Int.toNat_natCast, Int.toNat_natCast, swapped_step l i (by omega), wrap_succ (by omega), wrap_id (by omega) (by omega)]
    have := ih k (i + 1) (by omega) (by omega)
    rw [show ((l.length - 1 - i : Nat) : Int) - 1 = (l.length : Int) - 1 - ((i + 1 : Nat) : Int) by omega]
    exact this
theorem rev_ev (l : List Int) (h : l.length ≤ 1048576) (k : Nat) (hk : l.length < k) : slices_Reverse_int_int.f k l = some l.reverse := by
  unfold slices_Reverse_int_int.f
  have := rev_l0 l h (l.length / 2) k 0 (by omega) (by omega)
  rw [swapped_zero] at this
  rw [wrap_id (by omega) (by omega)]
  simpa using this
theorem isfold_ans (l : List Int) (k : Nat) (hk : 1000 ≤ k) : impl_IsFolding.f k l = some (stackB l && foldB l, stackB l) := by
  unfold impl_IsFolding.f
  rw [isStack_ev l k (by omega), Option.bind_some]
  cases hp : stackB l with
  | false => rfl
  | true => rw [if_pos rfl, (fold_ev l (stackB_len hp) (stackB_word hp) k (by omega)).2]; rfl
theorem turn_no (l : List Int) (h : l.length ≤ 1048576) (y : Int) (hp : stackB l = false ∨ ¬ (-100 ≤ y ∧ y ≤ 100)) (k : Nat) (hk : l.length + 1000 ≤ k) : spec_TurnFolding.f k l y = some ([], false) ∧ impl_TurnFolding.f k l y = some ([], false) := by
  obtain ⟨k, rfl⟩ : ∃ m, k = m + 1 := ⟨k - 1, by omega⟩
  unfold spec_TurnFolding.f impl_TurnFolding.f impl_isTurn.f
  rw [spStack_ev l h _ (by omega), isStack_ev l _ (by omega), sIn_val, iIn_val]
  cases hs : stackB l with
  | false =>
    simp only [Option.bind_some, Bool.false_eq_true, if_false]
    rw [impl_TurnFolding.j0, if_pos rfl]
    exact ⟨trivial, rfl⟩
  | true =>
    have hy := hp.resolve_left (by rw [hs]; simp)
    have e : decide (-100 ≤ y ∧ y ≤ 100) = false := decide_eq_false hy
    simp only [Option.bind_some, if_true, e, Bool.false_eq_true, if_false]
    rw [impl_TurnFolding.j0]
    exact ⟨trivial, rfl⟩
theorem turn_yes (l : List Int) (y : Int) (hp : stackB l = true) (hy : -100 ≤ y ∧ y ≤ 100) : ∃ r, Turned l y r ∧ ∀ k, 2000 ≤ k → spec_TurnFolding.f k l y = some (r, true) ∧ impl_TurnFolding.f k l y = some (r, true) := by
  have hl := stackB_len hp
  obtain ⟨r, h1, h2⟩ := turned_loop l y hl hy l.length 0 (List.replicate l.length 0) (by omega) (by simp) (fun j hj => by omega)
  refine ⟨r, h1, fun k hk => ?_⟩
  obtain ⟨k, rfl⟩ : ∃ m, k = m + 1 := ⟨k - 1, by omega⟩
  obtain ⟨h3, _⟩ := h2 (k + 1) (by omega)
  obtain ⟨_, h4⟩ := h2 k (by omega)
  rw [Int.natCast_zero] at h3 h4
  have e : decide (-100 ≤ y ∧ y ≤ 100) = true := decide_eq_true hy
  unfold spec_TurnFolding.f impl_TurnFolding.f impl_isTurn.f spec_spTurn.f
  rw [spStack_ev l (by omega) _ (by omega), isStack_ev l _ (by omega), sIn_val, iIn_val, hp, e]
  simp only [Option.bind_some, if_true]
  have c1 : (0 : Int) ≤ (l.length : Int) := by omega
  have c2 : l.length ≤ 35184372088832 := by omega
  rw [impl_TurnFolding.j0]
  simp only [Bool.not_true, Bool.false_eq_true, if_false, c1, c2, if_true, Int.toNat_natCast, h3, h4, Option.bind_some, and_self]
theorem back_l0 (l : List Int) (hl : l.length ≤ 8) (d : Nat) : ∀ (k : Nat), d ≤ l.length → d < k →
    spec_ReverseFolding.l0 k l (l.drop d).reverse ((d : Int) - 1) = some (l.reverse, true) := by
  induction d with
  | zero =>
    intro k hd hk
    obtain ⟨k, rfl⟩ : ∃ m, k = m + 1 := ⟨k - 1, by omega⟩
    rw [spec_ReverseFolding.l0, if_neg (by omega)]; rfl
  | succ d ih =>
    intro k hd hk
    obtain ⟨k, rfl⟩ : ∃ m, k = m + 1 := ⟨k - 1, by omega⟩
    have hlt : d < l.length := by omega
    rw [show ((d + 1 : Nat) : Int) - 1 = (d : Int) by omega, spec_ReverseFolding.l0, if_pos (by omega), if_pos (by omega), if_pos (by omega), if_pos (by simp; omega), rd_get hlt, wrap_id (by omega) (by omega)]
    have := ih k (by omega) (by omega)
    rw [List.drop_eq_getElem_cons hlt, List.reverse_cons] at this
    exact this
theorem rev_ans (l : List Int) (h : l.length ≤ 1048576) (k : Nat) (hk : l.length + 1000 ≤ k) : spec_ReverseFolding.f k l = some (if stackB l = true then l.reverse else [], stackB l) ∧ impl_ReverseFolding.f k l = some (if stackB l = true then l.reverse else [], stackB l) := by
  cases hp : stackB l with
  | false =>
    unfold spec_ReverseFolding.f impl_ReverseFolding.f
    rw [spStack_ev l h k (by omega), isStack_ev l k (by omega), hp]
    exact ⟨rfl, rfl⟩
  | true =>
    show spec_ReverseFolding.f k l = some (l.reverse, true) ∧ impl_ReverseFolding.f k l = some (l.reverse, true)
    have hl := (stackB_len hp).2
    unfold spec_ReverseFolding.f impl_ReverseFolding.f slices_Clone_int_int.f
    have hb := back_l0 l hl l.length k (Nat.le_refl _) (by omega)
    rw [List.drop_length, List.reverse_nil] at hb
    rw [spStack_ev l h k (by omega), isStack_ev l k (by omega), hp, Option.bind_some, Option.bind_some, if_pos rfl, if_pos rfl, wrap_id (by omega) (by omega), hb, if_pos (by omega), Option.bind_some, rev_ev l h k (by omega)]
    exact ⟨rfl, rfl⟩
theorem mir_l0 (l : List Int) (hl : l.length ≤ 8) (hw : wordB l = true) (d : Nat) : ∀ (k i : Nat), i + d = l.length → d < k →
    spec_RenumberFolding.l0 k l ((numb l).take i) l (l.length : Int) (i : Int) = some (numb l, true) ∧ impl_fromLast.l0 k l ((numb l).take i) l (l.length : Int) (i : Int) = some (numb l) := by
  have hll : (numb l).length = l.length := numb_len l
  induction d with
  | zero =>
    intro k i hi hk
    obtain ⟨k, rfl⟩ : ∃ m, k = m + 1 := ⟨k - 1, by omega⟩
    rw [spec_RenumberFolding.l0, impl_fromLast.l0, if_neg (by omega), if_neg (by omega), List.take_of_length_le (by omega)]
    exact ⟨rfl, rfl⟩
  | succ d ih =>
    intro k i hi hk
    obtain ⟨k, rfl⟩ : ∃ m, k = m + 1 := ⟨k - 1, by omega⟩
    have hr := wordB_in hw i (by omega)
    have c1 : (i : Int) < (l.length : Int) := by omega
    have c2 : (0 : Int) ≤ (i : Int) := by omega
    have c3 : ((numb l).take i).length < 17592186044416 := by rw [List.length_take, hll]; omega
    rw [spec_RenumberFolding.l0, impl_fromLast.l0]
    simp only [c1, c2, c3, if_true]
    have e : (numb l).take i ++ [wrap64 (wrap64 ((l.length : Int) - 1) - rd l (i : Int))] = (numb l).take (i + 1) := by
      rw [wrap_id (x := (l.length : Int) - 1) (by omega) (by omega), wrap_id (by omega) (by omega), List.take_add_one, rd_get (show i < l.length by omega)]
      simp [numb, show i < l.length by omega]
    rw [e, wrap_succ (by omega)]
    exact ih k (i + 1) (by omega) (by omega)
theorem num_ans (l : List Int) (h : l.length ≤ 1048576) (k : Nat) (hk : l.length + 1000 ≤ k) : spec_RenumberFolding.f k l = some (if stackB l = true then numb l else [], stackB l) ∧ impl_RenumberFolding.f k l = some (if stackB l = true then numb l else [], stackB l) := by
  cases hp : stackB l with
  | false =>
    unfold spec_RenumberFolding.f impl_RenumberFolding.f
    rw [spStack_ev l h k (by omega), isStack_ev l k (by omega), hp]
    exact ⟨rfl, rfl⟩
  | true =>
    show spec_RenumberFolding.f k l = some (numb l, true) ∧ impl_RenumberFolding.f k l = some (numb l, true)
    have hl := (stackB_len hp).2
    obtain ⟨h3, h4⟩ := mir_l0 l hl (stackB_word hp) l.length k 0 (by omega) (by omega)
    rw [Int.natCast_zero, List.take_zero] at h3 h4
    unfold spec_RenumberFolding.f impl_RenumberFolding.f impl_fromLast.f
    rw [spStack_ev l h k (by omega), isStack_ev l k (by omega), hp, Option.bind_some, Option.bind_some, if_pos rfl, if_pos rfl, h3, h4]
    exact ⟨rfl, rfl⟩
theorem crossed_ans (l : List Int) (h : l.length ≤ 1048576) : ∃ R : List (List Int), R.length ≤ 64 ∧ (∀ x ∈ R, x.length = 2) ∧ (stackB l = true → foldB l = ((R.length : Int) == 0)) ∧ ∀ k, l.length + 1000 ≤ k → spec_CrossedArcs.f k l = some (R, stackB l) ∧ impl_CrossedArcs.f k l = some (R, stackB l) := by
  cases hp : stackB l with
  | false =>
    refine ⟨[], by simp, by simp, fun h => (by cases h), fun k hk => ?_⟩
    unfold spec_CrossedArcs.f impl_CrossedArcs.f
    rw [spStack_ev l h k (by omega), isStack_ev l k (by omega), hp]
    exact ⟨rfl, rfl⟩
  | true =>
    have hl := stackB_len hp
    obtain ⟨R, h1, h2, h3⟩ := crossed_ev l hl (stackB_word hp)
    refine ⟨R, h1, h2, fun _ => ?_, fun k hk => ?_⟩
    · obtain ⟨_, h4⟩ := h3 700 (Nat.le_refl _)
      unfold foldB impl_isFolding.f
      rw [h4]; rfl
    · obtain ⟨h4, h5⟩ := h3 k (by omega)
      unfold spec_CrossedArcs.f impl_CrossedArcs.f
      rw [spStack_ev l h k (by omega), isStack_ev l k (by omega), hp, h4, h5]
      exact ⟨rfl, rfl⟩
def addB (l : List Int) : Bool := stackB l && (foldB l && decide (l.length ≠ 8))
theorem add_ans (l : List Int) (h : l.length ≤ 1048576) (k : Nat) (hk : l.length + 2000 ≤ k) : spec_AddStamp.f k l = some (if addB l = true then SortL.sortL (cand l (l.length + 1) 0) else [], addB l) ∧ impl_AddStamp.f k l = some (if addB l = true then SortL.sortL (cand l (l.length + 1) 0) else [], addB l) := by
  unfold addB
  cases hp : stackB l with
  | false =>
    show spec_AddStamp.f k l = some ([], false) ∧ impl_AddStamp.f k l = some ([], false)
    unfold spec_AddStamp.f impl_AddStamp.f
    rw [spStack_ev l h k (by omega), isStack_ev l k (by omega), hp]
    exact ⟨rfl, rfl⟩
  | true =>
    have hl := stackB_len hp
    have hw := stackB_word hp
    cases hf : foldB l with
    | false =>
      show spec_AddStamp.f k l = some ([], false) ∧ impl_AddStamp.f k l = some ([], false)
      obtain ⟨e1, e2⟩ := fold_ev l hl hw k (by omega)
      unfold spec_AddStamp.f impl_AddStamp.f
      rw [spStack_ev l h k (by omega), isStack_ev l k (by omega), hp, Option.bind_some, Option.bind_some, if_pos rfl, if_pos rfl, e1, e2, hf]
      exact ⟨rfl, rfl⟩
    | true =>
      obtain ⟨e1, e2⟩ := fold_ev l hl hw k (by omega)
      by_cases h8 : l.length = 8
      · have e : decide (l.length ≠ 8) = false := decide_eq_false (by omega)
        rw [e]
        show spec_AddStamp.f k l = some ([], false) ∧ impl_AddStamp.f k l = some ([], false)
        unfold spec_AddStamp.f impl_AddStamp.f
        rw [spStack_ev l h k (by omega), isStack_ev l k (by omega), hp, Option.bind_some, Option.bind_some, if_pos rfl, if_pos rfl, e1, e2, hf, Option.bind_some, Option.bind_some, if_pos rfl, if_pos rfl, if_pos (by omega), if_pos (by omega)]
        exact ⟨rfl, rfl⟩
      · have e : decide (l.length ≠ 8) = true := decide_eq_true h8
        rw [e]
        show spec_AddStamp.f k l = some (SortL.sortL (cand l (l.length + 1) 0), true) ∧ impl_AddStamp.f k l = some (SortL.sortL (cand l (l.length + 1) 0), true)
        obtain ⟨e3, e4⟩ := added_ev l (by omega) hw k (by omega)
        unfold spec_AddStamp.f impl_AddStamp.f
        rw [spStack_ev l h k (by omega), isStack_ev l k (by omega), hp, Option.bind_some, Option.bind_some, if_pos rfl, if_pos rfl, e1, e2, hf, Option.bind_some, Option.bind_some, if_pos rfl, if_pos rfl, if_neg (by omega), if_neg (by omega), e3, e4]
        exact ⟨rfl, rfl⟩
theorem add_len (l : List Int) : (if addB l = true then SortL.sortL (cand l (l.length + 1) 0) else []).length ≤ 1000 ∧ ∀ x ∈ (if addB l = true then SortL.sortL (cand l (l.length + 1) 0) else []), x.length ≤ 1000 := by
  by_cases h : addB l = true
  · rw [if_pos h]
    unfold addB at h
    rw [Bool.and_eq_true] at h
    have hl := stackB_len h.1
    refine ⟨?_, fun x hx => ?_⟩
    · rw [SortL.sortL_length]; have := cand_len l (l.length + 1) 0; omega
    · obtain ⟨j, rfl⟩ := cand_mem l _ _ x ((SortL.sortL_perm _).mem_iff.1 hx)
      rw [ins_len]; omega
  · rw [if_neg h]; exact ⟨by simp, fun x hx => by cases hx⟩
/-- two lists compared -/
theorem ySame_l0 (a b : List Int) (hl : a.length = b.length) (ha : a.length ≤ 1000) (d : Nat) : ∀ (k i : Nat), i + d = a.length → d < k → laws_ySame.l0 k a b (a.length : Int) (i : Int) = some (decide (a.drop i = b.drop i)) := by
  induction d with
  | zero =>
    intro k i hi hk
    obtain ⟨k, rfl⟩ : ∃ m, k = m + 1 := ⟨k - 1, by omega⟩
    rw [laws_ySame.l0, if_neg (by omega), List.drop_of_length_le (by omega), List.drop_of_length_le (by omega)]
    rfl
  | succ d ih =>
    intro k i hi hk
    obtain ⟨k, rfl⟩ : ∃ m, k = m + 1 := ⟨k - 1, by omega⟩
    have h1 : i < a.length := by omega
    have h2 : i < b.length := by omega
    rw [laws_ySame.l0, if_pos (by omega), if_pos (by omega), if_pos (by omega), if_pos (by omega), rd_get h1, rd_get h2, List.drop_eq_getElem_cons h1, List.drop_eq_getElem_cons h2, wrap_succ (by omega), ih k (i + 1) (by omega) (by omega)]
    by_cases e : a[i] = b[i]
    · rw [if_pos e]; congr 1; rw [decide_eq_decide, List.cons_eq_cons]
      exact ⟨fun h => ⟨e, h⟩, fun h => h.2⟩
    · rw [if_neg e]; congr 1; symm; rw [decide_eq_false_iff_not, List.cons_eq_cons]
      exact fun h => e h.1
theorem ySame_ans (a b : List Int) (ha : a.length ≤ 1000) (k : Nat) (hk : 1100 ≤ k) : laws_ySame.f k a b = some (decide (a = b)) := by
  unfold laws_ySame.f
  by_cases h : a.length = b.length
  · rw [if_pos (by omega)]
    have := ySame_l0 a b h ha a.length k 0 (by omega) (by omega)
    simpa using this
  · rw [if_neg (by omega)]; congr 1; symm; rw [decide_eq_false_iff_not]
    exact fun e => h (by rw [e])
theorem ySame_ev (a : List Int) (ha : a.length ≤ 1000) (k : Nat) (hk : 1100 ≤ k) : laws_ySame.f k a a = some true := by
  rw [ySame_ans a a ha k hk, decide_eq_true rfl]
theorem yRows_l0 (a : List (List Int)) (ha : a.length ≤ 1000) (hx : ∀ x ∈ a, x.length ≤ 1000) (d : Nat) : ∀ (k i : Nat), i + d = a.length → d + 1100 ≤ k → laws_yRows.l0 k a a (a.length : Int) (i : Int) = some true := by
  induction d with
  | zero =>
    intro k i hi hk
    obtain ⟨k, rfl⟩ : ∃ m, k = m + 1 := ⟨k - 1, by omega⟩
    rw [laws_yRows.l0, if_neg (by omega)]
  | succ d ih =>
    intro k i hi hk
    obtain ⟨k, rfl⟩ : ∃ m, k = m + 1 := ⟨k - 1, by omega⟩
    have h1 : i < a.length := by omega
    rw [laws_yRows.l0, if_pos (by omega), if_pos (by omega), if_pos (by omega), if_pos (by omega), rdL1_at h1, ySame_ev _ (hx _ (List.getElem_mem h1)) k (by omega), Option.bind_some, if_pos rfl, wrap_succ (by omega)]
    exact ih k (i + 1) (by omega) (by omega)
theorem yRows_ev (a : List (List Int)) (ha : a.length ≤ 1000) (hx : ∀ x ∈ a, x.length ≤ 1000) (k : Nat) (hk : 2200 ≤ k) : laws_yRows.f k a a = some true := by
  unfold laws_yRows.f
  rw [if_pos rfl]
  exact yRows_l0 a ha hx a.length k 0 (by omega) (by omega)
theorem drawStack_ans {l : List Int} (h : Bytes l) (k : Nat) (hk : 1400 ≤ k) : ∃ p, p.length ≤ 9 ∧ spec_DrawIsFolding.f k l = some p := by
  obtain ⟨v, j, s, e, hv, _⟩ := (stack_ok h 8 (by omega) (by omega) k hk 0 0 (by omega) (by omega)).ok
  exact ⟨v, hv, by unfold spec_DrawIsFolding.f; rw [e]; rfl⟩

end Go.Proofs.Ytjgkcknopnollaa.Pure
