/- Foldings with a stamp more: the program sorts what it made, the reference puts each at its place; both come to one list. -/
import Derived.Test.YtjgkcknopnollaaGreatPFoldIs
import Derived.Test.YtjgkcknopnollaaGreatQA2
set_option linter.unusedVariables false
set_option linter.unusedSimpArgs false
namespace Go.Proofs.YtjgkcknopnollaaGreat.Pure
open Go.RowKit Go.Proofs.YtjgkcknopnollaaGreat.D Go.Proofs.YtjgkcknopnollaaGreatW.PrintWords Go.Proofs.YtjgkcknopnollaaGreatW.PrintLast Go.Proofs.YtjgkcknopnollaaGreatW.PrintMore

/-- the stamp more, at a place -/
def ins (l : List Int) (i : Nat) : List Int := l.take i ++ [(l.length : Int)] ++ l.drop i
theorem ins_perm (l : List Int) (i : Nat) : (ins l i).Perm ((l.length : Int) :: l) := by
  unfold ins
  have h : (l.take i ++ [(l.length : Int)] ++ l.drop i).Perm ([(l.length : Int)] ++ l.take i ++ l.drop i) := (List.perm_append_comm).append_right _
  rw [List.append_assoc, List.append_assoc, List.take_append_drop] at h
  rw [List.append_assoc]
  exact h
theorem ins_len (l : List Int) (i : Nat) : (ins l i).length = l.length + 1 := by
  rw [(ins_perm l i).length_eq]; rfl
theorem ins_word (l : List Int) (hw : wordB l = true) (i : Nat) : wordB (ins l i) = true := by
  unfold wordB inR at hw ⊢
  rw [Bool.and_eq_true] at hw ⊢
  obtain ⟨h1, h2⟩ := hw
  have h1' := List.all_eq_true.1 h1
  have h2' := of_decide_eq_true h2
  refine ⟨List.all_eq_true.2 fun x hx => decide_eq_true ?_, decide_eq_true ?_⟩
  · rw [ins_len]
    rcases List.mem_cons.1 ((ins_perm l i).mem_iff.1 hx) with rfl | hx
    · omega
    · have := of_decide_eq_true (h1' x hx); omega
  · refine (ins_perm l i).nodup_iff.2 (List.nodup_cons.2 ⟨fun hm => ?_, h2'⟩)
    have := of_decide_eq_true (h1' _ hm); omega
/-- those that are foldings, from a place on -/
def cand (l : List Int) : Nat → Nat → List (List Int)
  | 0, _ => []
  | d + 1, i => if foldB (ins l i) = true then ins l i :: cand l d (i + 1) else cand l d (i + 1)
theorem cand_len (l : List Int) (d : Nat) : ∀ i, (cand l d i).length ≤ d := by
  induction d with
  | zero => intro i; simp [cand]
  | succ d ih =>
    intro i
    rw [cand]
    split
    · rw [List.length_cons]; have := ih (i + 1); omega
    · have := ih (i + 1); omega
theorem cand_mem (l : List Int) (d : Nat) : ∀ i, ∀ x ∈ cand l d i, ∃ j, x = ins l j := by
  induction d with
  | zero => intro i x hx; simp [cand] at hx
  | succ d ih =>
    intro i x hx
    rw [cand] at hx
    split at hx
    · rcases List.mem_cons.1 hx with rfl | hx
      · exact ⟨i, rfl⟩
      · exact ih _ x hx
    · exact ih _ x hx
/-- put one by one -/
def insAll (acc : List (List Int)) : List (List Int) → List (List Int)
  | [] => acc
  | x :: t => insAll (SortL.insL x acc) t
theorem insAll_perm (xs : List (List Int)) : ∀ acc, (insAll acc xs).Perm (acc ++ xs) := by
  induction xs with
  | nil => intro acc; simp [insAll]
  | cons x t ih =>
    intro acc
    rw [insAll]
    refine (ih _).trans ?_
    refine ((SortL.insL_perm x acc).append_right t).trans ?_
    exact (List.perm_middle (l₁ := acc) (l₂ := t) (a := x)).symm
theorem insAll_sorted (xs : List (List Int)) : ∀ acc, SortL.Sorted acc → SortL.Sorted (insAll acc xs) := by
  induction xs with
  | nil => intro acc h; exact h
  | cons x t ih => intro acc h; exact ih _ (SortL.insL_sorted x acc h)
theorem insAll_sort (xs : List (List Int)) : insAll [] xs = SortL.sortL xs :=
  SortL.sortL_eq (by have := insAll_perm xs []; simpa using this) (insAll_sorted xs [] (by unfold SortL.Sorted; simp))
/-- numbers that are small -/
def small (l : List Int) : Prop := ∀ x ∈ l, 0 ≤ x ∧ x ≤ 1000
theorem less_l0 (a b : List Int) (ha : small a) (hb : small b) (hl : a.length ≤ 1000) (hlb : b.length ≤ 1000) (d : Nat) : ∀ (k i : Nat), i + d = a.length → i ≤ b.length → d < k →
    ∃ c : Int, spec_stListLess.l0 k a b a (a.length : Int) (i : Int) = some c ∧ (c < 0 ↔ SortL.cmpL (a.drop i) (b.drop i) < 0) := by
  induction d with
  | zero =>
    intro k i hi hib hk
    obtain ⟨k, rfl⟩ : ∃ m, k = m + 1 := ⟨k - 1, by omega⟩
    rw [spec_stListLess.l0, if_neg (by omega), List.drop_of_length_le (by omega)]
    refine ⟨_, rfl, ?_⟩
    rw [wrap_id (by omega) (by omega)]
    by_cases h : i < b.length
    · rw [List.drop_eq_getElem_cons h]
      unfold SortL.cmpL
      omega
    · rw [List.drop_of_length_le (by omega)]
      unfold SortL.cmpL
      omega
  | succ d ih =>
    intro k i hi hib hk
    obtain ⟨k, rfl⟩ : ∃ m, k = m + 1 := ⟨k - 1, by omega⟩
    have hlt : i < a.length := by omega
    rw [spec_stListLess.l0, if_pos (by omega), if_pos (by omega), if_pos (by omega)]
    by_cases h : i < b.length
    · rw [if_neg (by omega), if_pos (by omega), rd_get hlt, rd_get h, List.drop_eq_getElem_cons hlt, List.drop_eq_getElem_cons h]
      have h1 := ha _ (List.getElem_mem hlt)
      have h2 := hb _ (List.getElem_mem h)
      by_cases e : a[i] = b[i]
      · rw [if_pos e, wrap_succ (by omega)]
        obtain ⟨c, hc, hcl⟩ := ih k (i + 1) (by omega) (by omega) (by omega)
        refine ⟨c, hc, ?_⟩
        rw [hcl]
        have e2 : SortL.cmpL (a[i] :: a.drop (i + 1)) (b[i] :: b.drop (i + 1)) = SortL.cmpL (a.drop (i + 1)) (b.drop (i + 1)) := by
          conv => lhs; unfold SortL.cmpL
          rw [if_neg (by omega), if_neg (by omega)]
        rw [e2]
      · rw [if_neg e]
        refine ⟨_, rfl, ?_⟩
        rw [wrap_id (by omega) (by omega)]
        unfold SortL.cmpL
        by_cases h3 : a[i] < b[i]
        · rw [if_pos h3]; omega
        · rw [if_neg h3, if_pos (by omega)]; omega
    · have hb0 : b.drop i = [] := List.drop_of_length_le (by omega)
      rw [if_pos (by omega), hb0, List.drop_eq_getElem_cons hlt]
      exact ⟨1, rfl, by unfold SortL.cmpL; omega⟩
theorem less_ev (a b : List Int) (ha : small a) (hb : small b) (hl : a.length ≤ 1000) (hlb : b.length ≤ 1000) (k : Nat) (hk : a.length < k) :
    ∃ c : Int, spec_stListLess.f k a b = some c ∧ (c < 0 ↔ SortL.cmpL a b < 0) := by
  obtain ⟨c, h1, h2⟩ := less_l0 a b ha hb hl hlb a.length k 0 (by omega) (by omega) hk
  exact ⟨c, by unfold spec_stListLess.f; exact h1, by simpa using h2⟩
theorem put_l0 (acc : List (List Int)) (p : List Int) (hacc : ∀ x ∈ acc, small x ∧ x.length ≤ 1000) (hp : small p) (hpl : p.length ≤ 1000) (hl : acc.length ≤ 100000) (d : Nat) : ∀ (k i : Nat), i + d = acc.length → d + 1001 < k →
    spec_spPut.l0 k acc p (i : Int) = some (acc.take i ++ SortL.insL p (acc.drop i)) := by
  induction d with
  | zero =>
    intro k i hi hk
    obtain ⟨k, rfl⟩ : ∃ m, k = m + 1 := ⟨k - 1, by omega⟩
    rw [spec_spPut.l0, if_neg (by omega)]
    simp only [Option.bind_some]
    rw [if_pos (by omega), if_pos (by omega), Int.toNat_natCast, if_pos (by simp; omega), if_pos (by simp; omega), if_pos (by simp; omega)]
    rw [List.drop_of_length_le (by omega), List.nil_append, List.append_nil]; rfl
  | succ d ih =>
    intro k i hi hk
    obtain ⟨k, rfl⟩ : ∃ m, k = m + 1 := ⟨k - 1, by omega⟩
    have hlt : i < acc.length := by omega
    have hx := hacc _ (List.getElem_mem hlt)
    have hr : rd_L2 acc (i : Int) = acc[i] := by unfold rd_L2; simp [hlt]
    obtain ⟨c, hc, hcl⟩ := less_ev acc[i] p hx.1 hp hx.2 hpl k (by omega)
    rw [spec_spPut.l0, if_pos (by omega), if_pos (by omega), hr, hc, Option.bind_some, List.drop_eq_getElem_cons hlt]
    by_cases h : c < 0
    · rw [if_pos h, wrap_succ (by omega), ih k (i + 1) (by omega) (by omega)]
      conv => rhs; unfold SortL.insL
      rw [if_pos (hcl.1 h), List.take_succ_eq_append_getElem hlt, List.append_assoc]; rfl
    · rw [if_neg h]
      simp only [Option.bind_some]
      rw [if_pos (by omega), Int.toNat_natCast, if_pos (by simp; omega), if_pos (by simp; omega), if_pos (by simp; omega)]
      conv => rhs; unfold SortL.insL
      rw [if_neg (fun h2 => h (hcl.2 h2)), List.drop_eq_getElem_cons hlt]
      simp
theorem put_ev (acc : List (List Int)) (p : List Int) (hacc : ∀ x ∈ acc, small x ∧ x.length ≤ 1000) (hp : small p) (hpl : p.length ≤ 1000) (hl : acc.length ≤ 100000) (k : Nat) (hk : acc.length + 1001 < k) :
    spec_spPut.f k acc p = some (SortL.insL p acc) := by
  unfold spec_spPut.f
  have := put_l0 acc p hacc hp hpl hl acc.length k 0 (by omega) hk
  simpa using this
theorem ins_small (l : List Int) (hl : l.length ≤ 100) (hw : wordB l = true) (i : Nat) : small (ins l i) := by
  intro x hx
  have := ins_word l hw i
  unfold wordB inR at this
  rw [Bool.and_eq_true] at this
  have := of_decide_eq_true (List.all_eq_true.1 this.1 x hx)
  rw [ins_len] at this
  omega
theorem sadd_l0 (l : List Int) (hl : 1 ≤ l.length ∧ l.length ≤ 7) (hw : wordB l = true) (d : Nat) : ∀ (k i : Nat) (acc : List (List Int)), i + d = l.length + 1 → acc.length ≤ i → (∀ x ∈ acc, small x ∧ x.length ≤ 1000) → d + 1100 ≤ k →
    spec_spAdded.l0 k l acc (i : Int) = some (insAll acc (cand l d i)) := by
  induction d with
  | zero =>
    intro k i acc hi ha hx hk
    obtain ⟨k, rfl⟩ : ∃ m, k = m + 1 := ⟨k - 1, by omega⟩
    rw [spec_spAdded.l0, if_neg (by omega)]; rfl
  | succ d ih =>
    intro k i acc hi ha hx hk
    obtain ⟨k, rfl⟩ : ∃ m, k = m + 1 := ⟨k - 1, by omega⟩
    have ho : spec_l1Own.f (l.take i) = some (l.take i) := by
      have hq : (l.take i).length < 17592186044416 := by rw [List.length_take]; omega
      unfold spec_l1Own.f
      rw [Option.bind_some, List.length_nil, Nat.zero_add, if_pos hq, List.nil_append]
    have hfold := (fold_ev (ins l i) (by rw [ins_len]; omega) (ins_word l hw i) k (by omega)).1
    have hs := ins_small l (by omega) hw i
    rw [spec_spAdded.l0, if_pos (by omega), if_pos (by omega), Int.toNat_natCast, ho, Option.bind_some, if_pos (by simp; omega)]
    simp only [Option.bind_some]
    rw [if_pos (by simp; omega)]
    have e : l.take i ++ [(l.length : Int)] ++ l.drop i = ins l i := rfl
    simp only [Option.bind_some, e, hfold]
    rw [cand]
    by_cases h : foldB (ins l i) = true
    · rw [if_pos h, if_pos h, put_ev acc _ hx hs (by rw [ins_len]; omega) (by omega) k (by omega), Option.bind_some, wrap_succ (by omega)]
      rw [ih k (i + 1) _ (by omega) (by rw [(SortL.insL_perm _ _).length_eq, List.length_cons]; omega) (fun x hm => by
        rcases List.mem_cons.1 ((SortL.insL_perm _ _).mem_iff.1 hm) with rfl | hm
        · exact ⟨hs, by rw [ins_len]; omega⟩
        · exact hx x hm) (by omega)]
      rfl
    · rw [if_neg h, if_neg h, wrap_succ (by omega)]
      exact ih k (i + 1) acc (by omega) (by omega) hx (by omega)
theorem added_ev (l : List Int) (hl : 1 ≤ l.length ∧ l.length ≤ 7) (hw : wordB l = true) (k : Nat) (hk : 1200 ≤ k) :
    spec_spAdded.f k l = some (SortL.sortL (cand l (l.length + 1) 0)) ∧ True := by
  have h1 := sadd_l0 l hl hw (l.length + 1) k 0 [] (by omega) (by simp) (by simp) (by omega)
  rw [insAll_sort] at h1
  unfold spec_spAdded.f
  exact ⟨h1, trivial⟩

end Go.Proofs.YtjgkcknopnollaaGreat.Pure
