/- Foldings and their texts tell each other; the reference's drawn text. -/
import Derived.Test.YtjgkcknopnollaaGreatPFoldBits
import Derived.Test.YtjgkcknopnollaaGreatPSpoil
import Derived.Test.YtjgkcknopnollaaGreatQA2
set_option linter.unusedVariables false
set_option linter.unusedSimpArgs false
namespace Go.Proofs.YtjgkcknopnollaaGreat.Pure
open Go.RowKit Go.Proofs.YtjgkcknopnollaaGreat.C Go.Proofs.YtjgkcknopnollaaGreatW.PrintWords Go.Proofs.YtjgkcknopnollaaGreatW.PrintLast Go.Proofs.YtjgkcknopnollaaGreatW.PrintMore

theorem sn_append (a b : List Int) : strOfNums (a ++ b) = strOfNums a ++ strOfNums b := by
  unfold strOfNums
  apply ByteArray.ext
  simp
/-- the byte of a stamp -/
def enc (y : Int) : Int := wrap64 (48 + y) % 256
def textOf (l : List Int) : ByteArray := strOfNums (l.map enc)
theorem textOf_size (l : List Int) : (textOf l).size = l.length := by unfold textOf; rw [strOfNums_size, List.length_map]
theorem text_l0 (l : List Int) (hl : l.length ≤ 8) (hw : wordB l = true) (d : Nat) : ∀ (k i : Nat) (x : List Int), i + d = l.length → x.length + d ≤ 1000 → d + 1 < k →
    spec_spText.l0 k (strOfNums x) l (l.length : Int) (i : Int) = some (strOfNums (x ++ (l.drop i).map enc)) ∧ impl_digits.l0 k x l (l.length : Int) (i : Int) = some (strOfNums (x ++ (l.drop i).map enc)) := by
  induction d with
  | zero =>
    intro k i x hi hx hk
    obtain ⟨k, rfl⟩ : ∃ m, k = m + 1 := ⟨k - 1, by omega⟩
    rw [spec_spText.l0, impl_digits.l0, if_neg (by omega), if_neg (by omega), List.drop_of_length_le (by omega), List.map_nil, List.append_nil]
    exact ⟨rfl, rfl⟩
  | succ d ih =>
    intro k i x hi hx hk
    obtain ⟨k, rfl⟩ : ∃ m, k = m + 2 := ⟨k - 2, by omega⟩
    have hr := wordB_in hw i (by omega)
    have e : spec_l1Num.f (k + 1) (rd l (i : Int)) = some (strOfNums [enc (rd l (i : Int))]) := by
      rw [spec_l1Num.f, if_pos (by omega)]; rfl
    have hlt : i < l.length := by omega
    have c1 : (i : Int) < (l.length : Int) := by omega
    have c2 : (0 : Int) ≤ (i : Int) := by omega
    have c3 : x.length < 140737488355328 := by omega
    have h2 := ih (k + 1) (i + 1) (x ++ [enc (rd l (i : Int))]) (by omega) (by simp; omega) (by omega)
    rw [List.append_assoc, List.singleton_append, rd_get hlt, ← List.map_cons, ← List.drop_eq_getElem_cons hlt] at h2
    rw [spec_spText.l0, impl_digits.l0]
    simp only [c1, c2, c3, if_true, e, Option.bind_some]
    rw [if_pos (by rw [strOfNums_size, strOfNums_size]; simp; omega), ← sn_append, wrap_succ (by omega), rd_get hlt]
    exact h2
theorem text_ev {l : List Int} (h : stackB l = true) (k : Nat) (hk : 100 ≤ k) : spec_spText.f k l = some (textOf l) ∧ impl_digits.f k l = some (textOf l) := by
  have hl := stackB_len h
  have := text_l0 l hl.2 (stackB_word h) l.length k 0 [] (by omega) (by simp; omega) (by omega)
  rw [List.drop_zero, List.nil_append, Int.natCast_zero] at this
  exact this
theorem ftext_ev (l : List Int) (h : l.length ≤ 1048576) (k : Nat) (hk : l.length + 1000 ≤ k) : spec_FoldingText.f k l = some (if stackB l = true then (textOf l, true) else (⟨#[]⟩, false)) ∧ impl_FoldingText.f k l = some (if stackB l = true then (textOf l, true) else (⟨#[]⟩, false)) := by
  unfold spec_FoldingText.f impl_FoldingText.f
  rw [spStack_ev l h k (by omega), isStack_ev l k (by omega)]
  simp only [Option.bind_some]
  cases hp : stackB l with
  | false => exact ⟨rfl, rfl⟩
  | true =>
    have ht := text_ev hp k (by omega)
    simp only [if_true, ht.1, ht.2, Option.bind_some]
    exact ⟨trivial, trivial⟩
/-- the numbers that a text's bytes stand for, from place i on -/
def numsOf (s : ByteArray) : Nat → Nat → List Int
  | 0, _ => []
  | d + 1, i => wrap64 (wrap64 (bt s (i : Int)) - 48) :: numsOf s d (i + 1)
theorem numsOf_length (s : ByteArray) (d : Nat) : ∀ i, (numsOf s d i).length = d := by
  induction d with
  | zero => intro i; rfl
  | succ d ih => intro i; simp [numsOf, ih]
def ansP (l : List Int) : List Int × Bool := if stackB l = true then (l, true) else ([], false)
theorem iparse_l0 (s : ByteArray) (hs : s.size ≤ 1048576) (d : Nat) : ∀ (k i : Nat) (x : List Int), i + d = s.size → x.length = i → d + 400 ≤ k →
    impl_ParseFolding.l0 k s x (s.size : Int) (i : Int) = some (ansP (x ++ numsOf s d i)) := by
  induction d with
  | zero =>
    intro k i x hi hx hk
    obtain ⟨k, rfl⟩ : ∃ m, k = m + 1 := ⟨k - 1, by omega⟩
    rw [impl_ParseFolding.l0, if_neg (by omega), isStack_ev x k (by omega), Option.bind_some]
    simp only [numsOf, List.append_nil, ansP]
    split <;> rfl
  | succ d ih =>
    intro k i x hi hx hk
    obtain ⟨k, rfl⟩ : ∃ m, k = m + 1 := ⟨k - 1, by omega⟩
    rw [impl_ParseFolding.l0, if_pos (by omega), if_pos (by omega), if_pos (by omega), if_pos (by omega), wrap_succ (by omega), ih k (i + 1) _ (by omega) (by simp; omega) (by omega)]
    simp [numsOf]
theorem sparse_l0 (s : ByteArray) (hs : s.size ≤ 8) (d : Nat) : ∀ (k i : Nat) (x : List Int), i + d = s.size → x.length = i → d + 400 ≤ k →
    spec_ParseFolding.l0 k s x (i : Int) = some (ansP (x ++ numsOf s d i)) := by
  induction d with
  | zero =>
    intro k i x hi hx hk
    obtain ⟨k, rfl⟩ : ∃ m, k = m + 1 := ⟨k - 1, by omega⟩
    rw [spec_ParseFolding.l0, if_neg (by omega), spStack_ev x (by omega) k (by omega), Option.bind_some]
    simp only [numsOf, List.append_nil, ansP]
    split <;> rfl
  | succ d ih =>
    intro k i x hi hx hk
    obtain ⟨k, rfl⟩ : ∃ m, k = m + 1 := ⟨k - 1, by omega⟩
    rw [spec_ParseFolding.l0, if_pos (by omega), if_pos (by omega), if_pos (by omega), wrap_succ (by omega), ih k (i + 1) _ (by omega) (by simp; omega) (by omega)]
    simp [numsOf]
theorem parse_ev (s : ByteArray) (hs : s.size ≤ 1048576) (k : Nat) (hk : s.size + 1000 ≤ k) : spec_ParseFolding.f k s = some (ansP (numsOf s s.size 0)) ∧ impl_ParseFolding.f k s = some (ansP (numsOf s s.size 0)) := by
  have hi := iparse_l0 s hs s.size k 0 [] (by omega) rfl (by omega)
  rw [Int.natCast_zero, List.nil_append] at hi
  refine ⟨?_, hi⟩
  unfold spec_ParseFolding.f
  by_cases h8 : s.size ≤ 8
  · have hs := sparse_l0 s h8 s.size k 0 [] (by omega) rfl (by omega)
    rw [Int.natCast_zero, List.nil_append] at hs
    rw [if_neg (by omega), hs]
  · rw [if_pos (by omega)]
    have : ¬ stackB (numsOf s s.size 0) = true := fun h => by
      have := (stackB_len h).2
      rw [numsOf_length] at this
      omega
    simp [ansP, this]
theorem bt_sn (xs : List Int) (i : Nat) (h : i < xs.length) (h0 : 0 ≤ xs[i]) (h1 : xs[i] < 256) : bt (strOfNums xs) (i : Int) = xs[i] := by
  unfold bt
  rw [dif_pos (by rw [strOfNums_size]; simpa using h)]
  have : (strOfNums xs)[(i : Int).toNat]'(by rw [strOfNums_size]; simpa using h) = UInt8.ofNat xs[i].toNat := by
    show ((xs.map fun n => UInt8.ofNat n.toNat).toArray)[(i : Int).toNat]'(by simpa using h) = _
    simp
  rw [this, UInt8.toNat_ofNat']
  omega
theorem nums_text (l : List Int) (hl : l.length ≤ 8) (hw : wordB l = true) (d : Nat) : ∀ i, i + d = l.length → numsOf (textOf l) d i = l.drop i := by
  induction d with
  | zero => intro i hi; rw [List.drop_of_length_le (by omega)]; rfl
  | succ d ih =>
    intro i hi
    have hlt : i < l.length := by omega
    have hr := wordB_in hw i hlt
    rw [rd_get hlt] at hr
    have he : enc l[i] = 48 + l[i] := by unfold enc; rw [wrap_id (by omega) (by omega)]; omega
    have hm : (l.map enc)[i]'(by simpa using hlt) = 48 + l[i] := by rw [List.getElem_map, he]
    have hb : bt (textOf l) (i : Int) = 48 + l[i] := by
      unfold textOf
      rw [bt_sn (l.map enc) i (by simpa using hlt) (by rw [hm]; omega) (by rw [hm]; omega), hm]
    rw [numsOf, ih (i + 1) (by omega), hb, List.drop_eq_getElem_cons hlt, wrap_id (x := 48 + l[i]) (by omega) (by omega), wrap_id (by omega) (by omega)]
    congr 1; omega
theorem nums_at (s : ByteArray) (d : Nat) : ∀ i j (h : j < d), (numsOf s d i)[j]? = some (bt s ((i + j : Nat) : Int) - 48) := by
  induction d with
  | zero => intro i j h; omega
  | succ d ih =>
    intro i j h
    have hb := bt_range s (i : Int)
    cases j with
    | zero => rw [numsOf, List.getElem?_cons_zero, wrap_id (x := bt s (i : Int)) (by omega) (by omega), wrap_id (by omega) (by omega), Nat.add_zero]
    | succ j => rw [numsOf, List.getElem?_cons_succ, ih (i + 1) j (by omega), show i + 1 + j = i + (j + 1) by omega]
theorem text_nums (s : ByteArray) : textOf (numsOf s s.size 0) = s := by
  apply ByteArray.ext
  apply Array.ext
  · show (textOf (numsOf s s.size 0)).size = s.size
    rw [textOf_size, numsOf_length]
  · intro i h1 h2
    have hi : i < s.size := h2
    have hl : i < (numsOf s s.size 0).length := by rw [numsOf_length]; exact hi
    have hn : (numsOf s s.size 0)[i] = bt s (i : Int) - 48 := by
      have := nums_at s s.size 0 i hi
      rw [List.getElem?_eq_getElem hl, Nat.zero_add] at this
      exact Option.some.inj this
    have hb := bt_range s (i : Int)
    have he : enc (bt s (i : Int) - 48) = bt s (i : Int) := by unfold enc; rw [wrap_id (by omega) (by omega)]; omega
    have hv : (textOf (numsOf s s.size 0)).data[i] = UInt8.ofNat (enc ((numsOf s s.size 0)[i])).toNat := by
      unfold textOf strOfNums
      simp
    rw [hv, hn, he, ← bt_at s (i : Int) (by simpa using hi)]
    simp
    rfl
/-- the drawn text -/
theorem drawParse_ans {l : List Int} (h : Bytes l) (k : Nat) (hk : 2000 ≤ k) : ∃ t : ByteArray, t.size ≤ 20 ∧ spec_DrawParseFolding.f k l = some t := by
  obtain ⟨k, rfl⟩ : ∃ m, k = m + 1 := ⟨k - 1, by omega⟩
  obtain ⟨v, j, s, e, hv, h1, h2⟩ := (stack_ok h 8 (by omega) (by omega) (k + 1) (by omega) 0 0 (by omega) (by omega)).ok
  have tail : ∀ x4 : ByteArray, x4.size ≤ 9 → ∃ t : ByteArray, t.size ≤ 20 ∧ spec_DrawParseFolding.j0 (k + 1) x4 l j s = some t := by
    intro x4 hx
    obtain ⟨b, j2, s2, e2, _, g1, g2⟩ := (one_ok h j s 3 (by omega) (by omega) (by omega)).ok
    rw [spec_DrawParseFolding.j0, e2, Option.bind_some]
    cases b with
    | false => exact ⟨x4, by omega, rfl⟩
    | true =>
      obtain ⟨t, j3, s3, e3, ht, _, _⟩ := (spoilt_ok h x4 (⟨#[48, 49, 50, 51, 56, 120]⟩ : ByteArray) (by omega) (by decide) k (by omega) j2 s2 (by omega) (by omega)).ok
      refine ⟨t, by omega, ?_⟩
      simp only [if_true]
      rw [e3, Option.bind_some]
  unfold spec_DrawParseFolding.f
  rw [e, Option.bind_some]
  show ∃ t : ByteArray, t.size ≤ 20 ∧ ((spec_spStack.f (k + 1) v).bind _) = some t
  rw [spStack_ev v (by omega) (k + 1) (by omega), Option.bind_some]
  cases hp : stackB v with
  | false => exact tail _ (by decide)
  | true =>
    have ht := (text_ev hp (k + 1) (by omega)).1
    simp only [if_true, ht, Option.bind_some]
    exact tail _ (by rw [textOf_size]; exact hv)

end Go.Proofs.YtjgkcknopnollaaGreat.Pure
