/- The law FnSemisAreFoldings, as plain lists tell it: at all bytes the law says yes. All arch systems of at most six arches and all words of at most six stamps are looked through by the kernel. -/
import Derived.Test.YtjgkcknopnollaaGreatPSemiDraw
import Derived.Test.YtjgkcknopnollaaGreatSFL
import Derived.Test.YtjgkcknopnollaaGreatQA2
set_option linter.unusedVariables false
set_option linter.unusedSimpArgs false
namespace Go.Proofs.YtjgkcknopnollaaGreat.Pure
open Go.RowKit Go.Proofs.YtjgkcknopnollaaGreat.D Go.Proofs.YtjgkcknopnollaaGreatW.PrintWords Go.Proofs.YtjgkcknopnollaaGreatW.PrintLast Go.Proofs.YtjgkcknopnollaaGreatW.PrintMore

theorem upm {α : Type} {g : Nat → Option α} (hm : ∀ k, LeO (g k) (g (k + 1))) {r : α} {k : Nat} (h : g k = some r) : ∀ d, g (k + d) = some r
  | 0 => h
  | d + 1 => hm _ r (upm hm h d)
theorem upK {α : Type} {g : Nat → Option α} {r : α} (hm : ∀ k, LeO (g k) (g (k + 1))) (h : g 3000 = some r) {k : Nat} (hk : 3000 ≤ k) : g k = some r := by
  obtain ⟨d, rfl⟩ : ∃ d, k = 3000 + d := ⟨k - 3000, by omega⟩
  exact upm hm h d
def wordsOf (n : Nat) : Nat → List (List Int)
  | 0 => [[]]
  | d + 1 => (wordsOf n d).flatMap fun t => ((List.range n).filter fun (x : Nat) => !(t.contains (x : Int))).map fun (x : Nat) => (x : Int) :: t
theorem mem_words (n : Nat) : ∀ l : List Int, l.Nodup → (∀ x ∈ l, 0 ≤ x ∧ x < (n : Int)) → l ∈ wordsOf n l.length
  | [], _, _ => by simp [wordsOf]
  | x :: t, hn, h => by
    obtain ⟨hn1, hn2⟩ := List.nodup_cons.1 hn
    have h1 := mem_words n t hn2 (fun y hy => h y (List.mem_cons_of_mem _ hy))
    obtain ⟨hx1, hx2⟩ := h x (List.mem_cons_self ..)
    rw [List.length_cons, wordsOf, List.mem_flatMap]
    refine ⟨t, h1, List.mem_map.2 ⟨x.toNat, List.mem_filter.2 ⟨List.mem_range.2 (by omega), ?_⟩, by rw [Int.toNat_of_nonneg hx1]⟩⟩
    rw [Int.toNat_of_nonneg hx1]
    simpa using hn1
theorem ySame_l0 (a b : List Int) (hl : a.length = b.length) (ha : a.length ≤ 1000) (d : Nat) : ∀ (k i : Nat), i + d = a.length → d < k → laws_ySame.l0 k a b (a.length : Int) (i : Int) = some (decide (a.drop i = b.drop i)) := by
  induction d with
  | zero =>
    intro k i hi hk
    obtain ⟨k, rfl⟩ : ∃ m, k = m + 1 := ⟨k - 1, by omega⟩
    rw [laws_ySame.l0, if_neg (by omega), List.drop_of_length_le (by omega), List.drop_of_length_le (by omega)]
    rfl
  | succ d ih =>
    intro k i hi hk
    obtain ⟨k, rfl⟩ : ∃ m, k = m + 1 := ⟨k - 1, by omega⟩
    have h1 : i < a.length := by omega
    have h2 : i < b.length := by omega
    rw [laws_ySame.l0, if_pos (by omega), if_pos (by omega), if_pos (by omega), if_pos (by omega), rd_get h1, rd_get h2, List.drop_eq_getElem_cons h1, List.drop_eq_getElem_cons h2, wrap_succ (by omega), ih k (i + 1) (by omega) (by omega)]
    by_cases e : a[i] = b[i]
    · rw [if_pos e]; congr 1; rw [decide_eq_decide, List.cons_eq_cons]
      exact ⟨fun h => ⟨e, h⟩, fun h => h.2⟩
    · rw [if_neg e]; congr 1; symm; rw [decide_eq_false_iff_not, List.cons_eq_cons]
      exact fun h => e h.1
theorem ySame_ans (a b : List Int) (ha : a.length ≤ 1000) (k : Nat) (hk : 1100 ≤ k) : laws_ySame.f k a b = some (decide (a = b)) := by
  unfold laws_ySame.f
  by_cases h : a.length = b.length
  · rw [if_pos (by omega)]
    have := ySame_l0 a b h ha a.length k 0 (by omega) (by omega)
    simpa using this
  · rw [if_neg (by omega)]; congr 1; symm; rw [decide_eq_false_iff_not]
    exact fun e => h (by rw [e])
theorem ySame_ev (a : List Int) (ha : a.length ≤ 1000) (k : Nat) (hk : 1100 ≤ k) : laws_ySame.f k a a = some true := by
  rw [ySame_ans a a ha k hk, decide_eq_true rfl]
theorem yRows_l0 (a : List (List Int)) (ha : a.length ≤ 1000) (hx : ∀ x ∈ a, x.length ≤ 1000) (d : Nat) : ∀ (k i : Nat), i + d = a.length → d + 1100 ≤ k → laws_yRows.l0 k a a (a.length : Int) (i : Int) = some true := by
  induction d with
  | zero =>
    intro k i hi hk
    obtain ⟨k, rfl⟩ : ∃ m, k = m + 1 := ⟨k - 1, by omega⟩
    rw [laws_yRows.l0, if_neg (by omega)]
  | succ d ih =>
    intro k i hi hk
    obtain ⟨k, rfl⟩ : ∃ m, k = m + 1 := ⟨k - 1, by omega⟩
    have h1 : i < a.length := by omega
    rw [laws_yRows.l0, if_pos (by omega), if_pos (by omega), if_pos (by omega), if_pos (by omega), rdL2_at h1, ySame_ev _ (hx _ (List.getElem_mem h1)) k (by omega), Option.bind_some, if_pos rfl, wrap_succ (by omega)]
    exact ih k (i + 1) (by omega) (by omega)
theorem yRows_ev (a : List (List Int)) (ha : a.length ≤ 1000) (hx : ∀ x ∈ a, x.length ≤ 1000) (k : Nat) (hk : 2200 ≤ k) : laws_yRows.f k a a = some true := by
  unfold laws_yRows.f
  rw [if_pos rfl]
  exact yRows_l0 a ha hx a.length k 0 (by omega) (by omega)
theorem big_ans (l0 l1 : List Int) (h0 : l0.length ≤ maxLen) (h1 : l1.length ≤ maxLen) : laws_big.f l0 l1 = some (!decide (l0.length + l1.length ≤ 1048576)) := by
  unfold maxLen at h0 h1
  unfold laws_big.f
  by_cases hb : (l0.length : Int) > 1048576
  · rw [if_pos hb, decide_eq_false (by omega)]; rfl
  · rw [if_neg hb, wrap_id (by omega) (by omega)]
    congr 1
    rw [← decide_not, decide_eq_decide]; omega
def ok1 {α : Type} (o : Option α) (P : α → Bool) : Bool := match o with
  | some v => P v
  | none => false
theorem ok1_iff {α : Type} {o : Option α} {P : α → Bool} (h : ok1 o P = true) : ∃ v, o = some v ∧ P v = true := by
  cases o with
  | none => cases h
  | some v => exact ⟨v, rfl, h⟩
theorem and_t {a b : Bool} (h : (a && b) = true) : a = true ∧ b = true := by cases a <;> cases b <;> simp at h ⊢
/-- a semi-meander p, its folding s, its winding u -/
def chkS (p s : List Int) (u : Int × Bool) : Bool :=
  ok1 (impl_IsFolding.f 3000 s) fun g => ok1 (impl_SemiOfFolding.f 3000 s) fun q => ok1 (impl_RainbowOf.f 3000 (wrap64 ((p.length : Int) / 2))) fun r => ok1 (impl_IsMeander.f 3000 p r.1) fun m =>
    decide (g = (true, true)) && (decide (q = (p, true)) && (r.2 && (decide (m = (true, true)) && (u.2 && (decide (0 < (s.length : Int)) && (decide (rd s 0 = 0) && (decide ((s.length : Int) = wrap64 ((p.length : Int) / 2)) && (decide (¬ u.1 > wrap64 ((p.length : Int) / 2)) && decide (Int.tmod (wrap64 (u.1 - wrap64 ((p.length : Int) / 2))) 2 = 0)))))))))
def chkP (p : List Int) : Bool :=
  ok1 (impl_FoldingOfSemi.f 3000 p) fun x => ok1 (spec_FoldingOfSemi.f 3000 p) fun y => ok1 (impl_IsSemi.f 3000 p) fun z => ok1 (spec_IsSemi.f 3000 p) fun z' => ok1 (impl_WindingOf.f 3000 p) fun u => ok1 (spec_WindingOf.f 3000 p) fun u' =>
    decide (x = y) && (decide (z = z') && (decide (u = u') && (decide (x.1.length ≤ 24) && (decide (x.2 = z.1) && (!x.2 || chkS p x.1 u)))))
set_option maxRecDepth 100000 in
theorem sys5 : ∀ n : Fin 6, allG chkP (2 * n.val) 0 [] (List.replicate (2 * n.val) 0) = true := by decide +kernel
set_option maxRecDepth 100000 in
theorem sys6 : allG chkP (2 * 6) 0 [] (List.replicate (2 * 6) 0) = true := by decide +kernel
theorem good_chk {p : List Int} (hg : good p = true) : chkP p = true := by
  obtain ⟨n, hn, e⟩ := good_half hg
  refine all_good chkP hg ?_
  rw [e]
  by_cases h6 : n = 6
  · subst h6; exact sys6
  · exact sys5 ⟨n, by omega⟩
/-- what the functions answer at a list -/
theorem ans_p (p : List Int) (hp : p.length ≤ 1000) : ∃ (s : List Int) (a c : Bool) (u : Int) (e : Bool), s.length ≤ 24 ∧
    (∀ k, 3000 ≤ k → impl_FoldingOfSemi.f k p = some (s, a) ∧ spec_FoldingOfSemi.f k p = some (s, a) ∧ impl_IsSemi.f k p = some (a, c) ∧ spec_IsSemi.f k p = some (a, c) ∧ impl_WindingOf.f k p = some (u, e) ∧ spec_WindingOf.f k p = some (u, e)) ∧
    (a = true → chkS p s (u, e) = true) := by
  cases hg : good p with
  | false =>
    refine ⟨[], false, false, 0, false, by simp, fun k hk => ?_, fun h => by cases h⟩
    obtain ⟨k, rfl⟩ : ∃ m, k = m + 1 := ⟨k - 1, by omega⟩
    have h1 := isSystem_ev p (k + 1) (by omega)
    have h2 := ahGood_ev p (by omega) (k + 1) (by omega)
    rw [hg] at h1 h2
    unfold impl_FoldingOfSemi.f spec_FoldingOfSemi.f impl_IsSemi.f spec_IsSemi.f impl_WindingOf.f spec_WindingOf.f
    rw [h1, h2]
    refine ⟨rfl, ?_, rfl, rfl, rfl, rfl⟩
    show spec_FoldingOfSemi.j0 (k + 1) p true = some ([], false)
    rw [spec_FoldingOfSemi.j0, if_pos rfl]
  | true =>
    have h := good_chk hg
    unfold chkP at h
    obtain ⟨⟨s, a⟩, e1, h⟩ := ok1_iff h
    obtain ⟨y, e2, h⟩ := ok1_iff h
    obtain ⟨⟨i, c⟩, e3, h⟩ := ok1_iff h
    obtain ⟨z', e4, h⟩ := ok1_iff h
    obtain ⟨⟨u, e⟩, e5, h⟩ := ok1_iff h
    obtain ⟨u', e6, h⟩ := ok1_iff h
    obtain ⟨g1, h⟩ := and_t h
    obtain ⟨g2, h⟩ := and_t h
    obtain ⟨g3, h⟩ := and_t h
    obtain ⟨g4, h⟩ := and_t h
    obtain ⟨g5, hz⟩ := and_t h
    obtain rfl := of_decide_eq_true g1
    obtain rfl := of_decide_eq_true g2
    obtain rfl := of_decide_eq_true g3
    have g4 : s.length ≤ 24 := of_decide_eq_true g4
    have g5 : a = i := of_decide_eq_true g5
    subst g5
    refine ⟨s, a, c, u, e, g4, fun k hk => ⟨?_, ?_, ?_, ?_, ?_, ?_⟩, fun ha => by rw [ha] at hz; exact hz⟩
    · exact upK (g := fun k => impl_FoldingOfSemi.f k p) (fun k => impl_FoldingOfSemi.mono p k) e1 hk
    · exact upK (g := fun k => spec_FoldingOfSemi.f k p) (fun k => spec_FoldingOfSemi.mono p k) e2 hk
    · exact upK (g := fun k => impl_IsSemi.f k p) (fun k => impl_IsSemi.mono p k) e3 hk
    · exact upK (g := fun k => spec_IsSemi.f k p) (fun k => spec_IsSemi.mono p k) e4 hk
    · exact upK (g := fun k => impl_WindingOf.f k p) (fun k => impl_WindingOf.mono p k) e5 hk
    · exact upK (g := fun k => spec_WindingOf.f k p) (fun k => spec_WindingOf.mono p k) e6 hk
def chkF (l : List Int) : Bool := !(stackB l) || ok1 (impl_SemiOfFolding.f 3000 l) fun x => ok1 (spec_SemiOfFolding.f 3000 l) fun y => decide (x = y) && (decide (x.1.length ≤ 24) && (!x.2 || decide (impl_FoldingOfSemi.f 3000 x.1 = some (l, true))))
set_option maxRecDepth 100000 in
theorem word5 : ∀ n : Fin 6, ((wordsOf n.val n.val).all chkF) = true := by decide +kernel
set_option maxRecDepth 100000 in
theorem word6 : ((wordsOf 6 6).all chkF) = true := by decide +kernel
theorem ans_f (l : List Int) (h : l.length ≤ 1000) : ∃ (r1 : List Int) (r3 : Bool), r1.length ≤ 24 ∧ (∀ k, 5000 ≤ k → impl_SemiOfFolding.f k l = some (r1, r3) ∧ spec_SemiOfFolding.f k l = some (r1, r3)) ∧ (r3 = true → l.length ≤ 24 ∧ ∀ k, 3000 ≤ k → impl_FoldingOfSemi.f k r1 = some (l, true)) := by
  cases hp : stackB l with
  | false =>
    refine ⟨[], false, by simp, fun k hk => ?_, fun c => by cases c⟩
    obtain ⟨k, rfl⟩ : ∃ m, k = m + 1 := ⟨k - 1, by omega⟩
    unfold spec_SemiOfFolding.f impl_SemiOfFolding.f
    rw [spStack_ev l (by omega) _ (by omega), isStack_ev l _ (by omega), hp]
    simp only [Option.bind_some, Bool.false_eq_true, if_false]
    rw [impl_SemiOfFolding.j0, if_pos rfl]
    exact ⟨rfl, trivial⟩
  | true =>
    have hl := stackB_len hp
    have hw := stackB_word hp
    by_cases h6 : l.length ≤ 6
    · have hnd : l.Nodup := by
        unfold wordB at hw
        rw [Bool.and_eq_true] at hw
        exact of_decide_eq_true hw.2
      have hm : l ∈ wordsOf l.length l.length := mem_words l.length l hnd (word_vals hw)
      have all : ((wordsOf l.length l.length).all chkF) = true := by
        by_cases g6 : l.length = 6
        · rw [g6]; exact word6
        · exact word5 ⟨l.length, by omega⟩
      have hc := List.all_eq_true.1 all l hm
      unfold chkF at hc
      rw [hp, Bool.not_true, Bool.false_or] at hc
      obtain ⟨⟨r1, r3⟩, e1, hc⟩ := ok1_iff hc
      obtain ⟨y, e2, hc⟩ := ok1_iff hc
      obtain ⟨g1, hc⟩ := and_t hc
      obtain ⟨g2, hz⟩ := and_t hc
      obtain rfl := of_decide_eq_true g1
      refine ⟨r1, r3, of_decide_eq_true g2, fun k hk => ⟨?_, ?_⟩, fun hr => ⟨by omega, fun k hk => ?_⟩⟩
      · exact upK (g := fun k => impl_SemiOfFolding.f k l) (fun k => impl_SemiOfFolding.mono l k) e1 (by omega)
      · exact upK (g := fun k => spec_SemiOfFolding.f k l) (fun k => spec_SemiOfFolding.mono l k) e2 (by omega)
      · rw [hr, Bool.not_true, Bool.false_or] at hz
        exact upK (g := fun k => impl_FoldingOfSemi.f k r1) (fun k => impl_FoldingOfSemi.mono r1 k) (of_decide_eq_true hz) hk
    · refine ⟨[], false, by simp, fun k hk => ?_, fun c => by cases c⟩
      obtain ⟨k, rfl⟩ : ∃ m, k = m + 1 := ⟨k - 1, by omega⟩
      have hf := (fold_ev l hl hw (k + 1) (by omega)).1
      unfold spec_SemiOfFolding.f impl_SemiOfFolding.f
      rw [spStack_ev l (by omega) _ (by omega), isStack_ev l _ (by omega), hp]
      have h6' : ((l.length : Int) > 6) = True := eq_true (by omega)
      have h0' : ((0 : Int) < (l.length : Int)) = True := eq_true (by omega)
      simp only [Option.bind_some, if_true, h6', h0', hf]
      refine ⟨by rw [impl_SemiOfFolding.j0, if_pos rfl], ?_⟩
      repeat' split
      all_goals rfl
def chkN (n : Int) : Bool :=
  ok1 (impl_SpreadOfWindings.f 3000 n) fun a => ok1 (spec_SpreadOfWindings.f 3000 n) fun b => ok1 (impl_AllSemis.f 3000 n) fun c => ok1 (spec_AllSemis.f 3000 n) fun d => ok1 (laws_ySum.f 3000 a.1) fun t =>
    decide (a = b) && (decide (c = d) && (decide (c.2 = a.2) && (decide (t = (c.1.length : Int)) && (decide (a.1.length ≤ 1000) && (decide (c.1.length ≤ 1000) && c.1.all fun x => decide (x.length ≤ 1000))))))
set_option maxRecDepth 100000 in
theorem all_n : (([1, 2, 3, 4, 5, 6, 7, 0] : List Int).all chkN) = true := by decide +kernel
theorem j4_ok {l : List Int} (h : Bytes l) (k : Nat) (hk : 6000 ≤ k) : laws_FnSemisAreFoldings.j4 k l false = some true := by
  obtain ⟨k, rfl⟩ : ∃ m, k = m + 1 := ⟨k - 1, by omega⟩
  obtain ⟨p, hp, e⟩ := semi_ok h k (by omega)
  have ed : spec_DrawWindingOf.f k l = some p := by unfold spec_DrawWindingOf.f; rw [e]; rfl
  obtain ⟨s, a, c, u, e', _, hk2, _⟩ := ans_p p (by omega)
  obtain ⟨_, _, _, _, w1, w2⟩ := hk2 k (by omega)
  rw [laws_FnSemisAreFoldings.j4, if_neg (by simp), ed, Option.bind_some, w1, Option.bind_some, w2, Option.bind_some, if_pos (by simp)]
  simp
theorem j3_ok {l : List Int} (h : Bytes l) (k : Nat) (hk : 7000 ≤ k) : laws_FnSemisAreFoldings.j3 k l = some true := by
  obtain ⟨k, rfl⟩ : ∃ m, k = m + 1 := ⟨k - 1, by omega⟩
  obtain ⟨n, hn, e⟩ := drawN_ok h
  have hc := List.all_eq_true.1 all_n n hn
  unfold chkN at hc
  obtain ⟨⟨a, ab⟩, e1, hc⟩ := ok1_iff hc
  obtain ⟨b, e2, hc⟩ := ok1_iff hc
  obtain ⟨⟨c, cb⟩, e3, hc⟩ := ok1_iff hc
  obtain ⟨d, e4, hc⟩ := ok1_iff hc
  obtain ⟨t, e5, hc⟩ := ok1_iff hc
  obtain ⟨g1, hc⟩ := and_t hc
  obtain ⟨g2, hc⟩ := and_t hc
  obtain ⟨g3, hc⟩ := and_t hc
  obtain ⟨g4, hc⟩ := and_t hc
  obtain ⟨g5, hc⟩ := and_t hc
  obtain ⟨g6, g7⟩ := and_t hc
  obtain rfl := of_decide_eq_true g1
  obtain rfl := of_decide_eq_true g2
  have g3 : cb = ab := of_decide_eq_true g3
  subst g3
  have g4 : t = (c.length : Int) := of_decide_eq_true g4
  have f1 := upK (g := fun k => impl_SpreadOfWindings.f k n) (fun k => impl_SpreadOfWindings.mono n k) e1 (k := k) (by omega)
  have f2 := upK (g := fun k => spec_SpreadOfWindings.f k n) (fun k => spec_SpreadOfWindings.mono n k) e2 (k := k) (by omega)
  have f3 := upK (g := fun k => impl_AllSemis.f k n) (fun k => impl_AllSemis.mono n k) e3 (k := k) (by omega)
  have f4 := upK (g := fun k => spec_AllSemis.f k n) (fun k => spec_AllSemis.mono n k) e4 (k := k) (by omega)
  have f5 := upK (g := fun k => laws_ySum.f k a) (fun k => laws_ySum.mono a k) e5 (k := k) (by omega)
  have f6 := ySame_ev a (of_decide_eq_true g5) k (by omega)
  have f7 := yRows_ev c (of_decide_eq_true g6) (fun x hx => of_decide_eq_true (List.all_eq_true.1 g7 x hx)) k (by omega)
  rw [laws_FnSemisAreFoldings.j3, e, Option.bind_some, f1, Option.bind_some, f2, Option.bind_some, f3, Option.bind_some, f4, Option.bind_some, if_neg (by simp), f6, Option.bind_some, if_pos rfl, if_neg (by simp), f7, Option.bind_some, if_pos rfl, if_neg (by simp), f5, Option.bind_some, g4, show ((c.length : Int) != (c.length : Int)) = false from bne_self_eq_false _]
  exact j4_ok h k (by omega)
theorem j1_ok {l : List Int} (h : Bytes l) (k : Nat) (hk : 8000 ≤ k) : laws_FnSemisAreFoldings.j1 k l = some true := by
  obtain ⟨k, rfl⟩ : ∃ m, k = m + 2 := ⟨k - 2, by omega⟩
  obtain ⟨f, hf, e⟩ := drawFold_ok h (k + 1) (by omega)
  obtain ⟨q, b, hq, h1, h2⟩ := ans_f f (by omega)
  obtain ⟨a1, a2⟩ := h1 (k + 1) (by omega)
  have s1 := ySame_ev q (by omega) (k + 1) (by omega)
  rw [laws_FnSemisAreFoldings.j1, e, Option.bind_some, a1, Option.bind_some, a2, Option.bind_some, if_neg (by simp), s1, Option.bind_some, Bool.not_true, laws_FnSemisAreFoldings.j2, if_neg (by simp)]
  cases b with
  | false => rw [if_neg (by simp)]; exact j3_ok h k (by omega)
  | true =>
    obtain ⟨h24, h3⟩ := h2 rfl
    have s2 := ySame_ev f (by omega) k (by omega)
    rw [if_pos rfl, h3 k (by omega), Option.bind_some, if_pos rfl, s2, Option.bind_some, if_pos rfl]
    exact j3_ok h k (by omega)
theorem FnSemisAreFoldings : laws_FnSemisAreFoldings.Pure := by
  intro l0 l1 hl0 _ hw0 hl1 _ hw1
  obtain ⟨k, hk⟩ : ∃ k, k = l0.length + l1.length + 20000 := ⟨_, rfl⟩
  refine ⟨k, ?_⟩
  have hbig := big_ans l0 l1 hl0 hl1
  unfold laws_FnSemisAreFoldings.f
  by_cases hb : l0.length + l1.length ≤ 1048576
  case neg =>
    rw [decide_eq_false hb] at hbig
    rw [hbig]; rfl
  rw [decide_eq_true hb] at hbig
  have hB0 : Bytes l0 := ⟨by omega, fun x hx => wf_u8' (hw0 x hx)⟩
  have hB1 : Bytes l1 := ⟨by omega, fun x hx => wf_u8' (hw1 x hx)⟩
  obtain ⟨p, hp, e⟩ := semi_ok hB0 k (by omega)
  have ed : spec_DrawFoldingOfSemi.f k l0 = some p := by unfold spec_DrawFoldingOfSemi.f; rw [e]; rfl
  obtain ⟨s, a, c, u, w, hs, hk2, hS⟩ := ans_p p (by omega)
  obtain ⟨a1, a2, a3, a4, _, _⟩ := hk2 k (by omega)
  have s1 := ySame_ev s (by omega) k (by omega)
  rw [hbig, Option.bind_some, if_neg (by simp), ed, Option.bind_some, a1, Option.bind_some, a2, Option.bind_some, a3, Option.bind_some, a4, Option.bind_some, if_neg (by simp), s1, Option.bind_some, if_pos rfl, if_neg (by simp), if_neg (by simp), show (a != a) = false from bne_self_eq_false a]
  obtain ⟨k, rfl⟩ : ∃ m, k = m + 1 := ⟨k - 1, by omega⟩
  rw [laws_FnSemisAreFoldings.j0, if_neg (by simp)]
  cases a with
  | false => rw [if_neg (by simp)]; exact j1_ok hB1 k (by omega)
  | true =>
    have h := hS rfl
    unfold chkS at h
    obtain ⟨g, e1, h⟩ := ok1_iff h
    obtain ⟨q, e2, h⟩ := ok1_iff h
    obtain ⟨⟨r, rb⟩, e3, h⟩ := ok1_iff h
    obtain ⟨m, e4, h⟩ := ok1_iff h
    obtain ⟨g1, h⟩ := and_t h
    obtain ⟨g2, h⟩ := and_t h
    obtain ⟨g3, h⟩ := and_t h
    obtain ⟨g4, h⟩ := and_t h
    obtain ⟨g5, h⟩ := and_t h
    obtain ⟨g6, h⟩ := and_t h
    obtain ⟨g7, h⟩ := and_t h
    obtain ⟨g8, h⟩ := and_t h
    obtain ⟨g9, g10⟩ := and_t h
    obtain rfl := of_decide_eq_true g1
    obtain rfl := of_decide_eq_true g2
    obtain rfl := of_decide_eq_true g4
    have g3 : rb = true := g3
    have g5 : w = true := g5
    subst g3 g5
    have f1 := upK (g := fun k => impl_IsFolding.f k s) (fun k => impl_IsFolding.mono s k) e1 (k := k) (by omega)
    have f2 := upK (g := fun k => impl_SemiOfFolding.f k s) (fun k => impl_SemiOfFolding.mono s k) e2 (k := k) (by omega)
    have f3 := upK (g := fun k => impl_RainbowOf.f k (wrap64 ((p.length : Int) / 2))) (fun k => impl_RainbowOf.mono _ k) e3 (k := k) (by omega)
    have f4 := upK (g := fun k => impl_IsMeander.f k p r) (fun k => impl_IsMeander.mono p r k) e4 (k := k) (by omega)
    have f5 := (hk2 k (by omega)).2.2.2.2.1
    have s2 := ySame_ev p (by omega) k (by omega)
    rw [if_pos rfl, f1, Option.bind_some, f2, Option.bind_some, f3, Option.bind_some, f4, Option.bind_some, f5, Option.bind_some, if_pos rfl, if_pos rfl, if_pos (of_decide_eq_true g6), if_pos (of_decide_eq_true g7), if_pos (of_decide_eq_true g8), if_pos rfl, s2, Option.bind_some, if_pos rfl, if_pos rfl, if_pos rfl, if_pos rfl, if_pos rfl, if_neg (of_decide_eq_true g9), if_pos (of_decide_eq_true g10)]
    exact j1_ok hB1 k (by omega)

end Go.Proofs.YtjgkcknopnollaaGreat.Pure
